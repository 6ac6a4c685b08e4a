/- Part 1 of the proofs of these statements. No condition. -/
import Derived.Calls
import Derived.Laws.AppendOwn
import Derived.Laws.MakeOwn
import Derived.Laws.BytesString
import Derived.Below
import Derived.RangeFuncNested
import Derived.RangeFuncBound
import Derived.RangeFuncCalls
import Derived.RangeFuncLeaves
import Derived.RangeFuncBox
import Derived.OneCell
import Derived.Deep.Draws
import Derived.Deep.MidRow
import Derived.Laws.StructEq
set_option linter.unusedVariables false
set_option linter.unusedSimpArgs false
/- An evaluator of Go code over values instead of memory: what a value, a block, an operation, a code is there; how it runs. No condition. -/
namespace Go.Proofs.YtgajekpigkknnaaDoor.A
open Go

/-- A value without memory behind it: rows of slices lie in it. -/
inductive AV where
  | undef
  | bool (b : Bool)
  | int (k : IntKind) (n : Int)
  | str (s : ByteArray)
  | nilp
  | nilf
  | ro (rows : List (List AV))
  | clip (rows : List (List AV))
  | fresh (e : TypeId) (k : Nat) (rows : List (List AV))
  | lis (id gen off len : Nat)
  | ptr (id gen row off : Nat)
  | rp (row : List AV) (off : Nat)
  | clo (f : FuncId) (caps : List AV)
  | yld (d : Nat)
  /-- a variable in which a yield lies for ever -/
  | yp (d : Nat)
  | agg (cells : List AV)
  | tup (vs : List AV)
  /-- a slice that is never written again, whose cells may be lists that are; a pointer into it -/
  | refs (rows : List (List AV))
  | rq (row : List AV) (off : Nat)
  deriving Inhabited

/-- A block: none as yet; a variable of k cells; a list that may grow. lock 0: it may be written; 2: never again. -/
inductive Blk where
  | dead
  | box (lock : Nat) (e : TypeId) (row : List AV)
  | lst (lock gen : Nat) (e : TypeId) (k : Nat) (rows : List (List AV))
  deriving Inhabited

inductive AExit where
  | normal
  | exit (id : Nat)
  | ret
  deriving DecidableEq, Inhabited

structure Hp where
  bs : List Blk
  pend : List (Option AExit)
  deriving Inhabited

/-- The temporaries: the newest entry counts. -/
abbrev Tm := List (Nat × AV)
def Tm.get : Tm → Nat → AV
  | [], _ => .undef
  | (i, a) :: l, j => if i = j then a else Tm.get l j
def Tm.mask (T : Tm) (keep : List Nat) : Tm := keep.map fun i => (i, T.get i)

inductive Opd where
  | t (n : Nat)
  | c (a : AV)
  deriving Inhabited
def Opd.ev (T : Tm) : Opd → AV
  | .t n => T.get n
  | .c a => a

inductive AOp where
  | mv (x : Opd)
  /-- a nil slice, as a list that may grow -/
  | newl (e : TypeId) (k : Nat)
  | pick (c a b : Opd)
  /-- a variable; lists: the places of cells that are nil slices and may grow -/
  | alloc (e : TypeId) (zero : List AV) (lists : List (Nat × TypeId × Nat))
  | box (e : TypeId) (k : Nat) (x : Opd) (lists : List (Nat × TypeId × Nat))
  | build (zero : List AV) (parts : List (Nat × Nat × Opd)) (lists : List (Nat × TypeId × Nat))
  | buildSl (e : TypeId) (k : Nat) (zero : List AV) (n : Nat) (parts : List (Nat × Opd)) (grows : Bool)
  /-- lists that are put there become rows: of a region in any order, behind all that it looks at -/
  | buildSlF (e : TypeId) (k : Nat) (zero : List AV) (n : Nat) (parts : List (Nat × Opd))
  /-- a literal whose cells stay what they are -/
  | buildRf (e : TypeId) (k : Nat) (zero : List AV) (n : Nat) (parts : List (Nat × Opd))
  /-- a variable for a yield, and what lies in it -/
  | boxY (x : Opd)
  | loadY (x : Opd)
  /-- make: n zeros, a list that may grow -/
  | mk (e : TypeId) (k bytes : Nat) (zero : List AV) (len : Opd) (cap : Opd)
  | load (k : Nat) (agg : Bool) (p : Opd)
  | store (k : Nat) (p x : Opd)
  /-- its lists become rows first, that are never written again -/
  | storeF (k : Nat) (p x : Opd)
  | nilck (x : Opd)
  | bin (op : BinOp) (x y : Opd)
  | eqb (neg : Bool) (x y : Opd)
  | isnil (neg : Bool) (x : Opd)
  /-- of a pointer -/
  | pnil (neg : Bool) (x : Opd)
  /-- structs, arrays; the kinds of their cells: 0 bool, 1 int, 2 string -/
  | eqagg (neg : Bool) (ks : List Nat) (x y : Opd)
  | not (x : Opd)
  | neg (x : Opd)
  | conv (k : IntKind) (x : Opd)
  | clo (f : FuncId) (caps : List Opd)
  | slice (k : Nat) (x : Opd) (lo hi mx : Option Opd)
  /-- of a list; mode 0: clipped, and never written again; 1: its bounds alone; 2: up to what stands there behind it -/
  | sliceL (mode k : Nat) (x : Opd) (lo hi mx : Option Opd)
  | sslice (x : Opd) (lo hi : Option Opd)
  | slarr (k n : Nat) (x : Opd) (lo hi : Option Opd)
  | fld (off k : Nat) (agg : Bool) (x : Opd)
  | faddr (off : Nat) (x : Opd)
  | iaddr (k : Nat) (arr : Option Nat) (x i : Opd)
  | idx (k : Nat) (agg : Bool) (n : Nat) (x i : Opd)
  | sidx (x i : Opd)
  | extr (x : Opd) (i : Nat)
  | len (x : Opd)
  | slen (x : Opd)
  | lenc (n : Nat)
  | append (e : TypeId) (k bytes : Nat) (x y : Opd)
  /-- an append that fits in what stands there behind the list -/
  | appIn (e : TypeId) (k : Nat) (x y : Opd)
  /-- bytes as a string -/
  | strof (x : Opd)
  | copy (k : Nat) (x y : Opd)
  | clear (zero : List AV) (x : Opd)
  | min (x : Opd) (ys : List Opd)
  | max (x : Opd) (ys : List Opd)
  /-- a call by value of a function: its lists are told as rows, or, where wanted (keeps 1), kept as lists that may grow; keeps 2: it takes no list, and tells one alone -/
  | callV (f : FuncId) (args : List Opd) (keeps : Nat)
  /-- a call that may reach what lies here; keeps 1: what it has made stays; 2: it only reads -/
  | callR (f : Opd) (args : List Opd) (keeps : Nat)
  deriving Inhabited

structure AInstr where
  dst : Option Nat
  op : AOp
  guard : Option (Nat × Bool)
  slot : Nat
  deriving Inhabited

inductive ACode where
  | skip
  /-- pairs: of a region in any order, the loads and what is written beside them, with the writer's slot -/
  | region (slots : Nat) (ops : List AInstr) (draw : Bool) (pairs : List (Opd × Opd × Nat))
  | seq (a b : ACode)
  | cond (c : Opd) (a b : ACode)
  | block (id : Nat) (a : ACode)
  | loop (keep : List Nat) (a : ACode)
  | range (f : Opd) (ps : List Nat) (assign body : ACode)
  | exit (id : Nat)
  | ret
  /-- code that is never reached -/
  | bad
  deriving Inhabited

inductive ARes where
  | t (n : Nat)
  | cell (n : Nat) (k : Nat) (agg : Bool)
  deriving Inhabited

structure AFunc where
  np : Nat
  results : List ARes
  body : ACode
  fresh : Bool
  deriving Inhabited

/-! ### Looking at values -/
def AV.isYld : AV → Bool
  | .yld _ | .yp _ => true
  | _ => false
def AV.isData : AV → Bool
  | .bool _ | .int _ _ | .str _ | .nilp | .nilf | .ro _ => true
  | _ => false
def dataL (l : List AV) : Bool := l.all AV.isData
mutual
def AV.refsLt (m : Nat) : AV → Bool
  | .lis id _ _ _ => id < m
  | .ptr id _ _ _ => id < m
  | .clo _ cs => belowL m cs
  | .agg cs => belowL m cs
  | .tup cs => belowL m cs
  | .refs rows => belowR m rows
  | .rq row _ => belowL m row
  | _ => true
def belowL (m : Nat) : List AV → Bool
  | [] => true
  | a :: l => a.refsLt m && belowL m l
def belowR (m : Nat) : List (List AV) → Bool
  | [] => true
  | r :: l => belowL m r && belowR m l
end
def Blk.refsLt (m : Nat) : Blk → Bool
  | .dead => true
  | .box _ _ row => belowL m row
  | .lst .. => true

/-! ### Pieces of rows -/
def piece (row : List AV) (off k : Nat) : Option (List AV) := if off + k ≤ row.length then some ((row.drop off).take k) else none
def ovr (row : List AV) (off : Nat) (cs : List AV) : Option (List AV) := if off + cs.length ≤ row.length then some (row.take off ++ cs ++ row.drop (off + cs.length)) else none
def asVal (agg : Bool) (cs : List AV) : Option AV :=
  if agg then some (.agg cs) else match cs with
    | [a] => some a
    | _ => none
/-- What a cell bears of a value: its cells. -/
def AV.cells : AV → Option (List AV)
  | .agg cs => some cs
  | .tup _ | .undef | .fresh _ _ _ | .yld _ | .yp _ => none
  | a => some [a]
def eqCell : AV → AV → Option Bool
  | .bool a, .bool b => some (a == b)
  | .int k a, .int k' b => if k = k' then some (a == b) else none
  | .str a, .str b => some (a == b)
  | _, _ => none
def kindOk : Nat → AV → Bool
  | 0, .bool _ => true
  | 1, .int _ _ => true
  | 2, .str _ => true
  | _, _ => false
def eqCells : List Nat → List AV → List AV → Option Bool
  | [], [], [] => some true
  | n :: ks, a :: l, b :: r => if kindOk n a = true then match eqCell a b, eqCells ks l r with
    | some x, some y => some (x && y)
    | _, _ => none else none
  | _, _, _ => none

def cmpInt (op : BinOp) (a b : Int) : Option Bool :=
  match op with
  | .eql => some (a == b)
  | .neq => some (a != b)
  | .lss => some (decide (a < b))
  | .leq => some (decide (a ≤ b))
  | .gtr => some (decide (b < a))
  | .geq => some (decide (b ≤ a))
  | _ => none
end Go.Proofs.YtgajekpigkknnaaDoor.A

/- The operations of the evaluator but calls. No condition. -/
namespace Go.Proofs.YtgajekpigkknnaaDoor.A
open Go

def rdPtr (bs : List Blk) (p : AV) (k : Nat) : Option (List AV) :=
  match p with
  | .ptr id gen row off =>
    match bs[id]? with
    | some (.box _ _ r) => if gen = 0 ∧ row = 0 then piece r off k else none
    | some (.lst _ g _ _ rows) => if g = gen then match rows[row]? with
      | some r => piece r off k
      | none => none else none
    | _ => none
  | .rp r off => piece r off k
  | .rq r off => piece r off k
  | _ => none

/-- What a slice reads as. -/
def rowsOf (bs : List Blk) (a : AV) : Option (List (List AV)) :=
  match a with
  | .ro rows | .clip rows => some rows
  | .lis id gen off len =>
    match bs[id]? with
    | some (.lst _ g _ _ rows) => if g = gen ∧ off + len ≤ rows.length then some ((rows.drop off).take len) else none
    | _ => none
  | _ => none
def lenOf (a : AV) : Option Nat :=
  match a with
  | .ro rows | .clip rows => some rows.length
  | .lis _ _ _ len => some len
  | .refs rows => some rows.length
  | _ => none

def lockAt (bs : List Blk) (id : Nat) : List Blk :=
  match bs[id]? with
  | some (.lst _ g e k rows) => bs.set id (.lst 2 g e k rows)
  | _ => bs
/-- A cell as data: a list that it names is never written again. -/
def toData (bs : List Blk) (a : AV) : Option (AV × List Blk) :=
  match a with
  | .clip rows => some (.ro rows, bs)
  | .lis id _ _ _ => match rowsOf bs a with
    | some rows => some (.ro rows, lockAt bs id)
    | none => none
  | a => if a.isData then some (a, bs) else none
def toDataL : List Blk → List AV → Option (List AV × List Blk)
  | bs, [] => some ([], bs)
  | bs, a :: l => match toData bs a with
    | some (a', bs') => match toDataL bs' l with
      | some (l', bs'') => some (a' :: l', bs'')
      | none => none
    | none => none
/-- Cells as data: as they are, where they are data. -/
def asData (bs : List Blk) (cs : List AV) : Option (List AV × List Blk) := if dataL cs then some (cs, bs) else toDataL bs cs

def wrPtr (bs : List Blk) (p : AV) (cs : List AV) : Option (List Blk) :=
  match p with
  | .ptr id gen row off =>
    match bs[id]? with
    | some (.box 0 e r) => if gen = 0 ∧ row = 0 then (ovr r off cs).map fun r' => bs.set id (.box 0 e r') else none
    | some (.lst 0 g e k rows) => if g = gen ∧ dataL cs then match rows[row]? with
      | some r => (ovr r off cs).map fun r' => bs.set id (.lst 0 g e k (rows.set row r'))
      | none => none else none
    | _ => none
  | _ => none

/-- A block in a slot that is still free. -/
def newAt (bs : List Blk) (s : Nat) (blk : Blk) : Option (List Blk) :=
  match bs[s]? with
  | some .dead => some (bs.set s blk)
  | _ => none
/-- New lists, from a slot on, at places of a row where nil stands. -/
def growLists (s : Nat) : List (Nat × TypeId × Nat) → List AV → List Blk → Option (List AV × List Blk)
  | [], row, bs => some (row, bs)
  | (at_, e, k) :: l, row, bs => match row[at_]? with
    | some (.clip []) => match newAt bs s (.lst 0 0 e k []) with
      | some bs' => growLists (s + 1) l (row.set at_ (.lis s 0 0 0)) bs'
      | none => none
    | some _ => growLists (s + 1) l row bs
    | none => none

def fillCells (T : Tm) : List (Nat × Nat × Opd) → List AV → Option (List AV)
  | [], row => some row
  | (off, k, x) :: l, row => match (x.ev T).cells with
    | some cs => if cs.length = k then match ovr row off cs with
      | some row' => fillCells T l row'
      | none => none else none
    | none => none
def fillRows (T : Tm) (k : Nat) : List (Nat × Opd) → List (List AV) → List Blk → Option (List (List AV) × List Blk)
  | [], rows, bs => some (rows, bs)
  | (i, x) :: l, rows, bs => match (x.ev T).cells with
    | some cs => if cs.length = k ∧ i < rows.length then match asData bs cs with
      | some (cs', bs') => fillRows T k l (rows.set i cs') bs'
      | none => none else none
    | none => none

/-- As fillRows, the cells as they are. -/
def fillRf (T : Tm) (k : Nat) : List (Nat × Opd) → List (List AV) → Option (List (List AV))
  | [], rows => some rows
  | (i, x) :: l, rows => match (x.ev T).cells with
    | some cs => if cs.length = k ∧ i < rows.length then fillRf T k l (rows.set i cs) else none
    | none => none

def boundOf (T : Tm) (d : Nat) : Option Opd → Option Nat
  | none => some d
  | some x => match x.ev T with
    | .int _ n => if 0 ≤ n then some n.toNat else none
    | _ => none

def bits2 (op : BinOp) (k : IntKind) (a b : Int) : Option Int :=
  match op with
  | .and => some (k.wrap ((BitVec.ofInt k.bits a &&& BitVec.ofInt k.bits b).toNat))
  | .or => some (k.wrap ((BitVec.ofInt k.bits a ||| BitVec.ofInt k.bits b).toNat))
  | .xor => some (k.wrap ((BitVec.ofInt k.bits a ^^^ BitVec.ofInt k.bits b).toNat))
  | .andNot => some (k.wrap ((BitVec.ofInt k.bits a &&& ~~~ BitVec.ofInt k.bits b).toNat))
  | _ => none

def abin (op : BinOp) (x y : AV) : Option AV :=
  match x, y with
  | .int k a, .int k' b =>
    match op with
    | .shl => if 0 ≤ b then some (.int k (k.wrap (a * 2 ^ (Nat.min b.toNat k.bits)))) else none
    | .shr => if 0 ≤ b then some (.int k (a.fdiv (2 ^ (Nat.min b.toNat k.bits)))) else none
    | .add => if k = k' then some (.int k (k.wrap (a + b))) else none
    | .sub => if k = k' then some (.int k (k.wrap (a - b))) else none
    | .mul => if k = k' then some (.int k (k.wrap (a * b))) else none
    | .quo => if k = k' ∧ b ≠ 0 then some (.int k (k.wrap (a.tdiv b))) else none
    | .rem => if k = k' ∧ b ≠ 0 then some (.int k (a.tmod b)) else none
    | .and | .or | .xor | .andNot => if k = k' then (bits2 op k a b).map (.int k ·) else none
    | _ => if k = k' then (cmpInt op a b).map .bool else none
  | .str a, .str b =>
    match op with
    | .eql => some (.bool (a.toList == b.toList))
    | .neq => some (.bool (!(a.toList == b.toList)))
    | .lss => some (.bool (Op.bytesLess a.toList b.toList))
    | .leq => some (.bool (Op.bytesLess a.toList b.toList || a.toList == b.toList))
    | .gtr => some (.bool (!(Op.bytesLess a.toList b.toList || a.toList == b.toList)))
    | .geq => some (.bool (!Op.bytesLess a.toList b.toList))
    | .add => if a.size + b.size ≤ 4611686018427387904 then some (.str (a ++ b)) else none
    | _ => none
  | _, _ => none

/-- The elements' size fits, where it matters. -/
def rowFits (k l h : Nat) (rows : List (List AV)) : Bool := decide (l = 0) || decide (l = h) || (match rows[l]? with
  | some r => decide (r.length = k)
  | none => false)
def lisFits (bs : List Blk) (id k : Nat) : Bool := match bs[id]? with
  | some (.lst _ _ _ k' _) => decide (k' = k)
  | _ => false
def aslice (T : Tm) (bs : List Blk) (k : Nat) (a : AV) (lo hi mx : Option Opd) : Option AV :=
  match lenOf a with
  | none => none
  | some n =>
    match boundOf T 0 lo, boundOf T n hi with
    | some l, some h =>
      if l ≤ h ∧ h ≤ n then
        match a with
        | .ro rows => if rowFits k l h rows then match mx with
            | none => some (.ro ((rows.take h).drop l))
            | some x => match boundOf T 0 (some x) with
              | some m => if m = h then some (.clip ((rows.take h).drop l)) else none
              | none => none
          else none
        | .clip rows => if rowFits k l h rows then match mx with
            | none => some (if h = n then .clip ((rows.take h).drop l) else .ro ((rows.take h).drop l))
            | some x => match boundOf T 0 (some x) with
              | some m => if m = h then some (.clip ((rows.take h).drop l)) else none
              | none => none
          else none
        | .lis id gen off _ => if lisFits bs id k then match mx with
            | none => some (.lis id gen (off + l) (h - l))
            | some x => match boundOf T 0 (some x) with
              | some m => if m = h ∧ l = h then some (.clip []) else none
              | none => none
          else none
        | _ => none
      else none
    | _, _ => none

/-- A slice of a list, in a mode: its value, and whether it is never written again. -/
def asliceL (T : Tm) (bs : List Blk) (mode k : Nat) (a : AV) (lo hi mx : Option Opd) : Option (AV × List Blk) :=
  match a with
  | .lis id gen off len => match rowsOf bs (.lis id gen off len) with
    | none => none
    | some rows => match boundOf T 0 lo, boundOf T len hi with
      | some l, some h =>
        if lisFits bs id k = true ∧ l ≤ h then
          match mode, mx.isSome, boundOf T 0 mx with
          | 0, true, some m => if m = h ∧ h ≤ len then some (.clip ((rows.take h).drop l), lockAt bs id) else none
          | 1, true, some m => if h ≤ m ∧ m ≤ len then some (.undef, bs) else none
          | 2, false, _ => match bs[id]? with
            | some (.lst _ _ _ _ all) => if off = 0 ∧ h ≤ all.length then some (.lis id gen l (h - l), bs) else none
            | _ => none
          | _, _, _ => none
        else none
      | _, _ => none
  | _ => none

def asslice (T : Tm) (a : AV) (lo hi : Option Opd) : Option AV :=
  match a with
  | .str s => match boundOf T 0 lo, boundOf T s.size hi with
    | some l, some h => if l ≤ h ∧ h ≤ s.size then some (.str (s.extract l h)) else none
    | _, _ => none
  | _ => none

/-- Rows of so many cells. -/
def headFits (k : Nat) (rows : List (List AV)) : Bool := match rows with
  | [] => true
  | r :: _ => decide (r.length = k)
def aappend (s : Nat) (e k bytes : Nat) (bs : List Blk) (x : AV) (ys : List (List AV)) : Option (AV × List Blk) :=
  match x with
  | .clip rows =>
    if (rows.length + ys.length) * bytes ≤ 140737488355328 ∧ rows.length + ys.length ≤ 4611686018427387904 ∧ headFits k rows = true then
      if rows = [] ∨ ys ≠ [] then (newAt bs s (.lst 0 0 e k (rows ++ ys))).map fun bs' => (.lis s 0 0 (rows.length + ys.length), bs') else some (x, bs)
    else none
  | .lis id gen off len =>
    match bs[id]? with
    | some (.lst 0 g e' k' rows) =>
      if g = gen ∧ off = 0 ∧ len ≤ rows.length ∧ e' = e ∧ k' = k ∧ (len + ys.length) * bytes ≤ 140737488355328 ∧ len + ys.length ≤ 4611686018427387904 then
        some (.lis id (g + 1) 0 (len + ys.length), bs.set id (.lst 0 (g + 1) e k (rows.take len ++ ys)))
      else none
    | _ => none
  | _ => none

def aappIn (e k : Nat) (bs : List Blk) (x : AV) (ys : List (List AV)) : Option (AV × List Blk) :=
  match x with
  | .lis id gen off len =>
    match bs[id]? with
    | some (.lst 0 g e' k' rows) =>
      if g = gen ∧ off = 0 ∧ e' = e ∧ k' = k ∧ len + ys.length ≤ rows.length then
        some (.lis id g 0 (len + ys.length), bs.set id (.lst 0 g e k (rows.take len ++ ys ++ rows.drop (len + ys.length))))
      else none
    | _ => none
  | _ => none
/-- The bytes of rows. -/
def bytesOf : List (List AV) → Option (List UInt8)
  | [] => some []
  | [.int .u8 n] :: l => (bytesOf l).map (UInt8.ofNat n.toNat :: ·)
  | _ => none

def aminmax (mx : Bool) (k : IntKind) (a : Int) : List AV → Option AV
  | [] => some (.int k a)
  | .int _ b :: l => aminmax mx k (if mx then (if b > a then b else a) else (if b < a then b else a)) l
  | _ => none

/-- An operation that calls nothing: its value and the blocks behind it. s: its slot. -/
def aop (o : AOp) (s : Nat) (T : Tm) (bs : List Blk) : Option (AV × List Blk) :=
  match o with
  | .mv x => match x.ev T with
    | .fresh _ _ _ => none
    | a => some (a, bs)
  | .newl e k => (newAt bs s (.lst 0 0 e k [])).map fun bs' => (.lis s 0 0 0, bs')
  | .pick c a b => match c.ev T with
    | .bool true => some (a.ev T, bs)
    | .bool false => some (b.ev T, bs)
    | _ => none
  | .alloc e zero lists => match growLists (s + 1) lists zero bs with
    | some (row, bs') => (newAt bs' s (.box 0 e row)).map fun bs'' => (.ptr s 0 0 0, bs'')
    | none => none
  | .box e k x lists => match (x.ev T).cells with
    | some cs => if cs.length = k then match growLists (s + 1) lists cs bs with
        | some (row, bs') => (newAt bs' s (.box 0 e row)).map fun bs'' => (.ptr s 0 0 0, bs'')
        | none => none else none
    | none => none
  | .build zero parts lists => match fillCells T parts zero with
    | some row => match growLists s lists row bs with
      | some (row', bs') => some (.agg row', bs')
      | none => none
    | none => none
  | .buildSlF e k zero n parts => match fillRows T k parts (List.replicate n zero) bs with
    | some (rows, bs') => if rows.all dataL then some (.clip rows, bs') else none
    | none => none
  | .buildSl e k zero n parts grows => match fillRows T k parts (List.replicate n zero) bs with
    | some (rows, bs') => if rows.all dataL then (if grows then (newAt bs' s (.lst 0 0 e k rows)).map fun bs'' => (.lis s 0 0 n, bs'') else some (.clip rows, bs')) else none
    | none => none
  | .buildRf e k zero n parts => match fillRf T k parts (List.replicate n zero) with
    | some rows => some (.refs rows, bs)
    | none => none
  | .mk e k bytes zero len cap => match len.ev T, cap.ev T with
    | .int .i64 n, .int .i64 c => if 0 ≤ n ∧ n ≤ c ∧ c * bytes ≤ 140737488355328 ∧ c ≤ 4611686018427387904 ∧ dataL zero = true then (newAt bs s (.lst 0 0 e k (List.replicate n.toNat zero))).map fun bs' => (.lis s 0 0 n.toNat, bs') else none
    | _, _ => none
  | .boxY x => match x.ev T with
    | .yld d => some (.yp d, bs)
    | _ => none
  | .loadY x => match x.ev T with
    | .yp d => some (.yld d, bs)
    | _ => none
  | .load k agg p => match rdPtr bs (p.ev T) k with
    | some cs => (asVal agg cs).map (·, bs)
    | none => none
  | .store k p x => match (x.ev T).cells with
    | some cs => if cs.length = k then (wrPtr bs (p.ev T) cs).map (.tup [], ·) else none
    | none => none
  | .storeF k p x => match (x.ev T).cells with
    | some cs => if cs.length = k then match toDataL bs cs with
      | some (cs', bs') => (wrPtr bs' (p.ev T) cs').map (.tup [], ·)
      | none => none else none
    | none => none
  | .nilck x => match x.ev T with
    | .ptr a b c d => some (.ptr a b c d, bs)
    | .rp a b => some (.rp a b, bs)
    | .rq a b => some (.rq a b, bs)
    | _ => none
  | .bin op x y => (abin op (x.ev T) (y.ev T)).map (·, bs)
  | .eqb neg x y => match x.ev T, y.ev T with
    | .bool a, .bool b => some (.bool (if neg then !(a == b) else a == b), bs)
    | _, _ => none
  | .isnil neg x => match lenOf (x.ev T) with
    | some (_ + 1) => some (.bool neg, bs)
    | _ => none
  | .pnil neg x => match x.ev T with
    | .nilp => some (.bool (!neg), bs)
    | .ptr .. | .rp .. | .rq .. => some (.bool neg, bs)
    | _ => none
  | .eqagg neg ks x y => match x.ev T, y.ev T with
    | .agg a, .agg b => (eqCells ks a b).map fun c => (.bool (if neg then !c else c), bs)
    | _, _ => none
  | .not x => match x.ev T with
    | .bool b => some (.bool (!b), bs)
    | _ => none
  | .neg x => match x.ev T with
    | .int k a => some (.int k (k.wrap (0 - a)), bs)
    | _ => none
  | .conv k x => match x.ev T with
    | .int _ a => some (.int k (k.wrap a), bs)
    | _ => none
  | .clo f caps => if (caps.map (·.ev T)).any AV.isYld then none else some (.clo f (caps.map (·.ev T)), bs)
  | .slice k x lo hi mx => (aslice T bs k (x.ev T) lo hi mx).map (·, bs)
  | .sliceL mode k x lo hi mx => asliceL T bs mode k (x.ev T) lo hi mx
  | .sslice x lo hi => (asslice T (x.ev T) lo hi).map (·, bs)
  | .slarr k n x lo hi => match x.ev T with
    | .ptr id gen row off => match boundOf T 0 lo, boundOf T n hi with
      | some l, some h => if l ≤ h ∧ h ≤ n then match bs[id]? with
        | some (.box lk e r) => if gen = 0 ∧ row = 0 ∧ k = 1 ∧ lk ≠ 1 then match piece r (off + l) (h - l) with
          | some cs => if dataL cs then some (.ro (cs.map fun c => [c]), bs.set id (.box 2 e r)) else none
          | none => none else none
        | _ => none else none
      | _, _ => none
    | _ => none
  | .fld off k agg x => match x.ev T with
    | .agg cs => match piece cs off k with
      | some l => (asVal agg l).map (·, bs)
      | none => none
    | _ => none
  | .faddr off x => match x.ev T with
    | .ptr id gen row o => some (.ptr id gen row (o + off), bs)
    | .rp row o => some (.rp row (o + off), bs)
    | .rq row o => some (.rq row (o + off), bs)
    | _ => none
  | .iaddr k arr x i => match i.ev T with
    | .int _ n => if 0 ≤ n then match arr with
      | some m => if n < m then match x.ev T with
        | .ptr id gen row o => some (.ptr id gen row (o + n.toNat * k), bs)
        | .rp row o => some (.rp row (o + n.toNat * k), bs)
        | .rq row o => some (.rq row (o + n.toNat * k), bs)
        | _ => none else none
      | none => match x.ev T with
        | .ro rows | .clip rows => match rows[n.toNat]? with
          | some r => if r.length = k then some (.rp r 0, bs) else none
          | none => none
        | .refs rows => match rows[n.toNat]? with
          | some r => if r.length = k then some (.rq r 0, bs) else none
          | none => none
        | .lis id gen off len => if n.toNat < len ∧ lisFits bs id k = true then some (.ptr id gen (off + n.toNat) 0, bs) else none
        | _ => none
      else none
    | _ => none
  | .idx k agg m x i => match i.ev T, x.ev T with
    | .int _ n, .agg cs => if 0 ≤ n ∧ n < m then match piece cs (n.toNat * k) k with
      | some l => (asVal agg l).map (·, bs)
      | none => none else none
    | _, _ => none
  | .sidx x i => match i.ev T, x.ev T with
    | .int _ n, .str b => if 0 ≤ n then match b[n.toNat]? with
      | some c => some (.int .u8 c.toNat, bs)
      | none => none else none
    | _, _ => none
  | .extr x i => match x.ev T with
    | .tup vs => match vs[i]? with
      | some (.fresh _ _ _) => none
      | some a => some (a, bs)
      | none => none
    | _ => none
  | .len x => (lenOf (x.ev T)).map fun n : Nat => (AV.int .i64 (n : Int), bs)
  | .slen x => match x.ev T with
    | .str b => some (.int .i64 b.size, bs)
    | _ => none
  | .lenc n => some (.int .i64 n, bs)
  | .append e k bytes x y => match rowsOf bs (y.ev T) with
    | some ys => if headFits k ys then aappend s e k bytes bs (x.ev T) ys else none
    | none => none
  | .appIn e k x y => match rowsOf bs (y.ev T) with
    | some ys => if headFits k ys then aappIn e k bs (x.ev T) ys else none
    | none => none
  | .strof x => match rowsOf bs (x.ev T) with
    | some rows => match bytesOf rows with
      | some l => some (.str ⟨l.toArray⟩, bs)
      | none => none
    | none => none
  | .copy k0 x y => match x.ev T, rowsOf bs (y.ev T) with
    | .lis id gen off len, some ys => match bs[id]? with
      | some (.lst 0 g e k rows) =>
        if g = gen ∧ off + len ≤ rows.length ∧ k = k0 ∧ headFits k0 ys = true then
          some (.int .i64 ((Nat.min ys.length len : Nat) : Int), bs.set id (.lst 0 g e k (rows.take off ++ ys.take (Nat.min ys.length len) ++ rows.drop (off + Nat.min ys.length len))))
        else none
      | _ => none
    | _, _ => none
  | .clear zero x => match x.ev T with
    | .lis id gen off len => match bs[id]? with
      | some (.lst 0 g e k rows) => if g = gen ∧ off + len ≤ rows.length ∧ k = zero.length ∧ dataL zero = true then
          some (.tup [], bs.set id (.lst 0 g e k (rows.take off ++ List.replicate len zero ++ rows.drop (off + len)))) else none
      | _ => none
    | _ => none
  | .min x ys => match x.ev T with
    | .int k a => (aminmax false k a (ys.map (·.ev T))).map (·, bs)
    | _ => none
  | .max x ys => match x.ev T with
    | .int k a => (aminmax true k a (ys.map (·.ev T))).map (·, bs)
    | _ => none
  | .callV .. | .callR .. => none
end Go.Proofs.YtgajekpigkknnaaDoor.A

/- The run of codes and calls in the evaluator, with fuel. No condition. -/
namespace Go.Proofs.YtgajekpigkknnaaDoor.A
open Go

def snapCell (bs : List Blk) : AV → Option AV
  | .lis id gen off len => (rowsOf bs (.lis id gen off len)).map .ro
  | .clip rows => some (.ro rows)
  | a => if a.isData then some a else none
/-- A call's argument by value: what lists read as. -/
def snap (bs : List Blk) : AV → Option AV
  | .lis id gen off len => (rowsOf bs (.lis id gen off len)).map .ro
  | .bool b => some (.bool b)
  | .int k n => some (.int k n)
  | .str s => some (.str s)
  | .nilp => some .nilp
  | .nilf => some .nilf
  | .ro rows => some (.ro rows)
  | .clip rows => some (.clip rows)
  | .rp row off => some (.rp row off)
  | .agg cs => if dataL cs then some (.agg cs) else (cs.mapM (snapCell bs)).map .agg
  | .clo f cs => if dataL cs then some (.clo f cs) else none
  | _ => none
/-- The lists that values name. -/
def mutIds : List AV → List Nat
  | [] => []
  | .lis id _ _ _ :: l => id :: mutIds l
  | _ :: l => mutIds l
def argIds : List AV → List Nat
  | [] => []
  | .lis id _ _ _ :: l => id :: argIds l
  | .agg cs :: l => (if dataL cs then [] else mutIds cs) ++ argIds l
  | _ :: l => argIds l
def scalar1 : AV → Bool
  | .bool _ | .int _ _ | .str _ | .nilp | .nilf => true
  | _ => false
def scalar : AV → Bool
  | .tup vs => vs.all scalar1
  | a => scalar1 a

/-- A result by value: one list. -/
def expCell (fr : Bool) (bs : List Blk) : AV → Option AV
  | .clip rows => some (.ro rows)
  | .lis id gen off len => match bs[id]? with
    | some (.lst lk _ e k rows) => match rowsOf bs (.lis id gen off len) with
      | some l => some (if fr ∧ lk = 0 ∧ off = 0 ∧ len = rows.length then .fresh e k l else .ro l)
      | none => none
    | _ => none
  | a => if a.isData then some a else none
def expIn (fr : Bool) (bs : List Blk) : AV → Option AV
  | .agg cs => if dataL cs then some (.agg cs) else (cs.mapM (expCell false bs)).map .agg
  | a => expCell fr bs a
/-- A result by value. -/
def expRes (fr : Bool) (bs : List Blk) : AV → Option AV
  | .tup vs => if fr ∧ ¬ (argIds vs).Nodup then none else (vs.mapM (expIn fr bs)).map .tup
  | .agg cs => if dataL cs then some (.agg cs) else if fr ∧ ¬ (mutIds cs).Nodup then none else (cs.mapM (expCell fr bs)).map .agg
  | a => expCell fr bs a

/-- A result comes to the caller: lists that may grow, or rows. -/
def takeL (keeps : Bool) : Nat → List AV → List Blk → Option (List AV × List Blk)
  | _, [], bs => some ([], bs)
  | s, .fresh e k rows :: l, bs =>
    if keeps then match newAt bs s (.lst 0 0 e k rows) with
      | some bs' => (takeL keeps (s + 1) l bs').map fun r => (.lis s 0 0 rows.length :: r.1, r.2)
      | none => none
    else (takeL keeps s l bs).map fun r => (.ro rows :: r.1, r.2)
  | s, a :: l, bs => (takeL keeps s l bs).map fun r => (a :: r.1, r.2)
def freshIn : List AV → Bool
  | [] => false
  | .fresh _ _ _ :: _ => true
  | _ :: l => freshIn l
def takeRes (keeps : Bool) (s : Nat) (r : AV) (bs : List Blk) : Option (AV × List Blk) :=
  match r with
  | .tup vs => if freshIn vs then (takeL keeps s vs bs).map fun r => (.tup r.1, r.2) else some (.tup vs, bs)
  | .agg cs => if dataL cs then some (.agg cs, bs) else (takeL keeps s cs bs).map fun r => (.agg r.1, r.2)
  | .fresh e k rows => if keeps then (newAt bs s (.lst 0 0 e k rows)).map fun bs' => (.lis s 0 0 rows.length, bs') else some (.ro rows, bs)
  | a => some (a, bs)

def lockAll : List Nat → List Blk → List Blk
  | [], bs => bs
  | i :: l, bs => lockAll l (lockAt bs i)

def belowAll (m : Nat) (bs : List Blk) : Bool := bs.all (Blk.refsLt m)

/-- What runs besides. -/
structure Env where
  fn : FuncId → Option AFunc
  prim : FuncId → Option (List AV → List Blk → Option (AV × List Blk))

abbrev Hd := List AV → Hp → Option (Bool × Hp)

def setAll (T : Tm) : List Nat → List AV → Tm
  | i :: l, a :: r => setAll ((i, a) :: T) l r
  | _, _ => T
def params : Nat → List AV → Tm
  | _, [] => []
  | i, a :: l => (i, a) :: params (i + 1) l

def ares (T : Tm) (bs : List Blk) : ARes → Option AV
  | .t n => match T.get n with
    | .undef | .tup _ | .fresh _ _ _ | .yld _ | .yp _ => none
    | a => some a
  | .cell n k agg => match rdPtr bs (T.get n) k with
    | some cs => asVal agg cs
    | none => none
def aresults (rs : List ARes) (T : Tm) (bs : List Blk) : Option AV :=
  match rs with
  | [r] => ares T bs r
  | rs => (rs.mapM (ares T bs)).map .tup

/-- Whether a guarded operation runs. -/
def guardOf (T : Tm) : Option (Nat × Bool) → Option Bool
  | none => some true
  | some (t, want) => match T.get t with
    | .bool b => some (b == want)
    | .tup _ => some false
    | _ => none

def putD (T : Tm) (d : Option Nat) (a : AV) : Tm := match d with
  | some d => (d, a) :: T
  | none => T

/-- What stays of the blocks behind a call that shares them. -/
def shrink (keeps : Bool) (m : Nat) (r : AV) (hp : Hp) : Option Hp :=
  if keeps then some hp else if r.refsLt m ∧ belowAll m (hp.bs.take m) then some { hp with bs := hp.bs.take m } else none

/-- The blocks that a value names. -/
def AV.ids : AV → List Nat
  | .lis id _ _ _ => [id]
  | .ptr id _ _ _ => [id]
  | .agg cs => mutIds cs
  | _ => []
def pairOk (T : Tm) (base : Nat) (x : Opd × Opd × Nat) : Bool := (x.1.ev T).ids.all fun i => !((x.2.1.ev T).ids.contains i) && !(i == base + x.2.2)
/-- In a region in any order: what is laid into a slice is data. -/
def quietOk (T : Tm) : AOp → Bool
  | .buildSl _ _ _ _ parts _ => parts.all fun p => match (p.2.ev T).cells with
    | some cs => dataL cs
    | none => true
  | _ => true

/-- All is locked. -/
def lockQ : Blk → Blk
  | .dead => .dead
  | .box _ e r => .box 2 e r
  | .lst _ g e k rows => .lst 2 g e k rows
def scalarQ : AV → Bool
  | .agg cs => cs.all scalar1
  | a => scalar a
def ptrQ (bs bs1 : List Blk) : AV → Bool
  | .ptr id gen _ _ => match bs[id]?, bs1[id]? with
    | some (.lst _ g _ _ _), some (.lst _ g1 _ _ _) => g == gen && g1 == gen
    | _, _ => false
  | _ => false
/-- A call that only reads: all is locked. -/
def quietR (cR : FuncId → List AV → Hp → Option (AV × Hp)) (ys : List Hd) (g : FuncId) (vs : List AV) (hp : Hp) : Option (AV × Hp) :=
  match ys with
  | [] => if vs.any AV.isYld then none else match cR g vs ⟨hp.bs.map lockQ, []⟩ with
    | some p => if (scalarQ p.1 || ptrQ hp.bs p.2.bs p.1) = true then some (p.1, hp) else none
    | none => none
  | _ => none

/-- A call that writes to the list that comes first alone: all else is locked. -/
def frame0 (cR : FuncId → List AV → Hp → Option (AV × Hp)) (ys : List Hd) (g : FuncId) (vs : List AV) (hp : Hp) : Option (AV × Hp) :=
  match ys, vs with
  | [], .lis id _ _ _ :: _ => match hp.bs[id]? with
    | some (.lst 0 g0 e k rows) => match cR g vs ⟨(hp.bs.map lockQ).set id (.lst 0 g0 e k rows), []⟩ with
      | some p => match p.1, p.2.bs[id]? with
        | .lis id1 g1 off1 n1, some (.lst _ g2 _ _ rows2) => if id1 = id ∧ g1 = g0 ∧ g2 = g0 ∧ (rows2.all fun r => r.all scalar1) = true then some (.lis id1 g1 off1 n1, { hp with bs := hp.bs.set id (.lst 0 g0 e k rows2) }) else none
        | _, _ => none
      | none => none
    | _ => none
  | _, _ => none

/-- The same; what it tells is rows, and that list is never written again. -/
def frameR (cR : FuncId → List AV → Hp → Option (AV × Hp)) (ys : List Hd) (g : FuncId) (vs : List AV) (hp : Hp) : Option (AV × Hp) :=
  match frame0 cR ys g vs hp with
  | some p => (toData p.2.bs p.1).map fun q => (q.1, { p.2 with bs := q.2 })
  | none => none

/-- The same, of a callee that gets that list and plain values alone: all else is not there for it. -/
def frame1 (cR : FuncId → List AV → Hp → Option (AV × Hp)) (ys : List Hd) (g : FuncId) (vs : List AV) (hp : Hp) : Option (AV × Hp) :=
  match ys, vs with
  | [], .lis id gen off len :: us => if us.all scalar1 = true then match hp.bs[id]? with
    | some (.lst 0 g0 e k rows) => match cR g (.lis id gen off len :: us) ⟨(List.replicate hp.bs.length .dead).set id (.lst 0 g0 e k rows), []⟩ with
      | some p => match p.1, p.2.bs[id]? with
        | .lis id1 g1 off1 n1, some (.lst _ g2 _ _ rows2) => if id1 = id ∧ g1 = g0 ∧ g2 = g0 ∧ (rows2.all fun r => r.all scalar1) = true then some (.lis id1 g1 off1 n1, { hp with bs := hp.bs.set id (.lst 0 g0 e k rows2) }) else none
        | _, _ => none
      | none => none
    | _ => none else none
  | _, _ => none
def frameS (cR : FuncId → List AV → Hp → Option (AV × Hp)) (ys : List Hd) (g : FuncId) (vs : List AV) (hp : Hp) : Option (AV × Hp) :=
  match frame1 cR ys g vs hp with
  | some p => (toData p.2.bs p.1).map fun q => (q.1, { p.2 with bs := q.2 })
  | none => none

def AV.isFresh : AV → Bool
  | .fresh _ _ _ => true
  | .agg [.fresh _ _ _] => true
  | _ => false
section
variable (cV : FuncId → List AV → Option AV) (cR : FuncId → List AV → Hp → Option (AV × Hp)) (ys : List Hd)
/-- One operation. q: its region's order is open. -/
def aexec (q : Bool) (s : Nat) (op : AOp) (T : Tm) (hp : Hp) : Option (AV × Hp) :=
  match op with
  | .callV f args keeps => match (args.map (·.ev T)).mapM (snap hp.bs) with
    | some vs => match cV f vs with
      | some r =>
        if keeps = 2 ∧ ¬ (argIds (args.map (·.ev T)) = [] ∧ r.isFresh = true) then none else
        if argIds (args.map (·.ev T)) = [] ∨ scalar r then (takeRes (keeps != 0) s r hp.bs).map fun p => (p.1, { hp with bs := p.2 })
        else if q then none else (takeRes (keeps != 0) s r (lockAll (argIds (args.map (·.ev T))) hp.bs)).map fun p => (p.1, { hp with bs := p.2 })
      | none => none
    | none => none
  | .callR f args keeps => match f.ev T with
    | .clo g caps => if keeps = 2 then quietR cR ys g (args.map (·.ev T) ++ caps) hp else if keeps = 3 then frameR cR ys g (args.map (·.ev T) ++ caps) hp else if keeps = 4 then frameS cR ys g (args.map (·.ev T) ++ caps) hp else match cR g (args.map (·.ev T) ++ caps) hp with
      | some (r, hp') => (shrink (keeps == 1) hp.bs.length r hp').map fun hp'' => (r, hp'')
      | none => none
    | .yld d => if 2 ≤ keeps ∨ (args.map (·.ev T)).any AV.isYld then none else match ys[d]? with
      | some h => (h (args.map (·.ev T)) hp).map fun p => (.bool p.1, p.2)
      | none => none
    | _ => none
  | o => if q && !quietOk T o then none else (aop o s T hp.bs).map fun p => (p.1, { hp with bs := p.2 })
def ainstr (q : Bool) (base : Nat) (i : AInstr) (T : Tm) (hp : Hp) : Option (Tm × Hp) :=
  match guardOf T i.guard with
  | none => none
  | some false => some (putD T i.dst (.tup []), hp)
  | some true => (aexec cV cR ys q (base + i.slot) i.op T hp).map fun p => (putD T i.dst p.1, p.2)
def aops (q : Bool) (base : Nat) : List AInstr → Tm → Hp → Option (Tm × Hp)
  | [], T, hp => some (T, hp)
  | i :: l, T, hp => match ainstr cV cR ys q base i T hp with
    | some (T', hp') => aops q base l T' hp'
    | none => none
end

/-- The results of a function. -/
def afin (rs : List ARes) : Option (AExit × Tm × Hp) → Option (AV × Hp)
  | some (.normal, T, hp) | some (.ret, T, hp) => (aresults rs T hp.bs).map (·, hp)
  | _ => none

mutual
def acode (E : Env) : Nat → List Hd → ACode → Tm → Hp → Option (AExit × Tm × Hp)
  | 0, _, _, _, _ => none
  | n + 1, ys, c, T, hp =>
    match c with
    | .skip => some (.normal, T, hp)
    | .region slots ops draw pairs => match aops (acallV E n) (acall E n ys) ys draw hp.bs.length ops T { hp with bs := hp.bs ++ List.replicate slots .dead } with
      | some (T', hp') => if draw && !(pairs.all (pairOk T' hp.bs.length)) then none else some (.normal, T', hp')
      | none => none
    | .seq a b => match acode E n ys a T hp with
      | some (.normal, T', hp') => acode E n ys b T' hp'
      | r => r
    | .cond c a b => match c.ev T with
      | .bool true => acode E n ys a T hp
      | .bool false => acode E n ys b T hp
      | _ => none
    | .block id a => match acode E n ys a T hp with
      | some (.exit i, T', hp') => if i = id then some (.normal, T', hp') else some (.exit i, T', hp')
      | r => r
    | .loop keep a => aloop E n ys hp.bs.length keep a T hp
    | .exit id => some (.exit id, T, hp)
    | .ret => some (.ret, T, hp)
    | .bad => none
    | .range f ps assign body => match f.ev T with
      | .clo g caps => if (E.prim g).isSome then none else
        let h : Hd := fun args hp => match hp.pend[ys.length]? with
          | some none => if args.length = ps.length then match acode E n ys assign (setAll T ps args) { hp with pend := hp.pend.take ys.length } with
            | some (.normal, T1, hp1) => match acode E n ys body T1 hp1 with
              | some (.normal, _, hp') => (shrink false hp.bs.length .undef hp').map fun h' => (true, { h' with pend := h'.pend ++ none :: hp.pend.drop (ys.length + 1) })
              | some (ex, _, hp') => (shrink false hp.bs.length .undef hp').map fun h' => (false, { h' with pend := h'.pend ++ some ex :: hp.pend.drop (ys.length + 1) })
              | none => none
            | _ => none else none
          | _ => none
        match acall E n (ys ++ [h]) g (.yld ys.length :: caps) { hp with pend := hp.pend ++ [none] } with
        | some (_, hp') => match hp'.pend[ys.length]? with
          | some none => (shrink false hp.bs.length .undef { hp' with pend := hp'.pend.take ys.length }).map (.normal, T, ·)
          | some (some ex) => (shrink false hp.bs.length .undef { hp' with pend := hp'.pend.take ys.length }).map (ex, T, ·)
          | none => none
        | none => none
      | _ => none
def aloop (E : Env) : Nat → List Hd → Nat → List Nat → ACode → Tm → Hp → Option (AExit × Tm × Hp)
  | 0, _, _, _, _, _, _ => none
  | n + 1, ys, m, keep, a, T, hp =>
    if belowL m ((T.mask keep).map (·.2)) ∧ belowAll m (hp.bs.take m) then
      match acode E n ys a (T.mask keep) { hp with bs := hp.bs.take m } with
      | some (.normal, T', hp') => aloop E n ys m keep a T' hp'
      | r => r
    else none
/-- A call that shares the blocks. -/
def acall (E : Env) : Nat → List Hd → FuncId → List AV → Hp → Option (AV × Hp)
  | 0, _, _, _, _ => none
  | n + 1, ys, f, args, hp =>
    match E.prim f with
    | some p => if args.any AV.isYld then none else (p args hp.bs).map fun r => (r.1, { hp with bs := r.2 })
    | none => match E.fn f with
      | some fn => if args.length = fn.np then afin fn.results (acode E n ys fn.body (params 0 args) hp) else none
      | none => none
/-- A call by value. -/
def acallV (E : Env) : Nat → FuncId → List AV → Option AV
  | 0, _, _ => none
  | n + 1, f, args =>
    match E.prim f with
    | some p => match p args [] with
      | some (r, bs) => expRes true bs r
      | none => none
    | none => match E.fn f with
      | some fn => if args.length = fn.np then match afin fn.results (acode E n [] fn.body (params 0 args) ⟨[], []⟩) with
        | some (r, hp') => expRes fn.fresh hp'.bs r
        | none => none else none
      | none => none
end
end Go.Proofs.YtgajekpigkknnaaDoor.A

/- How the evaluator's form of a function is read off the program: each operation by the types' table. No condition. -/
namespace Go.Proofs.YtgajekpigkknnaaDoor.A
open Go

def tsize (P : Program) (t : TypeId) : Option Nat := (P.info? t).map (·.size)
def tagg (P : Program) (t : TypeId) : Option Bool := (P.underlying t).map fun
  | .struct _ | .array _ _ => true
  | _ => false
def const1 : Value → Option AV
  | .bool b => some (.bool b)
  | .int k n => some (.int k n)
  | .string s => some (.str s)
  | .slice none 0 0 => some (.clip [])
  | .pointer none => some .nilp
  | .nilFunc => some .nilf
  | _ => none
def const1L : List Value → Option (List AV)
  | [] => some []
  | v :: l => match const1 v, const1L l with
    | some a, some r => some (a :: r)
    | _, _ => none
def constAV : Value → Option AV
  | .agg cs => (const1L cs.toList).map .agg
  | v => const1 v
def zeroL (P : Program) (t : TypeId) : Option (List AV) := match P.info? t with
  | some i => match i.zero with
    | some z => match const1L z.cells.toList with
      | some l => if l.length = i.size ∧ z.oneCell' = !(tagg P t == some true) then some l else none
      | none => none
    | none => none
  | none => none

def cOpd (G : Nat → Option (List AV)) : Operand → Option Opd
  | .tmp t => some (.t t)
  | .const v => (constAV v).map .c
  | .func f => some (.c (.clo f []))
  | .global g => (G g).map fun row => .c (.rp row 0)
def cOpds (G : Nat → Option (List AV)) : List Operand → Option (List Opd)
  | [] => some []
  | x :: l => match cOpd G x, cOpds G l with
    | some a, some r => some (a :: r)
    | _, _ => none
def cOpt (G : Nat → Option (List AV)) : Option Operand → Option (Option Opd)
  | none => some none
  | some x => (cOpd G x).map some

/-- The lists that may grow: their elements are of the size told. -/
def listsOk (P : Program) (l : List (Nat × TypeId × Nat)) : Bool := l.all fun (_, e, k) => decide (0 < k) && (tsize P e == some k)
/-- Sizes, and that a value that is no struct has one cell. -/
def ksize (P : Program) (t : TypeId) : Option (Nat × Bool) := match tsize P t, tagg P t with
  | some k, some agg => if agg || k == 1 then some (k, agg) else none
  | _, _ => none
def fieldOf (P : Program) (t : TypeId) (f : Nat) : Option (Nat × TypeId) := match P.underlying t with
  | some (.struct fs) => match fs[f]? with
    | some fl => some (fl.offset, fl.type)
    | none => none
  | _ => none

/-- The kinds of the cells of fields. -/
def flatFs (P : Program) (rec : TypeId → Option (List Nat)) : Nat → List Field → Option (List Nat)
  | _, [] => some []
  | off, f :: l => if f.name ≠ "_" ∧ f.offset = off then match rec f.type, ksize P f.type with
    | some ks, some (n, _) => if ks.length = n ∧ 0 < n then (flatFs P rec (off + n) l).map (ks ++ ·) else none
    | _, _ => none else none
def flatEs (ks : List Nat) : Nat → List Nat
  | 0 => []
  | n + 1 => ks ++ flatEs ks n
/-- The kinds of the cells of a type whose values are compared cell by cell. -/
def flatK (P : Program) : Nat → TypeId → Option (List Nat)
  | 0, _ => none
  | d + 1, t => match P.underlying t with
    | some .bool => some [0]
    | some (.int _) => some [1]
    | some .string => some [2]
    | some (.struct fs) => if P.stoodInHeld t then none else flatFs P (flatK P d) 0 fs.toList
    | some (.array n e) => match flatK P d e, ksize P e with
      | some l, some (k, _) => if l.length = k ∧ 0 < k then some (flatEs l n) else none
      | _, _ => none
    | _ => none

def sliceEl (P : Program) (t : TypeId) : Option (TypeId × Nat) := match P.underlying t with
  | some (.slice e) => match tsize P e with
    | some k => if 0 < k then some (e, k) else none
    | none => none
  | _ => none

def buildParts (P : Program) (G : Nat → Option (List AV)) (place : Nat → Option (Nat × Nat)) : List (Nat × Operand) → Option (List (Nat × Nat × Opd))
  | [] => some []
  | (i, x) :: l => match place i, cOpd G x, buildParts P G place l with
    | some (off, k), some a, some r => some ((off, k, a) :: r)
    | _, _, _ => none
def slParts (G : Nat → Option (List AV)) : List (Nat × Operand) → Option (List (Nat × Opd))
  | [] => some []
  | (i, x) :: l => match cOpd G x, slParts G l with
    | some a, some r => some ((i, a) :: r)
    | _, _ => none
def placeOf (P : Program) (t : TypeId) : Nat → Option (Nat × Nat) := match P.underlying t with
  | some (.struct fs) => match fs.toList.mapM (fun f => (P.info? f.type).map fun i => (f.offset, i.size)) with
    | some places => fun i => places.toArray[i]?
    | none => fun _ => none
  | some (.array _ e) => match P.info? e with
    | some ie => fun i => some (i * ie.size, ie.size)
    | none => fun _ => none
  | _ => fun _ => none

/-- An operation in the evaluator's form; g: what it is wanted to be, for what is free to choose. -/
def cOp (P : Program) (G : Nat → Option (List AV)) (g : AOp) (o : Oper) : Option AOp :=
  match o.op with
  | .move x => (cOpd G x).map .mv
  | .assign x => match g, x with
    | .newl e k, .const (.slice none 0 0) => if 0 < k ∧ tsize P e = some k then some (.newl e k) else none
    | _, _ => (cOpd G x).map .mv
  | .pick c a b => match cOpd G c, cOpd G a, cOpd G b with
    | some c, some a, some b => some (.pick c a b)
    | _, _, _ => none
  | .alloc t => match g, zeroL P t with
    | .alloc _ _ lists, some z => if listsOk P lists then some (.alloc t z lists) else none
    | _, _ => none
  | .box t x => match g, cOpd G x, tsize P t with
    | .box _ _ _ lists, some x, some k => if listsOk P lists then some (.box t k x lists) else none
    | .boxY _, some x, _ => some (.boxY x)
    | _, _, _ => none
  | .build t ps => match g, zeroL P t, buildParts P G (placeOf P t) ps.toList, tagg P t with
    | .build _ _ lists, some z, some l, some true => if listsOk P lists ∧ (P.built t []).isSome = true then some (.build z l lists) else none
    | _, _, _, _ => none
  | .buildSlice t n ps => match g, sliceEl P t, slParts G ps.toList with
    | .buildSl _ _ _ _ _ grows, some (e, k), some l => match zeroL P e with
      | some z => if n * k ≤ 16777216 then some (.buildSl e k z n l grows) else none
      | none => none
    | .buildSlF _ _ _ _ _, some (e, k), some l => match zeroL P e with
      | some z => if n * k ≤ 16777216 then some (.buildSlF e k z n l) else none
      | none => none
    | .buildRf _ _ _ _ _, some (e, k), some l => match zeroL P e with
      | some z => if n * k ≤ 16777216 then some (.buildRf e k z n l) else none
      | none => none
    | _, _, _ => none
  | .makeSlice t l c => match sliceEl P t, cOpd G l, cOpd G c with
    | some (e, k), some l, some c => match zeroL P e, P.info? e with
      | some z, some i => some (.mk e k i.bytes z l c)
      | _, _ => none
    | _, _, _ => none
  | .load t x => match ksize P t, cOpd G x with
    | some (k, agg), some x => match g with
      | .loadY _ => if agg = false then some (.loadY x) else none
      | _ => some (.load k agg x)
    | _, _ => none
  | .store t x y => match ksize P t, cOpd G x, cOpd G y with
    | some (k, _), some x, some y => match g with
      | .storeF _ _ _ => some (.storeF k x y)
      | _ => some (.store k x y)
    | _, _, _ => none
  | .nilCheck x => (cOpd G x).map .nilck
  | .binOp op t x y _ => match g with
    | .isnil _ _ => match P.underlying t, op, x, y with
      | some (.slice _), .eql, x, .const (.slice none 0 0) => (cOpd G x).map (.isnil false)
      | some (.slice _), .neq, x, .const (.slice none 0 0) => (cOpd G x).map (.isnil true)
      | _, _, _, _ => none
    | .pnil _ _ => match P.underlying t, op, x, y with
      | some (.pointer _), .eql, x, .const (.pointer none) => (cOpd G x).map (.pnil false)
      | some (.pointer _), .neq, x, .const (.pointer none) => (cOpd G x).map (.pnil true)
      | _, _, _, _ => none
    | .eqagg _ _ _ _ => match op, flatK P 40 t, cOpd G x, cOpd G y, P.eqGuardType P.depth t, tagg P t with
      | .eql, some ks, some x, some y, false, some true => some (.eqagg false ks x y)
      | .neq, some ks, some x, some y, false, some true => some (.eqagg true ks x y)
      | _, _, _, _, _, _ => none
    | _ => match cOpd G x, cOpd G y, P.underlying t with
      | some x, some y, some u => (match op, u with
        | .eql, .bool => some (.eqb false x y)
        | .neq, .bool => some (.eqb true x y)
        | .eql, .int _ | .neq, .int _ | .eql, .string | .neq, .string => some (.bin op x y)
        | .eql, _ | .neq, _ => none
        | _, _ => some (.bin op x y))
      | _, _, _ => none
  | .unOp .not _ x => (cOpd G x).map .not
  | .unOp .neg _ x => (cOpd G x).map .neg
  | .convert s d x => match P.underlying s, P.underlying d, cOpd G x with
    | some _, some (.int k), some x => some (.conv k x)
    | some (.slice e), some .string, some x => match P.underlying e with
      | some (.int .u8) => some (.strof x)
      | _ => none
    | _, _, _ => none
  | .makeFunc (.func f) first caps => if first.size = 0 then (cOpds G caps.toList).map (.clo f ·) else none
  | .slice t x lo hi mx => match P.underlying t, cOpd G x, cOpt G lo, cOpt G hi, cOpt G mx with
    | some (.slice e), some x, some lo, some hi, some mx => if mx.isNone || hi.isSome then match g with
      | .sliceL mode _ _ _ _ _ => (tsize P e).map fun k => .sliceL mode k x lo hi mx
      | _ => (tsize P e).map fun k => .slice k x lo hi mx
      else none
    | some .string, some x, some lo, some hi, some none => some (.sslice x lo hi)
    | some (.array n e), some x, some lo, some hi, some none => (tsize P e).map fun k => .slarr k n x lo hi
    | _, _, _, _, _ => none
  | .field t x f => match fieldOf P t f, cOpd G x with
    | some (off, ft), some x => (ksize P ft).map fun k => .fld off k.1 k.2 x
    | _, _ => none
  | .fieldAddr t x f => match fieldOf P t f, cOpd G x with
    | some (off, ft), some x => match tsize P ft with
      | some k => if k = 0 then none else some (.faddr off x)
      | none => none
    | _, _ => none
  | .indexAddr t x i => match P.underlying t, cOpd G x, cOpd G i with
    | some (.slice e), some x, some i => (tsize P e).map fun k => .iaddr k none x i
    | some (.array n e), some x, some i => (tsize P e).map fun k => .iaddr k (some n) x i
    | _, _, _ => none
  | .index t x i => match P.underlying t, cOpd G x, cOpd G i with
    | some .string, some x, some i => some (.sidx x i)
    | some (.array n e), some x, some i => (ksize P e).map fun k => .idx k.1 k.2 n x i
    | _, _, _ => none
  | .extract x i => (cOpd G x).map (.extr · i)
  | .call c => match c.callee, c.args.toList, c.argTypes.toList with
    | .builtin .len, [x], [t] => match P.underlying t, cOpd G x with
      | some (.slice _), some x => some (.len x)
      | some .string, some x => some (.slen x)
      | some (.array n _), some _ => some (.lenc n)
      | some (.pointer a), some _ => match P.underlying a with
        | some (.array n _) => some (.lenc n)
        | _ => none
      | _, _ => none
    | .builtin .append, [x, y], [t, u] => if t = u then match sliceEl P t, cOpd G x, cOpd G y with
      | some (e, k), some x, some y => match P.info? e with
        | some i => match i.zero with
          | some z => if z.cells.size = k ∧ 0 < i.bytes then match g with
            | .appIn _ _ _ _ => some (.appIn e k x y)
            | _ => some (.append e k i.bytes x y)
            else none
          | none => none
        | none => none
      | _, _, _ => none else none
    | .builtin .copy, [x, y], [t, _] => match sliceEl P t, cOpd G x, cOpd G y with
      | some (_, k), some x, some y => some (.copy k x y)
      | _, _, _ => none
    | .builtin .clear, [x], [t] => match sliceEl P t, cOpd G x with
      | some (e, _), some x => (zeroL P e).map (.clear · x)
      | _, _ => none
    | .builtin .min, x :: l, _ => match cOpd G x, cOpds G l with
      | some x, some l => some (.min x l)
      | _, _ => none
    | .builtin .max, x :: l, _ => match cOpd G x, cOpds G l with
      | some x, some l => some (.max x l)
      | _, _ => none
    | .value (.func f), xs, _ => match g, cOpds G xs with
      | .callV _ _ keeps, some xs => some (.callV f xs keeps)
      | .callR _ _ keeps, some xs => some (.callR (.c (.clo f [])) xs keeps)
      | _, _ => none
    | .value f, xs, _ => match g, cOpd G f, cOpds G xs with
      | .callR _ _ keeps, some f, some xs => some (.callR f xs keeps)
      | _, _, _ => none
    | _, _, _ => none
  | _ => none

/-- How many slots an operation takes. -/
def AOp.slots : AOp → Nat
  | .newl .. => 1
  | .alloc _ _ l => 1 + l.length
  | .box _ _ _ l => 1 + l.length
  | .build _ _ l => l.length
  | .buildSl .. => 1
  | .append .. => 1
  | .mk .. => 1
  | _ => 0
def cGuard (ops : Array Oper) : Option (Nat × Bool) → Option (Option (Nat × Bool))
  | none => some none
  | some (j, want) => match (ops[j]?).bind (·.dst) with
    | some t => some (some (t, want))
    | none => none
def dstOk (nt : Nat) : Option Nat → Bool
  | some d => decide (d < nt)
  | none => true
def cOps (P : Program) (G : Nat → Option (List AV)) (nt : Nat) (ops : Array Oper) : List AInstr → List Oper → Option (List AInstr)
  | [], [] => some []
  | g :: gs, o :: l => match cOp P G g.op o, cGuard ops o.guard, cOps P G nt ops gs l with
    | some a, some gd, some r => if dstOk nt o.dst then some (⟨o.dst, a, gd, g.slot⟩ :: r) else none
    | _, _, _ => none
  | _, _ => none
/-! ### Regions whose order is open -/
def edgesOf (o : Oper) : List Nat := (o.after.toList.filter (Region.binds .any)).map (·.on)
/-- For each operation, as bits, what must come ahead of it. -/
def befs : List Nat → List Oper → List Nat
  | acc, [] => acc
  | acc, o :: l => befs (acc ++ [(edgesOf o).foldl (fun b j => b ||| (2 ^ j ||| acc.getD j 0)) 0]) l
def AOp.opds : AOp → List Opd
  | .boxY x | .loadY x | .mv x | .nilck x | .not x | .neg x | .conv _ x | .fld _ _ _ x | .faddr _ x | .extr x _ | .len x | .slen x | .load _ _ x | .isnil _ x | .pnil _ x | .clear _ x | .strof x => [x]
  | .box _ _ x _ => [x]
  | .pick c a b => [c, a, b]
  | .build _ l _ => l.map (·.2.2)
  | .buildSl _ _ _ _ l _ => l.map (·.2)
  | .buildRf _ _ _ _ l | .buildSlF _ _ _ _ l => l.map (·.2)
  | .store _ x y | .storeF _ x y | .bin _ x y | .eqb _ x y | .eqagg _ _ x y | .iaddr _ _ x y | .idx _ _ _ x y | .sidx x y | .append _ _ _ x y | .copy _ x y | .appIn _ _ x y | .mk _ _ _ _ x y => [x, y]
  | .clo _ l => l
  | .slice _ x lo hi mx | .sliceL _ _ x lo hi mx => x :: (lo.toList ++ hi.toList ++ mx.toList)
  | .sslice x lo hi | .slarr _ _ x lo hi => x :: (lo.toList ++ hi.toList)
  | .min x l | .max x l => x :: l
  | .callV _ l _ => l
  | .callR f l _ => f :: l
  | .newl .. | .alloc .. | .lenc _ => []
def Opd.tmp : Opd → Option Nat
  | .t n => some n
  | .c _ => none
def AInstr.looks (i : AInstr) : List Nat := i.op.opds.filterMap Opd.tmp ++ (match i.guard with
  | some (t, _) => [t]
  | none => [])
def iapart (i j : AInstr) : Bool :=
  (match i.dst with
   | some d => !(j.looks.contains d) && !(j.dst == some d)
   | none => true) &&
  (match j.dst with
   | some d => !(i.looks.contains d)
   | none => true)
/-- It looks at nothing but its operands, and writes nothing. -/
def clsP : AOp → Bool
  | .boxY _ | .loadY _ | .mv _ | .pick .. | .nilck _ | .bin .. | .eqb .. | .isnil .. | .pnil .. | .eqagg .. | .not _ | .neg _ | .conv .. | .clo .. | .fld .. | .faddr .. | .idx .. | .sidx .. | .extr .. | .len _ | .slen _ | .lenc _ | .min .. | .max .. | .sslice .. | .build _ _ [] | .buildSl _ _ _ _ _ false | .buildRf .. => true
  | .iaddr _ (some _) _ _ => true
  | _ => false
/-- It reads, and writes nothing. -/
def clsR : AOp → Bool
  | .load .. | .callV _ _ 0 | .iaddr _ none _ _ | .slice .. | .strof _ => true
  | _ => false
/-- A call that only reads. -/
def clsQ : AOp → Bool
  | .callR _ _ 2 => true
  | _ => false
/-- At a place of a struct that is built stands nil, and nothing is put there. -/
def buildN (z : List AV) (ps : List (Nat × Nat × Opd)) (a : Nat) : Bool := (match z[a]? with
  | some (.clip []) => true
  | _ => false) && ps.all fun p => decide (a < p.1 ∨ p.1 + p.2.1 ≤ a)
/-- It makes one block. -/
def clsN : AOp → Bool
  | .build z ps [x] => buildN z ps x.1
  | .alloc _ _ [] | .box _ _ _ [] | .newl .. | .buildSl _ _ _ _ _ true | .callV _ _ 2 => true
  | _ => false
def clsS : AOp → Bool
  | .slarr .. => true
  | _ => false
/-- It makes a list one that is never written again. -/
def clsL : AOp → Bool
  | .sliceL 0 _ _ _ _ _ => true
  | _ => false
/-- What a writer writes to. -/
def tgt : AOp → Option Opd
  | .store _ x _ | .append _ _ _ x _ | .copy _ x _ | .clear _ x | .callR _ (x :: _) 3 | .callR _ (x :: _) 4 => some x
  | _ => none
def noIds : Opd → Bool
  | .c a => a.ids.isEmpty
  | .t _ => false
def Opd.beq : Opd → Opd → Bool
  | .t a, .t b => a == b
  | _, _ => false
def inPairs (pairs : List (Opd × Opd × Nat)) (x : Opd) (y : Option Opd) (s : Nat) : Bool :=
  noIds x || pairs.any fun p => p.1.beq x && (match y with
    | some y => p.2.1.beq y
    | none => true) && p.2.2 == s
/-- It looks at the elements' size alone. -/
def clsK : AOp → Bool
  | .iaddr _ none _ _ | .slice .. => true
  | _ => false
def isApp : AOp → Bool
  | .append .. => true
  | _ => false
/-- An element's size is looked at beside a write. -/
def sizeBeside (pairs : List (Opd × Opd × Nat)) (i j : AInstr) : Bool := clsK i.op && (tgt j.op).isSome && (!isApp j.op || i.op.opds.all fun x => inPairs pairs x none j.slot)
/-- Of two operations in whatever order. -/
def besides (pairs : List (Opd × Opd × Nat)) (i j : AInstr) : Bool :=
  clsP i.op || clsP j.op ||
  (clsR i.op && clsR j.op) || (clsR i.op && clsS j.op) || (clsS i.op && clsR j.op) || (clsS i.op && clsS j.op) ||
  (clsN i.op && clsN j.op && !(i.slot == j.slot)) ||
  ((clsR i.op || clsS i.op) && clsN j.op && i.op.opds.all fun x => inPairs pairs x none j.slot) ||
  (clsN i.op && (clsR j.op || clsS j.op) && j.op.opds.all fun x => inPairs pairs x none i.slot) ||
  sizeBeside pairs i j || sizeBeside pairs j i ||
  (match i.op, tgt j.op with
   | .load _ _ x, some y => inPairs pairs x (some y) j.slot
   | _, _ => false) ||
  (match j.op, tgt i.op with
   | .load _ _ x, some y => inPairs pairs x (some y) i.slot
   | _, _ => false) ||
  (clsN i.op && (match j.op with
   | .store _ x _ => inPairs pairs x none i.slot
   | _ => false)) ||
  (clsN j.op && (match i.op with
   | .store _ x _ => inPairs pairs x none j.slot
   | _ => false)) ||
  (clsN i.op && (match j.op with
   | .callR _ (x :: _) 4 => inPairs pairs x none i.slot
   | _ => false)) ||
  (clsN j.op && (match i.op with
   | .callR _ (x :: _) 4 => inPairs pairs x none j.slot
   | _ => false)) ||
  (clsL i.op && clsR j.op) || (clsR i.op && clsL j.op) ||
  (clsL i.op && (match j.op with
   | .store _ y _ => i.op.opds.all fun x => inPairs pairs x (some y) j.slot
   | _ => false)) ||
  (clsL j.op && (match i.op with
   | .store _ y _ => j.op.opds.all fun x => inPairs pairs x (some y) i.slot
   | _ => false)) ||
  ((clsR i.op || clsQ i.op) && (clsR j.op || clsQ j.op)) ||
  (clsN i.op && (isApp j.op && (!(i.slot == j.slot) && j.op.opds.all fun x => inPairs pairs x none i.slot))) ||
  (clsN j.op && (isApp i.op && (!(i.slot == j.slot) && i.op.opds.all fun x => inPairs pairs x none j.slot)))
/-- What the pairs name is written no more. -/
def stab (pairs : List (Opd × Opd × Nat)) : List AInstr → Bool
  | [] => true
  | i :: l => (i.op.opds.all fun x => match x with
    | .t n => !(pairs.any fun p => p.1.beq x || p.2.1.beq x) || (i :: l).all fun k => !(k.dst == some n)
    | .c _ => true) && stab pairs l
def sideOk (pairs : List (Opd × Opd × Nat)) (bf : List Nat) : Nat → List AInstr → Bool
  | _, [] => true
  | j, x :: l => (l.zipIdx (j + 1)).all (fun y => (bf.getD y.2 0).testBit j || (iapart x y.1 && besides pairs x y.1)) && sideOk pairs bf (j + 1) l
def drawOk (ops : List Oper) (l : List AInstr) (pairs : List (Opd × Opd × Nat)) : Bool :=
  (ops.zipIdx.all fun o => (edgesOf o.1).all fun j => decide (j < o.2)) && stab pairs l && sideOk pairs (befs [] ops) 0 l
def cCode (P : Program) (G : Nat → Option (List AV)) (nt : Nat) : ACode → Code → Option ACode
  | .skip, .skip => some .skip
  | .ret, .ret => some .ret
  | .exit _, .exit i => some (.exit i)
  | .seq g h, .seq a b => match cCode P G nt g a, cCode P G nt h b with
    | some a, some b => some (.seq a b)
    | _, _ => none
  | .cond _ g h, .cond c a b => match cOpd G c, cCode P G nt g a, cCode P G nt h b with
    | some c, some a, some b => some (.cond c a b)
    | _, _, _ => none
  | .block _ g, .block i a => (cCode P G nt g a).map (.block i)
  | .loop keep g, .loop a => (cCode P G nt g a).map (.loop keep)
  | .range _ _ g h, .rangeFunc f ps a b => match cOpd G f, cCode P G nt g a, cCode P G nt h b with
    | some f, some a, some b => if ps.toList.all (fun p => decide (p < nt)) then some (.range f ps.toList a b) else none
    | _, _, _ => none
  | .region slots gs _ pairs, .region _ ops draw => match cOps P G nt ops gs ops.toList with
    | some l => if !draw || (P.follows .mixedOrders && drawOk ops.toList l pairs) then some (.region slots l draw pairs) else none
    | none => none
  | .bad, _ => some .bad
  | _, _ => none
def cRes (P : Program) : ResultVar → Option ARes
  | .tmp t => some (.t t)
  | .cell t ty => (ksize P ty).map fun k => .cell t k.1 k.2
def cResL (P : Program) : List ResultVar → Option (List ARes)
  | [] => some []
  | r :: l => match cRes P r, cResL P l with
    | some a, some b => some (a :: b)
    | _, _ => none
def cFunc (P : Program) (G : Nat → Option (List AV)) (g : AFunc) (fn : Func) : Option AFunc :=
  match fn.body, cResL P fn.results.toList with
  | some c, some rs => (cCode P G fn.ntmps g.body c).map fun b => ⟨fn.params.size + fn.nfree, rs, b, g.fresh⟩
  | _, _ => none
end Go.Proofs.YtgajekpigkknnaaDoor.A

/- The count of what was drawn never falls. No condition. -/
namespace Go.Proofs.YtgajekpigkknnaaDoor.A
open Go
theorem ex_bind {α β ε : Type} {x : Except ε α} {f : α → Except ε β} {r : β} (h : (x >>= f) = .ok r) : ∃ a, f a = .ok r := by
  cases x with
  | ok a => exact ⟨a, h⟩
  | error e => cases h
theorem viewStore_drawn {p : Program} {w : World} {at_ : Addr} {u : TypeId} {k : Addr} {v : Value} {atomic : Bool} {r : World × List Addr} (h : w.viewStore p at_ u k v atomic = .ok r) : r.1.drawn = w.drawn := by
  unfold World.viewStore at h
  dsimp only at h
  repeat' (first
    | (cases h; rfl)
    | (cases h; done)
    | exact absurd (show Except.error _ = Except.ok r from h) (by nofun)
    | (obtain ⟨_, h⟩ := ex_bind h)
    | (split at h))
theorem farStore_drawn {p : Program} {w : World} {a : Addr} {v : Value} {atomic : Bool} {r : World × List Addr} (h : w.farStore p a v atomic = .ok r) : r.1.drawn = w.drawn := by
  unfold World.farStore at h
  split at h
  · split at h
    · rename_i h2; cases h; exact viewStore_drawn h2
    · cases h
  · cases h
theorem run_store_drawn {P : Program} {α : Type} {m : _} {a : Addr} {u : Value} {k : Sem α} {w w' : World} {v : α} (ih : ∀ w, k.run P w = .ok v w' → w.drawn ≤ w'.drawn) (h : (Sem.store m a u k).run P w = .ok v w') : w.drawn ≤ w'.drawn := by
  unfold Sem.run at h
  split at h
  all_goals try (cases h; done)
  all_goals (rename_i h0; cases h0)
  split at h
  · split at h
    · cases h
    · have := ih _ h; exact this
  · split at h
    · rename_i h2
      have := farStore_drawn h2
      have h3 := ih _ h
      dsimp only at this
      omega
    · cases h
theorem ask_drawn {α : Type} : ∀ (q : Ask α) (w : World), w.drawn ≤ (w.ask q).2.drawn
  | .done a, w => by unfold World.ask; exact Nat.le_refl _
  | .ask what range k, w => by
    unfold World.ask
    dsimp only
    split
    · exact ask_drawn (k 0) w
    · exact Nat.le_trans (Nat.le_succ _) (ask_drawn _ { w with drawn := w.drawn + 1 })
theorem sys_drawn (w : World) (c : Sys) : w.drawn ≤ (w.sys c).2.drawn := by
  unfold World.sys
  have h := ask_drawn (Kernel.perform c w.os) w
  split
  · exact Nat.le_refl _
  · rename_i h2; rw [h2] at h; exact h
theorem run_drawn {P : Program} {α : Type} : ∀ (m : Sem α) (w : World) {v : α} {w' : World}, m.run P w = .ok v w' → w.drawn ≤ w'.drawn
  | .pure a, w, v, w', h => by simp only [Sem.run] at h; cases h; exact Nat.le_refl _
  | .load m a k, w, v, w', h => by
    simp only [Sem.run] at h
    split at h
    · exact run_drawn (k _) w h
    · split at h
      · exact run_drawn (k _) w h
      · cases h
  | .store m a u k, w, v, w', h => run_store_drawn (fun w h => run_drawn k w h) h
  | .new o k, w, v, w', h => by
    simp only [Sem.run] at h
    exact run_drawn (k _) { w with heap := w.heap.push o } h
  | .shape r k, w, v, w', h => by simp only [Sem.run] at h; exact run_drawn _ w h
  | .freeze a n k, w, v, w', h => by
    simp only [Sem.run] at h
    have := run_drawn _ (w.freeze a n) h
    have e : (w.freeze a n).drawn = w.drawn := by unfold World.freeze; split <;> rfl
    omega
  | .frozen a k, w, v, w', h => by simp only [Sem.run] at h; exact run_drawn _ w h
  | .getObj r k, w, v, w', h => by
    simp only [Sem.run] at h
    split at h
    · cases h
    · exact run_drawn _ w h
    · cases h
  | .setObj r o k, w, v, w', h => by
    simp only [Sem.run] at h
    split at h
    · cases h
    · exact run_drawn _ { w with heap := w.heap.setIfInBounds r o } h
    · cases h
  | .choose q k, w, v, w', h => by
    simp only [Sem.run] at h
    split at h
    · exact run_drawn _ w h
    · exact Nat.le_trans (Nat.le_succ _) (run_drawn _ { w with drawn := w.drawn + 1 } h)
  | .sys c k, w, v, w', h => by
    simp only [Sem.run] at h
    exact Nat.le_trans (sys_drawn w c) (run_drawn _ _ h)
  | .program k, w, v, w', h => by simp only [Sem.run] at h; exact run_drawn _ w h
  | .mark m k, w, v, w', h => by simp only [Sem.run] at h; exact run_drawn _ w h
  | .halt h0, w, v, w', h => by simp only [Sem.run] at h; cases h
end Go.Proofs.YtgajekpigkknnaaDoor.A

/- What a value of the evaluator stands for in memory; what of memory an evaluator's store describes; that both stay. No condition. -/
namespace Go.Proofs.YtgajekpigkknnaaDoor.A
open Go

/-- Beside a block of the store: the memory's block, and, of a list, the slice that it is. -/
structure Ghost where
  b : Nat
  v : Value
  deriving Inhabited

/-- The block that a slice may write to. -/
def blkOf : Value → Option Nat
  | .slice (some a) _ (_ + 1) => some a.block
  | _ => none

/-- Of a list that is the slice v, the slice of len elements from off on. -/
def MutIs (v : Value) (k off len : Nat) (u : Value) : Prop :=
  ∃ base n cap, v = .slice base n cap ∧
    ((off = 0 ∧ u = .slice base len cap ∧ len ≤ cap ∧ (len ≠ 0 → ∃ g, base = some ⟨g, 0, none⟩)) ∨
     (0 < off ∧ ∃ c, (len = 0 ∧ ∃ a, u = .slice a 0 c) ∨ (len ≤ c ∧ ∃ g, base = some ⟨g, 0, none⟩ ∧ u = .slice (some ⟨g, off * k, none⟩) len c)))
/-- A slice of so many elements. -/
def SliceShape (len : Nat) (u : Value) : Prop := ∃ base c, u = .slice base len c ∧ len ≤ c ∧ (len ≠ 0 → ∃ b off, base = some ⟨b, off, none⟩)
theorem SliceShape.one {len : Nat} {u : Value} (h : SliceShape len u) : u.oneCell' = true := by obtain ⟨_, _, rfl, _⟩ := h; rfl
theorem MutIs.shape {v : Value} {k off len : Nat} {u : Value} (h : MutIs v k off len u) : SliceShape len u := by
  obtain ⟨base, n, cap, rfl, ⟨_, rfl, h1, h2⟩ | ⟨_, c, ⟨rfl, a, rfl⟩ | ⟨h1, g, _, rfl⟩⟩⟩ := h
  · exact ⟨base, cap, rfl, h1, fun h => let ⟨g, hg⟩ := h2 h; ⟨g, 0, hg⟩⟩
  · exact ⟨a, c, rfl, Nat.zero_le _, fun h => absurd rfl h⟩
  · exact ⟨_, c, rfl, h1, fun _ => ⟨_, _, rfl⟩⟩
theorem MutIs.one {v : Value} {k off len : Nat} {u : Value} (h : MutIs v k off len u) : u.oneCell' = true := h.shape.one
/-- What value a value of the evaluator stands for. ls: the loops whose yields are about. -/
inductive Rep (w : World) (Pr : Nat → Nat → Prop) (σ : List Blk) (γ : List Ghost) : List Nat → AV → Value → Prop
  | undef {ls : List Nat} (v : Value) : Rep w Pr σ γ ls .undef v
  | bool {ls : List Nat} (b : Bool) : Rep w Pr σ γ ls (.bool b) (.bool b)
  | int {ls : List Nat} (k : IntKind) (n : Int) : Rep w Pr σ γ ls (.int k n) (.int k n)
  | str {ls : List Nat} (s : ByteArray) : Rep w Pr σ γ ls (.str s) (.string s)
  | nilp {ls : List Nat} : Rep w Pr σ γ ls .nilp (.pointer none)
  | nilf {ls : List Nat} : Rep w Pr σ γ ls .nilf .nilFunc
  | ro0 {ls : List Nat} (a : Option Addr) (c : Nat) : Rep w Pr σ γ ls (.ro []) (.slice a 0 c)
  | ro {ls : List Nat} (rows : List (List AV)) (b off k c : Nat) (vs : List Value) (hk : 0 < k) (hr : ∀ r ∈ rows, r.length = k) (hc : rows.length ≤ c) (hl : vs.length = rows.length * k)
      (hv : ∀ (i : Nat) v, vs[i]? = some v → Pr b (off + i) ∧ w.cell? ⟨b, off + i, none⟩ = some v) (hd : dataL rows.flatten = true)
      (h : ∀ (i : Nat) a v, rows.flatten[i]? = some a → vs[i]? = some v → Rep w Pr σ γ [] a v) : Rep w Pr σ γ ls (.ro rows) (.slice (some ⟨b, off, none⟩) rows.length c)
  | clip {ls : List Nat} (rows : List (List AV)) (a : Option Addr) (h : Rep w Pr σ γ [] (.ro rows) (.slice a rows.length rows.length)) : Rep w Pr σ γ ls (.clip rows) (.slice a rows.length rows.length)
  | lisOld {ls : List Nat} (id gen off len lk g : Nat) (e : TypeId) (k : Nat) (rows : List (List AV)) (u : Value) (h : σ[id]? = some (.lst lk g e k rows)) (hg : gen < g) (ho : SliceShape len u) : Rep w Pr σ γ ls (.lis id gen off len) u
  | lis {ls : List Nat} (id off len lk g : Nat) (e : TypeId) (k : Nat) (rows : List (List AV)) (gh : Ghost) (u : Value) (h : σ[id]? = some (.lst lk g e k rows)) (hgh : γ[id]? = some gh)
      (hl : off + len ≤ rows.length) (hm : MutIs gh.v k off len u) : Rep w Pr σ γ ls (.lis id g off len) u
  | ptrB {ls : List Nat} (id off lk : Nat) (e : TypeId) (row : List AV) (gh : Ghost) (h : σ[id]? = some (.box lk e row)) (hgh : γ[id]? = some gh) : Rep w Pr σ γ ls (.ptr id 0 0 off) (.pointer (some ⟨gh.b, off, none⟩))
  | ptrOld {ls : List Nat} (id gen row off lk g : Nat) (e : TypeId) (k : Nat) (rows : List (List AV)) (b o : Nat) (h : σ[id]? = some (.lst lk g e k rows)) (hg : gen < g) : Rep w Pr σ γ ls (.ptr id gen row off) (.pointer (some ⟨b, o, none⟩))
  | ptrL {ls : List Nat} (id row off lk g : Nat) (e : TypeId) (k : Nat) (rows : List (List AV)) (gh : Ghost) (gb : Nat) (h : σ[id]? = some (.lst lk g e k rows)) (hgh : γ[id]? = some gh) (hb : blkOf gh.v = some gb)
      (hr : row < rows.length) : Rep w Pr σ γ ls (.ptr id g row off) (.pointer (some ⟨gb, row * k + off, none⟩))
  | rp {ls : List Nat} (row : List AV) (off b o : Nat) (vs : List Value) (hl : vs.length = row.length) (hv : ∀ (i : Nat) v, vs[i]? = some v → Pr b (o + i) ∧ w.cell? ⟨b, o + i, none⟩ = some v) (hd : dataL row = true)
      (h : ∀ (i : Nat) a v, row[i]? = some a → vs[i]? = some v → Rep w Pr σ γ [] a v) : Rep w Pr σ γ ls (.rp row off) (.pointer (some ⟨b, o + off, none⟩))
  | refs {ls : List Nat} (rows : List (List AV)) (b off k c : Nat) (vs : List Value) (hk : 0 < k) (hr : ∀ r ∈ rows, r.length = k) (hc : rows.length ≤ c) (hl : vs.length = rows.length * k)
      (hv : ∀ (i : Nat) v, vs[i]? = some v → Pr b (off + i) ∧ w.cell? ⟨b, off + i, none⟩ = some v) (h1 : ∀ u ∈ vs, u.oneCell' = true)
      (h : ∀ (i : Nat) a v, rows.flatten[i]? = some a → vs[i]? = some v → Rep w Pr σ γ [] a v) : Rep w Pr σ γ ls (.refs rows) (.slice (some ⟨b, off, none⟩) rows.length c)
  | rq {ls : List Nat} (row : List AV) (off b o : Nat) (vs : List Value) (hl : vs.length = row.length) (hv : ∀ (i : Nat) v, vs[i]? = some v → Pr b (o + i) ∧ w.cell? ⟨b, o + i, none⟩ = some v) (h1 : ∀ u ∈ vs, u.oneCell' = true)
      (h : ∀ (i : Nat) a v, row[i]? = some a → vs[i]? = some v → Rep w Pr σ γ [] a v) : Rep w Pr σ γ ls (.rq row off) (.pointer (some ⟨b, o + off, none⟩))
  | clo {ls : List Nat} (f : FuncId) (caps : List AV) (vs : List Value) (hl : vs.length = caps.length) (h : ∀ (i : Nat) a v, caps[i]? = some a → vs[i]? = some v → Rep w Pr σ γ [] a v) : Rep w Pr σ γ ls (.clo f caps) (.func (.func f) #[] vs.toArray)
  | yld {ls : List Nat} (d l : Nat) (h : ls[d]? = some l) : Rep w Pr σ γ ls (.yld d) (.func (.yield l) #[] #[])
  | yp {ls : List Nat} (d l b o : Nat) (h : ls[d]? = some l) (hv : Pr b o ∧ w.cell? ⟨b, o, none⟩ = some (.func (.yield l) #[] #[])) : Rep w Pr σ γ ls (.yp d) (.pointer (some ⟨b, o, none⟩))
  | agg {ls : List Nat} (cs : List AV) (vs : List Value) (hl : vs.length = cs.length) (ho : ∀ u ∈ vs, u.oneCell' = true) (h : ∀ (i : Nat) a v, cs[i]? = some a → vs[i]? = some v → Rep w Pr σ γ [] a v) : Rep w Pr σ γ ls (.agg cs) (.agg vs.toArray)
  | tup {ls : List Nat} (cs : List AV) (vs : List Value) (hl : vs.length = cs.length) (h : ∀ (i : Nat) a v, cs[i]? = some a → vs[i]? = some v → Rep w Pr σ γ [] a v) : Rep w Pr σ γ ls (.tup cs) (.tuple vs.toArray)

/-- A row of values for a row of values. -/
def RepL (w : World) (Pr : Nat → Nat → Prop) (σ : List Blk) (γ : List Ghost) (as : List AV) (vs : List Value) : Prop :=
  vs.length = as.length ∧ ∀ (i : Nat) a v, as[i]? = some a → vs[i]? = some v → Rep w Pr σ γ [] a v

/-- What was known of the store's blocks stays known. -/
structure Keeps (σ : List Blk) (γ : List Ghost) (σ' : List Blk) (γ' : List Ghost) : Prop where
  box : ∀ (id lk : Nat) (e : TypeId) (row : List AV), σ[id]? = some (.box lk e row) → ∃ lk' row', σ'[id]? = some (.box lk' e row') ∧ γ'[id]? = γ[id]?
  lst : ∀ (id lk g : Nat) (e : TypeId) (k : Nat) (rows : List (List AV)), σ[id]? = some (.lst lk g e k rows) → ∃ lk' g' rows', σ'[id]? = some (.lst lk' g' e k rows') ∧
    (g < g' ∨ (g' = g ∧ rows'.length = rows.length ∧ γ'[id]? = γ[id]?))
theorem Keeps.refl (σ : List Blk) (γ : List Ghost) : Keeps σ γ σ γ := ⟨fun _ _ _ _ h => ⟨_, _, h, rfl⟩, fun _ _ _ _ _ _ h => ⟨_, _, _, h, .inr ⟨rfl, rfl, rfl⟩⟩⟩
theorem Keeps.trans {σ σ' σ'' : List Blk} {γ γ' γ'' : List Ghost} (h : Keeps σ γ σ' γ') (k : Keeps σ' γ' σ'' γ'') : Keeps σ γ σ'' γ'' := by
  refine ⟨fun id lk e row hi => ?_, fun id lk g e k' rows hi => ?_⟩
  · obtain ⟨lk', row', h1, h2⟩ := h.box id lk e row hi
    obtain ⟨lk'', row'', h3, h4⟩ := k.box id lk' e row' h1
    exact ⟨lk'', row'', h3, h4.trans h2⟩
  · obtain ⟨lk', g', rows', h1, h2⟩ := h.lst id lk g e k' rows hi
    obtain ⟨lk'', g'', rows'', h3, h4⟩ := k.lst id lk' g' e k' rows' h1
    refine ⟨lk'', g'', rows'', h3, ?_⟩
    rcases h2 with h2 | ⟨rfl, h2, h2'⟩
    · rcases h4 with h4 | ⟨rfl, _, _⟩
      · exact .inl (by omega)
      · exact .inl h2
    · rcases h4 with h4 | ⟨rfl, h4, h4'⟩
      · exact .inl h4
      · exact .inr ⟨rfl, h4.trans h2, h4'.trans h2'⟩

/-- What is never written again stays. -/
def Stays (w : World) (Pr : Nat → Nat → Prop) (w' : World) (Pr' : Nat → Nat → Prop) : Prop :=
  ∀ b i, Pr b i → Pr' b i ∧ ∀ v, w.cell? ⟨b, i, none⟩ = some v → w'.cell? ⟨b, i, none⟩ = some v
theorem Stays.refl (w : World) (Pr : Nat → Nat → Prop) : Stays w Pr w Pr := fun _ _ h => ⟨h, fun _ h => h⟩
theorem Stays.trans {w w' w'' : World} {Pr Pr' Pr'' : Nat → Nat → Prop} (h : Stays w Pr w' Pr') (k : Stays w' Pr' w'' Pr'') : Stays w Pr w'' Pr'' :=
  fun b i hp => ⟨(k b i (h b i hp).1).1, fun v hv => (k b i (h b i hp).1).2 v ((h b i hp).2 v hv)⟩

theorem Rep.mono {w w' : World} {Pr Pr' : Nat → Nat → Prop} {σ σ' : List Blk} {γ γ' : List Ghost} {ls ls' : List Nat} {a : AV} {v : Value} (hs : Stays w Pr w' Pr') (hk : Keeps σ γ σ' γ')
    (hl : ∀ (d : Nat) l, ls[d]? = some l → ls'[d]? = some l) (h : Rep w Pr σ γ ls a v) : Rep w' Pr' σ' γ' ls' a v := by
  induction h generalizing ls' with
  | undef v => exact .undef v
  | bool b => exact .bool b
  | int k n => exact .int k n
  | str s => exact .str s
  | nilp => exact .nilp
  | nilf => exact .nilf
  | ro0 a c => exact .ro0 a c
  | ro rows b off k c vs h1 h2 h3 h4 h5 h6 _ ih => exact .ro rows b off k c vs h1 h2 h3 h4 (fun i v hi => ⟨(hs _ _ (h5 i v hi).1).1, (hs _ _ (h5 i v hi).1).2 _ (h5 i v hi).2⟩) h6 (fun i a v ha hv => ih i a v ha hv (fun _ _ h => h))
  | clip rows a _ ih => exact .clip rows a (ih (fun _ _ h => h))
  | lisOld id gen off len lk g e k rows u h1 h2 ho =>
    obtain ⟨lk', g', rows', h3, h4⟩ := hk.lst _ _ _ _ _ _ h1
    exact .lisOld id gen off len lk' g' e k rows' u h3 (by rcases h4 with h4 | ⟨h4, _⟩ <;> omega) ho
  | lis id off len lk g e k rows gh u h1 h2 h3 h4 =>
    obtain ⟨lk', g', rows', h5, h6⟩ := hk.lst _ _ _ _ _ _ h1
    rcases h6 with h6 | ⟨rfl, h6, h7⟩
    · exact .lisOld id g off len lk' g' e k rows' u h5 h6 h4.shape
    · exact .lis id off len lk' g' e k rows' gh u h5 (h7.trans h2) (by omega) h4
  | ptrB id off lk e row gh h1 h2 =>
    obtain ⟨lk', row', h3, h4⟩ := hk.box _ _ _ _ h1
    exact .ptrB id off lk' e row' gh h3 (h4.trans h2)
  | ptrOld id gen row off lk g e k rows b o h1 h2 =>
    obtain ⟨lk', g', rows', h3, h4⟩ := hk.lst _ _ _ _ _ _ h1
    exact .ptrOld id gen row off lk' g' e k rows' b o h3 (by rcases h4 with h4 | ⟨h4, _⟩ <;> omega)
  | ptrL id row off lk g e k rows gh gb h1 h2 h3 h4 =>
    obtain ⟨lk', g', rows', h5, h6⟩ := hk.lst _ _ _ _ _ _ h1
    rcases h6 with h6 | ⟨rfl, h6, h7⟩
    · exact .ptrOld id g row off lk' g' e k rows' _ _ h5 h6
    · exact .ptrL id row off lk' g' e k rows' gh gb h5 (h7.trans h2) h3 (by omega)
  | rp row off b o vs h1 h2 h3 _ ih => exact .rp row off b o vs h1 (fun i v hi => ⟨(hs _ _ (h2 i v hi).1).1, (hs _ _ (h2 i v hi).1).2 _ (h2 i v hi).2⟩) h3 (fun i a v ha hv => ih i a v ha hv (fun _ _ h => h))
  | refs rows b off k c vs h1 h2 h3 h4 h5 h6 _ ih => exact .refs rows b off k c vs h1 h2 h3 h4 (fun i v hi => ⟨(hs _ _ (h5 i v hi).1).1, (hs _ _ (h5 i v hi).1).2 _ (h5 i v hi).2⟩) h6 (fun i a v ha hv => ih i a v ha hv (fun _ _ h => h))
  | rq row off b o vs h1 h2 h3 _ ih => exact .rq row off b o vs h1 (fun i v hi => ⟨(hs _ _ (h2 i v hi).1).1, (hs _ _ (h2 i v hi).1).2 _ (h2 i v hi).2⟩) h3 (fun i a v ha hv => ih i a v ha hv (fun _ _ h => h))
  | clo f caps vs h1 _ ih => exact .clo f caps vs h1 (fun i a v ha hv => ih i a v ha hv (fun _ _ h => h))
  | yld d l h => exact .yld d l (hl d l h)
  | yp d l b o h hv => exact .yp d l b o (hl d l h) ⟨(hs _ _ hv.1).1, (hs _ _ hv.1).2 _ hv.2⟩
  | agg cs vs h1 h2 _ ih => exact .agg cs vs h1 h2 (fun i a v ha hv => ih i a v ha hv (fun _ _ h => h))
  | tup cs vs h1 _ ih => exact .tup cs vs h1 (fun i a v ha hv => ih i a v ha hv (fun _ _ h => h))

theorem RepL.mono {w w' : World} {Pr Pr' : Nat → Nat → Prop} {σ σ' : List Blk} {γ γ' : List Ghost} {as : List AV} {vs : List Value} (hs : Stays w Pr w' Pr') (hk : Keeps σ γ σ' γ')
    (h : RepL w Pr σ γ as vs) (_hl : ∀ _ _ : Nat, True → True := fun _ _ h => h) : RepL w' Pr' σ' γ' as vs := ⟨h.1, fun i a v ha hv => (h.2 i a v ha hv).mono hs hk (fun _ _ h => h)⟩
theorem Rep.up {w : World} {Pr : Nat → Nat → Prop} {σ : List Blk} {γ : List Ghost} {ls : List Nat} {a : AV} {v : Value} (h : Rep w Pr σ γ [] a v) : Rep w Pr σ γ ls a v := h.mono (Stays.refl _ _) (Keeps.refl _ _) (fun d l h => by simp at h)
theorem Rep.base {w : World} {Pr : Nat → Nat → Prop} {σ : List Blk} {γ : List Ghost} {ls : List Nat} {a : AV} {v : Value} (h : Rep w Pr σ γ ls a v) (hy : a.isYld = false) : Rep w Pr σ γ [] a v := by
  cases h with
  | undef v => exact .undef v
  | bool b => exact .bool b
  | int k n => exact .int k n
  | str s => exact .str s
  | nilp => exact .nilp
  | nilf => exact .nilf
  | ro0 a c => exact .ro0 a c
  | ro rows b off k c vs h1 h2 h3 h4 h5 h6 h7 => exact .ro rows b off k c vs h1 h2 h3 h4 h5 h6 h7
  | clip rows a h => exact .clip rows a h
  | lisOld id gen off len lk g e k rows u h1 h2 ho => exact .lisOld id gen off len lk g e k rows _ h1 h2 ho
  | lis id off len lk g e k rows gh u h1 h2 h3 h4 => exact .lis id off len lk g e k rows gh _ h1 h2 h3 h4
  | ptrB id off lk e row gh h1 h2 => exact .ptrB id off lk e row gh h1 h2
  | ptrOld id gen row off lk g e k rows b o h1 h2 => exact .ptrOld id gen row off lk g e k rows b o h1 h2
  | ptrL id row off lk g e k rows gh gb h1 h2 h3 h4 => exact .ptrL id row off lk g e k rows gh gb h1 h2 h3 h4
  | rp row off b o vs h1 h2 h3 h4 => exact .rp row off b o vs h1 h2 h3 h4
  | refs rows b off k c vs h1 h2 h3 h4 h5 h6 h7 => exact .refs rows b off k c vs h1 h2 h3 h4 h5 h6 h7
  | rq row off b o vs h1 h2 h3 h4 => exact .rq row off b o vs h1 h2 h3 h4
  | clo f caps vs h1 h2 => exact .clo f caps vs h1 h2
  | yld d l h => cases hy
  | yp d l b o h hv => cases hy
  | agg cs vs h1 h2 h3 => exact .agg cs vs h1 h2 h3
  | tup cs vs h1 h2 => exact .tup cs vs h1 h2

/-- Data stands for the same in whatever store. -/
theorem Rep.data {w : World} {Pr : Nat → Nat → Prop} {σ σ' : List Blk} {γ γ' : List Ghost} {ls ls' : List Nat} {a : AV} {v : Value} (h : Rep w Pr σ γ ls a v) (hd : a.isData = true) : Rep w Pr σ' γ' ls' a v := by
  induction h generalizing ls' with
  | undef v => cases hd
  | bool b => exact .bool b
  | int k n => exact .int k n
  | str s => exact .str s
  | nilp => exact .nilp
  | nilf => exact .nilf
  | ro0 a c => exact .ro0 a c
  | ro rows b off k c vs h1 h2 h3 h4 h5 h6 _ ih =>
    exact .ro rows b off k c vs h1 h2 h3 h4 h5 h6 (fun i a v ha hv => ih i a v ha hv (List.all_eq_true.1 h6 a (List.mem_of_getElem? ha)))
  | _ => cases hd
theorem RepL.data {w : World} {Pr : Nat → Nat → Prop} {σ σ' : List Blk} {γ γ' : List Ghost} {as : List AV} {vs : List Value} (h : RepL w Pr σ γ as vs) (hd : dataL as = true) : RepL w Pr σ' γ' as vs :=
  ⟨h.1, fun i a v ha hv => (h.2 i a v ha hv).data (List.all_eq_true.1 hd a (List.mem_of_getElem? ha))⟩

/-- What slice a list is: its elements lie at the head of a block, with room behind them; or it has no room at all. -/
def LstV (w : World) (e : TypeId) (k : Nat) (v : Value) (n : Nat) (vs : List Value) : Prop :=
  vs.length = n * k ∧ ((n = 0 ∧ ∃ a, v = .slice a 0 0) ∨
    ∃ (g c : Nat) (cur : Array Value), v = .slice (some ⟨g, 0, none⟩) n (c + 1) ∧ w.heap[g]? = some (.cells cur e (0, 0)) ∧ n ≤ c + 1 ∧ c + 1 ≤ maxLen ∧ cur.size = (c + 1) * k ∧ cur.toList.take (n * k) = vs)

/-- The memory's block of a block of the store. -/
def memB (σ : List Blk) (γ : List Ghost) (id : Nat) : Option Nat :=
  match σ[id]?, γ[id]? with
  | some (.box ..), some gh => some gh.b
  | some (.lst ..), some gh => blkOf gh.v
  | _, _ => none
def Blk.lock : Blk → Nat
  | .dead => 0
  | .box lk _ _ => lk
  | .lst lk _ _ _ _ => lk

/-- How many cells it describes. -/
def Blk.cellsN : Blk → Nat
  | .dead => 0
  | .box _ _ row => row.length
  | .lst _ _ _ k rows => rows.length * k

/-- The store describes the memory. U: the blocks that may be written. -/
structure Inv (U : Nat → Prop) (w : World) (Pr : Nat → Nat → Prop) (σ : List Blk) (γ : List Ghost) : Prop where
  len : γ.length = σ.length
  box : ∀ (id lk : Nat) (e : TypeId) (row : List AV), σ[id]? = some (.box lk e row) → ∃ (gh : Ghost) (cs : Array Value), γ[id]? = some gh ∧ w.heap[gh.b]? = some (.cells cs e (0, 0)) ∧ RepL w Pr σ γ row cs.toList ∧
    (∀ u ∈ cs.toList, u.oneCell' = true)
  lst : ∀ (id lk g : Nat) (e : TypeId) (k : Nat) (rows : List (List AV)), σ[id]? = some (.lst lk g e k rows) → ∃ (gh : Ghost) (vs : List Value), γ[id]? = some gh ∧ 0 < k ∧ (∀ r ∈ rows, r.length = k) ∧ dataL rows.flatten = true ∧
    LstV w e k gh.v rows.length vs ∧ RepL w Pr σ γ rows.flatten vs ∧ (∀ u ∈ vs, u.oneCell' = true)
  free : ∀ (id : Nat) (blk : Blk) (b : Nat), σ[id]? = some blk → blk.lock ≠ 2 → memB σ γ id = some b → U b ∧ ∀ i, ¬ Pr b i
  fix : ∀ (id : Nat) (blk : Blk) (b : Nat), σ[id]? = some blk → blk.lock = 2 → memB σ γ id = some b → ∀ i, i < blk.cellsN → Pr b i
  inj : ∀ (id id' b : Nat), memB σ γ id = some b → memB σ γ id' = some b → id = id'
  old : ∀ b i, Pr b i → b < w.heap.size
  new : ∀ b, w.heap.size ≤ b → U b

/-- What a step may do: it writes blocks of U alone, and to what is never written again it adds nothing beyond U. -/
structure Evo (U : Nat → Prop) (ls : List Nat) (w : World) (Pr : Nat → Nat → Prop) (w' : World) (Pr' : Nat → Nat → Prop) : Prop where
  os : w'.os = w.os
  tape : w'.tape = w.tape
  output : w'.output = w.output
  size : w.heap.size ≤ w'.heap.size
  same : ∀ (b : Nat), ¬ U b → w'.heap[b]? = w.heap[b]?
  keep : ∀ (b : Nat) o, w.heap[b]? = some o → o.isCells = false → b ∉ ls → w'.heap[b]? = some o
  stays : Stays w Pr w' Pr'
  prot : ∀ b i, ¬ U b → Pr' b i → Pr b i
  drawn : w.drawn ≤ w'.drawn
theorem Evo.refl (U : Nat → Prop) (ls : List Nat) (w : World) (Pr : Nat → Nat → Prop) : Evo U ls w Pr w Pr := ⟨rfl, rfl, rfl, Nat.le_refl _, fun _ _ => rfl, fun _ _ h _ _ => h, Stays.refl _ _, fun _ _ _ h => h, Nat.le_refl _⟩
theorem Evo.trans {U : Nat → Prop} {ls : List Nat} {w w' w'' : World} {Pr Pr' Pr'' : Nat → Nat → Prop} (h : Evo U ls w Pr w' Pr') (k : Evo U ls w' Pr' w'' Pr'') : Evo U ls w Pr w'' Pr'' :=
  ⟨k.os.trans h.os, k.tape.trans h.tape, k.output.trans h.output, Nat.le_trans h.size k.size, fun b hb => (k.same b hb).trans (h.same b hb), fun b o h1 h2 h3 => k.keep b o (h.keep b o h1 h2 h3) h2 h3,
    h.stays.trans k.stays, fun b i hb hp => h.prot b i hb (k.prot b i hb hp), Nat.le_trans h.drawn k.drawn⟩
theorem Evo.drew (U : Nat → Prop) (ls : List Nat) (w : World) (Pr : Nat → Nat → Prop) : Evo U ls w Pr { w with drawn := w.drawn + 1 } Pr := ⟨rfl, rfl, rfl, Nat.le_refl _, fun _ _ => rfl, fun _ _ h _ _ => h, fun _ _ h => ⟨h, fun _ h => h⟩, fun _ _ _ h => h, Nat.le_succ _⟩
end Go.Proofs.YtgajekpigkknnaaDoor.A

/- Steps of memory and store that keep what is known. No condition. -/
namespace Go.Proofs.YtgajekpigkknnaaDoor.A
open Go

theorem isData_one {w : World} {Pr : Nat → Nat → Prop} {σ : List Blk} {γ : List Ghost} {ls : List Nat} {a : AV} {v : Value} (h : Rep w Pr σ γ ls a v) (hd : a.isData = true) : v.oneCell' = true := by
  cases h <;> first | rfl | cases hd

theorem memB_lt {σ : List Blk} {γ : List Ghost} {id b : Nat} (h : memB σ γ id = some b) : ∃ blk, σ[id]? = some blk := by
  unfold memB at h
  cases hs : σ[id]? with
  | none => rw [hs] at h; cases h
  | some blk => exact ⟨blk, rfl⟩
theorem memB_set_ne {σ : List Blk} {γ : List Ghost} {id j : Nat} (blk : Blk) (gh : Ghost) (h : j ≠ id) : memB (σ.set id blk) (γ.set id gh) j = memB σ γ j := by
  unfold memB; rw [List.getElem?_set_ne (Ne.symm h), List.getElem?_set_ne (Ne.symm h)]
theorem memB_set_eq {σ : List Blk} {γ : List Ghost} {id : Nat} {blk : Blk} {gh : Ghost} (h1 : id < σ.length) (h2 : id < γ.length) : memB (σ.set id blk) (γ.set id gh) id = (match blk with
    | .box .. => some gh.b
    | .lst .. => blkOf gh.v
    | .dead => none) := by
  unfold memB; rw [List.getElem?_set_self h1, List.getElem?_set_self h2]; cases blk <;> rfl
theorem memB_box {σ : List Blk} {γ : List Ghost} {id lk : Nat} {e : TypeId} {row : List AV} {gh : Ghost} (h : σ[id]? = some (.box lk e row)) (hg : γ[id]? = some gh) : memB σ γ id = some gh.b := by unfold memB; rw [h, hg]
theorem memB_lst {σ : List Blk} {γ : List Ghost} {id lk g k : Nat} {e : TypeId} {rows : List (List AV)} {gh : Ghost} (h : σ[id]? = some (.lst lk g e k rows)) (hg : γ[id]? = some gh) : memB σ γ id = blkOf gh.v := by unfold memB; rw [h, hg]

theorem LstV.same {w w' : World} {e : TypeId} {k : Nat} {v : Value} {n : Nat} {vs : List Value} (h : LstV w e k v n vs) (hs : ∀ b, blkOf v = some b → w'.heap[b]? = w.heap[b]?) : LstV w' e k v n vs := by
  obtain ⟨h1, h2 | ⟨g, c, cur, rfl, h3, h4⟩⟩ := h
  · exact ⟨h1, .inl h2⟩
  · exact ⟨h1, .inr ⟨g, c, cur, rfl, (hs g rfl).trans h3, h4⟩⟩

/-- Block id of the store changes; all others stay. -/
theorem Inv.step {U : Nat → Prop} {w w' : World} {Pr Pr' : Nat → Nat → Prop} {σ : List Blk} {γ : List Ghost} {ls' : List Nat} (h : Inv U w Pr σ γ) (id : Nat) (blk : Blk) (gh : Ghost) (hE : Evo U ls' w Pr w' Pr')
    (hid : id < σ.length) (hK : Keeps σ γ (σ.set id blk) (γ.set id gh))
    (hsame : ∀ j b, j ≠ id → memB σ γ j = some b → w'.heap[b]? = w.heap[b]?)
    (hprot : ∀ j b i, j ≠ id → memB σ γ j = some b → Pr' b i → Pr b i)
    (hold : ∀ b i, Pr' b i → b < w'.heap.size)
    (hbox : ∀ lk e row, blk = .box lk e row → ∃ cs : Array Value, w'.heap[gh.b]? = some (.cells cs e (0, 0)) ∧ RepL w' Pr' (σ.set id blk) (γ.set id gh) row cs.toList ∧ (∀ u ∈ cs.toList, u.oneCell' = true))
    (hlst : ∀ lk g e k rows, blk = .lst lk g e k rows → ∃ vs : List Value, 0 < k ∧ (∀ r ∈ rows, r.length = k) ∧ dataL rows.flatten = true ∧
      LstV w' e k gh.v rows.length vs ∧ RepL w' Pr' (σ.set id blk) (γ.set id gh) rows.flatten vs ∧ (∀ u ∈ vs, u.oneCell' = true))
    (hfree : ∀ b, blk.lock ≠ 2 → memB (σ.set id blk) (γ.set id gh) id = some b → U b ∧ ∀ i, ¬ Pr' b i)
    (hfix : ∀ b, blk.lock = 2 → memB (σ.set id blk) (γ.set id gh) id = some b → ∀ i, i < blk.cellsN → Pr' b i)
    (hinj : ∀ j b, j ≠ id → memB σ γ j = some b → memB (σ.set id blk) (γ.set id gh) id = some b → False) :
    Inv U w' Pr' (σ.set id blk) (γ.set id gh) := by
  have hγ : id < γ.length := by rw [h.len]; exact hid
  refine ⟨by simp [h.len], ?_, ?_, ?_, ?_, ?_, hold, fun b hb => h.new b (Nat.le_trans hE.size hb)⟩
  · intro j lk e row hj
    by_cases hji : j = id
    · subst hji
      rw [List.getElem?_set_self hid] at hj
      obtain ⟨cs, h1, h2, h3⟩ := hbox lk e row (Option.some.inj hj)
      exact ⟨gh, cs, List.getElem?_set_self hγ, h1, h2, h3⟩
    · rw [List.getElem?_set_ne (Ne.symm hji)] at hj
      obtain ⟨g, cs, h1, h2, h3, h4⟩ := h.box j lk e row hj
      refine ⟨g, cs, by rw [List.getElem?_set_ne (Ne.symm hji)]; exact h1, (hsame j g.b hji (memB_box hj h1)).trans h2, h3.mono hE.stays hK (fun _ _ h => h), h4⟩
  · intro j lk g e k rows hj
    by_cases hji : j = id
    · subst hji
      rw [List.getElem?_set_self hid] at hj
      obtain ⟨vs, h1, h2, h3, h4, h5, h6⟩ := hlst lk g e k rows (Option.some.inj hj)
      exact ⟨gh, vs, List.getElem?_set_self hγ, h1, h2, h3, h4, h5, h6⟩
    · rw [List.getElem?_set_ne (Ne.symm hji)] at hj
      obtain ⟨g', vs, h1, h2, h3, h4, h5, h6, h7⟩ := h.lst j lk g e k rows hj
      refine ⟨g', vs, by rw [List.getElem?_set_ne (Ne.symm hji)]; exact h1, h2, h3, h4, h5.same (fun b hb => hsame j b hji ((memB_lst hj h1).trans hb)), h6.mono hE.stays hK (fun _ _ h => h), h7⟩
  · intro j bk b hj hlk hm
    by_cases hji : j = id
    · subst hji
      rw [List.getElem?_set_self hid] at hj
      cases hj
      exact hfree b hlk hm
    · rw [List.getElem?_set_ne (Ne.symm hji)] at hj
      rw [memB_set_ne _ _ hji] at hm
      exact ⟨(h.free j bk b hj hlk hm).1, fun i hp => (h.free j bk b hj hlk hm).2 i (hprot j b i hji hm hp)⟩
  · intro j bk b hj hlk hm
    by_cases hji : j = id
    · subst hji
      rw [List.getElem?_set_self hid] at hj
      cases hj
      exact hfix b hlk hm
    · rw [List.getElem?_set_ne (Ne.symm hji)] at hj
      rw [memB_set_ne _ _ hji] at hm
      exact fun i hi => (hE.stays b i (h.fix j bk b hj hlk hm i hi)).1
  · intro i j b hi hj
    by_cases h1 : i = id
    · by_cases h2 : j = id
      · exact h1.trans h2.symm
      · subst h1
        rw [memB_set_ne _ _ h2] at hj
        exact (hinj j b h2 hj hi).elim
    · by_cases h2 : j = id
      · subst h2
        rw [memB_set_ne _ _ h1] at hi
        exact (hinj i b h1 hi hj).elim
      · rw [memB_set_ne _ _ h1] at hi
        rw [memB_set_ne _ _ h2] at hj
        exact h.inj i j b hi hj

/-- Nothing but draws. -/
theorem Inv.same {U : Nat → Prop} {w w' : World} {Pr : Nat → Nat → Prop} {σ : List Blk} {γ : List Ghost} (h : Inv U w Pr σ γ) (hw : w'.heap = w.heap) : Inv U w' Pr σ γ := by
  have hs : Stays w Pr w' Pr := fun b i hp => ⟨hp, fun v hv => by rw [World.cell?, hw]; exact hv⟩
  have hm : ∀ as vs, RepL w Pr σ γ as vs → RepL w' Pr σ γ as vs := fun as vs hh => hh.mono hs (Keeps.refl _ _) (fun _ _ h => h)
  refine ⟨h.len, fun id lk e row hi => ?_, fun id lk g e k rows hi => ?_, h.free, h.fix, h.inj, fun b i hp => by rw [hw]; exact h.old b i hp, fun b hb => h.new b (by rw [← hw]; exact hb)⟩
  · obtain ⟨gh, cs, h1, h2, h3, h4⟩ := h.box id lk e row hi
    exact ⟨gh, cs, h1, by rw [hw]; exact h2, hm _ _ h3, h4⟩
  · obtain ⟨gh, vs, h1, h2, h3, h4, h5, h6, h7⟩ := h.lst id lk g e k rows hi
    exact ⟨gh, vs, h1, h2, h3, h4, h5.same (fun b _ => by rw [hw]), hm _ _ h6, h7⟩

/-- More slots. -/
theorem Inv.slots {U : Nat → Prop} {w : World} {Pr : Nat → Nat → Prop} {σ : List Blk} {γ : List Ghost} (h : Inv U w Pr σ γ) (n : Nat) :
    Inv U w Pr (σ ++ List.replicate n .dead) (γ ++ List.replicate n default) ∧ Keeps σ γ (σ ++ List.replicate n .dead) (γ ++ List.replicate n default) := by
  have hlt : ∀ {id : Nat} {blk : Blk}, σ[id]? = some blk → (σ ++ List.replicate n Blk.dead)[id]? = some blk ∧ (γ ++ List.replicate n (default : Ghost))[id]? = γ[id]? := fun {id blk} hi => by
    have hl : id < σ.length := (List.getElem?_eq_some_iff.1 hi).1
    exact ⟨by rw [List.getElem?_append_left hl]; exact hi, by rw [List.getElem?_append_left (by rw [h.len]; exact hl)]⟩
  have hge : ∀ {id : Nat} {blk : Blk}, (σ ++ List.replicate n Blk.dead)[id]? = some blk → σ[id]? = some blk ∨ blk = .dead := fun {id blk} hi => by
    by_cases hl : id < σ.length
    · rw [List.getElem?_append_left hl] at hi; exact .inl hi
    · rw [List.getElem?_append_right (by omega), List.getElem?_replicate] at hi
      split at hi
      · exact .inr (Option.some.inj hi).symm
      · cases hi
  have hK : Keeps σ γ (σ ++ List.replicate n .dead) (γ ++ List.replicate n default) :=
    ⟨fun id lk e row hi => ⟨lk, row, (hlt hi).1, (hlt hi).2⟩, fun id lk g e k rows hi => ⟨lk, g, rows, (hlt hi).1, .inr ⟨rfl, rfl, (hlt hi).2⟩⟩⟩
  have hmem : ∀ id, memB (σ ++ List.replicate n .dead) (γ ++ List.replicate n default) id = memB σ γ id := fun id => by
    by_cases hl : id < σ.length
    · unfold memB; rw [List.getElem?_append_left hl, List.getElem?_append_left (by rw [h.len]; exact hl)]
    · unfold memB
      rw [List.getElem?_eq_none (l := σ) (by omega)]
      by_cases hn : id - σ.length < n
      · rw [List.getElem?_append_right (by omega), List.getElem?_replicate, if_pos hn]
      · rw [List.getElem?_append_right (by omega), List.getElem?_replicate, if_neg hn]
  refine ⟨⟨by simp [h.len], ?_, ?_, ?_, ?_, ?_, h.old, h.new⟩, hK⟩
  · intro id lk e row hi
    rcases hge hi with hi | hi
    · obtain ⟨gh, cs, h1, h2, h3, h4⟩ := h.box id lk e row hi
      exact ⟨gh, cs, (hlt hi).2.trans h1, h2, h3.mono (Stays.refl _ _) hK (fun _ _ h => h), h4⟩
    · cases hi
  · intro id lk g e k rows hi
    rcases hge hi with hi | hi
    · obtain ⟨gh, vs, h1, h2, h3, h4, h5, h6, h7⟩ := h.lst id lk g e k rows hi
      exact ⟨gh, vs, (hlt hi).2.trans h1, h2, h3, h4, h5, h6.mono (Stays.refl _ _) hK (fun _ _ h => h), h7⟩
    · cases hi
  · intro id blk b hi hlk hm
    rw [hmem] at hm
    obtain ⟨bk, hb⟩ := memB_lt hm
    have h2 := (hlt hb).1.symm.trans hi
    cases h2
    exact h.free id _ b hb hlk hm
  · intro id blk b hi hlk hm
    rw [hmem] at hm
    rcases hge hi with hi | hi
    · exact h.fix id blk b hi hlk hm
    · subst hi; exact fun i h0 => absurd h0 (Nat.not_lt_zero _)
  · intro i j b hi hj
    rw [hmem] at hi hj
    exact h.inj i j b hi hj
end Go.Proofs.YtgajekpigkknnaaDoor.A

/- The single steps: a new variable, a new list, a write, a list that grows, a list that is never written again. No condition. -/
namespace Go.Proofs.YtgajekpigkknnaaDoor.A
open Go
variable {U : Nat → Prop} {w w' : World} {Pr Pr' : Nat → Nat → Prop} {σ : List Blk} {γ : List Ghost} {ls : List Nat}

theorem Inv.memB_lt (h : Inv U w Pr σ γ) {j b : Nat} (hm : memB σ γ j = some b) : b < w.heap.size := by
  unfold memB at hm
  split at hm
  · rename_i hs hg
    obtain ⟨gh, cs, h1, h2, _⟩ := h.box _ _ _ _ hs
    rw [h1] at hg; cases hg; cases hm
    exact (Array.getElem?_eq_some_iff.1 h2).1
  · rename_i hs hg
    obtain ⟨gh, vs, h1, _, _, _, h2, _⟩ := h.lst _ _ _ _ _ _ hs
    rw [h1] at hg; cases hg
    obtain ⟨_, ⟨_, a, h3⟩ | ⟨g, c, cur, h3, h4, _⟩⟩ := h2
    · rw [h3] at hm; cases a <;> cases hm
    · rw [h3] at hm; cases hm; exact (Array.getElem?_eq_some_iff.1 h4).1
  · cases hm

theorem Keeps.dead {s : Nat} (hs : σ[s]? = some .dead) (blk : Blk) (gh : Ghost) : Keeps σ γ (σ.set s blk) (γ.set s gh) := by
  refine ⟨fun id lk e row hi => ?_, fun id lk g e k rows hi => ?_⟩
  · have hne : s ≠ id := fun e => by subst e; rw [hs] at hi; cases hi
    exact ⟨lk, row, by rw [List.getElem?_set_ne hne]; exact hi, by rw [List.getElem?_set_ne hne]⟩
  · have hne : s ≠ id := fun e => by subst e; rw [hs] at hi; cases hi
    exact ⟨lk, g, rows, by rw [List.getElem?_set_ne hne]; exact hi, .inr ⟨rfl, rfl, by rw [List.getElem?_set_ne hne]⟩⟩
theorem Keeps.setBox {id lk lk' : Nat} {e : TypeId} {row row' : List AV} (hi : σ[id]? = some (.box lk e row)) : Keeps σ γ (σ.set id (.box lk' e row')) γ := by
  have hl := (List.getElem?_eq_some_iff.1 hi).1
  refine ⟨fun j lk e row hj => ?_, fun j lk g e k rows hj => ?_⟩
  · by_cases hne : id = j
    · subst hne; rw [hi] at hj; cases hj; exact ⟨lk', row', List.getElem?_set_self hl, rfl⟩
    · exact ⟨lk, row, by rw [List.getElem?_set_ne hne]; exact hj, rfl⟩
  · have hne : id ≠ j := fun e => by subst e; rw [hi] at hj; cases hj
    exact ⟨lk, g, rows, by rw [List.getElem?_set_ne hne]; exact hj, .inr ⟨rfl, rfl, rfl⟩⟩
theorem Keeps.setLst {id lk lk' g g' k : Nat} {e : TypeId} {rows rows' : List (List AV)} {gh : Ghost} (hi : σ[id]? = some (.lst lk g e k rows)) (hg : γ[id]? = some gh)
    {gh' : Ghost} (hc : g < g' ∨ (g' = g ∧ rows'.length = rows.length ∧ gh' = gh)) : Keeps σ γ (σ.set id (.lst lk' g' e k rows')) (γ.set id gh') := by
  have hl := (List.getElem?_eq_some_iff.1 hi).1
  have hl' := (List.getElem?_eq_some_iff.1 hg).1
  refine ⟨fun j lk e row hj => ?_, fun j lk g e k rows hj => ?_⟩
  · have hne : id ≠ j := fun e => by subst e; rw [hi] at hj; cases hj
    exact ⟨lk, row, by rw [List.getElem?_set_ne hne]; exact hj, by rw [List.getElem?_set_ne hne]⟩
  · by_cases hne : id = j
    · subst hne; rw [hi] at hj; cases hj
      refine ⟨lk', g', rows', List.getElem?_set_self hl, ?_⟩
      rcases hc with hc | ⟨h1, h2, h3⟩
      · exact .inl hc
      · exact .inr ⟨h1, h2, by rw [List.getElem?_set_self hl', hg, h3]⟩
    · exact ⟨lk, g, rows, by rw [List.getElem?_set_ne hne]; exact hj, .inr ⟨rfl, rfl, by rw [List.getElem?_set_ne hne]⟩⟩
theorem set_self {α : Type} {l : List α} {i : Nat} {a : α} (h : l[i]? = some a) : l.set i a = l := by
  apply List.ext_getElem?
  intro j
  by_cases hj : i = j
  · subst hj; rw [List.getElem?_set_self (List.getElem?_eq_some_iff.1 h).1, h]
  · rw [List.getElem?_set_ne hj]

theorem Evo.alloc (hU : ∀ b, w.heap.size ≤ b → U b) (o : Obj) : Evo U ls w Pr (w.alloc o) Pr :=
  ⟨rfl, rfl, rfl, by simp, fun b hb => heap_alloc_old w o (Nat.lt_of_not_le fun hle => hb (hU b hle)), fun b o' h _ _ => (heap_alloc_old w o (Array.getElem?_eq_some_iff.1 h).1).trans h,
    fun b i hp => ⟨hp, fun v hv => by
      have hb := World.block_lt_of_cell? w _ hv
      rw [World.cell?_of_block (w := w) (heap_alloc_old w o hb)]; exact hv⟩, fun _ _ _ h => h, Nat.le_refl _⟩
theorem alloc_old (w : World) (o : Obj) {b : Nat} (h : b < w.heap.size) : (w.alloc o).heap[b]? = w.heap[b]? := heap_alloc_old w o h

/-- A new variable. -/
theorem Inv.newBox (h : Inv U w Pr σ γ) {s : Nat} (hs : σ[s]? = some .dead) (e : TypeId) (row : List AV) (vs : List Value) (hr : RepL w Pr σ γ row vs) (h1 : ∀ u ∈ vs, u.oneCell' = true) :
    Inv U (w.alloc (.cells vs.toArray e)) Pr (σ.set s (.box 0 e row)) (γ.set s ⟨w.heap.size, undef⟩) ∧ Keeps σ γ (σ.set s (.box 0 e row)) (γ.set s ⟨w.heap.size, undef⟩) ∧ Evo U ls w Pr (w.alloc (.cells vs.toArray e)) Pr := by
  have hl := (List.getElem?_eq_some_iff.1 hs).1
  have hE : Evo U ls w Pr (w.alloc (.cells vs.toArray e)) Pr := Evo.alloc h.new _
  have hK := Keeps.dead (γ := γ) hs (.box 0 e row) ⟨w.heap.size, undef⟩
  have hm := memB_set_eq (blk := .box 0 e row) (gh := ⟨w.heap.size, undef⟩) hl (by rw [h.len]; exact hl)
  refine ⟨h.step s _ _ hE hl hK (fun j b _ hb => alloc_old w _ (h.memB_lt hb)) (fun _ _ _ _ _ hp => hp) (fun b i hp => by have := h.old b i hp; simp; omega) ?_ ?_ ?_ ?_ ?_, hK, hE⟩
  · rintro lk e' row' ⟨rfl, rfl, rfl⟩
    exact ⟨vs.toArray, World.alloc_heap_new w _, hr.mono hE.stays hK (fun _ _ h => h), h1⟩
  · rintro lk g e' k rows ⟨⟩
  · intro b _ hb
    rw [hm] at hb; cases hb
    exact ⟨h.new _ (Nat.le_refl _), fun i hp => Nat.lt_irrefl _ (h.old _ i hp)⟩
  · intro b hb; cases hb
  · intro j b _ hj hb
    rw [hm] at hb; cases hb
    exact Nat.lt_irrefl _ (h.memB_lt hj)

/-- A new list, of a slice that is nil, or in a new block. -/
theorem Inv.newLst (h : Inv U w Pr σ γ) {s : Nat} (hs : σ[s]? = some .dead) (hE : Evo U ls w Pr w' Pr) (hsame : ∀ b, b < w.heap.size → w'.heap[b]? = w.heap[b]?) (e : TypeId) (k : Nat) (rows : List (List AV)) (v : Value) (vs : List Value)
    (hk : 0 < k) (hrk : ∀ r ∈ rows, r.length = k) (hd : dataL rows.flatten = true) (hv : LstV w' e k v rows.length vs) (hr : RepL w Pr σ γ rows.flatten vs) (h1 : ∀ u ∈ vs, u.oneCell' = true) (hb : ∀ b, blkOf v = some b → w.heap.size ≤ b) :
    Inv U w' Pr (σ.set s (.lst 0 0 e k rows)) (γ.set s ⟨0, v⟩) ∧ Keeps σ γ (σ.set s (.lst 0 0 e k rows)) (γ.set s ⟨0, v⟩) := by
  have hl := (List.getElem?_eq_some_iff.1 hs).1
  have hK := Keeps.dead (γ := γ) hs (.lst 0 0 e k rows) ⟨0, v⟩
  have hm := memB_set_eq (blk := .lst 0 0 e k rows) (gh := ⟨0, v⟩) hl (by rw [h.len]; exact hl)
  refine ⟨h.step s _ _ hE hl hK (fun j b _ hj => hsame b (h.memB_lt hj)) (fun _ _ _ _ _ hp => hp) (fun b i hp => Nat.lt_of_lt_of_le (h.old b i hp) hE.size) ?_ ?_ ?_ ?_ ?_, hK⟩
  · rintro lk e' row' ⟨⟩
  · rintro lk g e' k' rows' ⟨rfl, rfl, rfl, rfl, rfl⟩
    exact ⟨vs, hk, hrk, hd, hv, hr.mono hE.stays hK (fun _ _ h => h), h1⟩
  · intro b _ hb'
    rw [hm] at hb'
    exact ⟨h.new _ (hb b hb'), fun i hp => by have := h.old _ i hp; have := hb b hb'; omega⟩
  · intro b hb; cases hb
  · intro j b _ hj hb'
    rw [hm] at hb'
    have := h.memB_lt hj; have := hb b hb'; omega

theorem setRow_evo {b : Nat} {cur : Array Value} {e : TypeId} (hb : w.heap[b]? = some (.cells cur e (0, 0))) (cs : Array Value) (hU : U b) (hP : ∀ i, ¬ Pr b i) : Evo U ls w Pr (w.setRow b cs) Pr :=
  ⟨rfl, rfl, rfl, by simp [World.setRow], fun b' hb' => setRow_other w b b' cs (fun e => hb' (e ▸ hU)), fun b' o h1 h2 _ => by
      by_cases hne : b' = b
      · subst hne; rw [hb] at h1; cases h1; cases h2
      · exact (setRow_other w b b' cs hne).trans h1,
    fun b' i hp => ⟨hp, fun v hv => by rw [cell_setRow_other w b cs _ (fun e : b' = b => hP i (e ▸ hp))]; exact hv⟩, fun _ _ _ h => h, Nat.le_refl _⟩

/-- A variable is written. -/
theorem Inv.setBox (h : Inv U w Pr σ γ) {id : Nat} {e : TypeId} {row : List AV} (hi : σ[id]? = some (.box 0 e row)) {gh : Ghost} (hg : γ[id]? = some gh) (row' : List AV) (cs : List Value) (hr : RepL w Pr σ γ row' cs) (h1 : ∀ u ∈ cs, u.oneCell' = true) :
    Inv U (w.setRow gh.b cs.toArray) Pr (σ.set id (.box 0 e row')) γ ∧ Keeps σ γ (σ.set id (.box 0 e row')) γ ∧ Evo U ls w Pr (w.setRow gh.b cs.toArray) Pr := by
  have hl := (List.getElem?_eq_some_iff.1 hi).1
  obtain ⟨gh', cur, hg', hc, _, _⟩ := h.box id 0 e row hi
  rw [hg] at hg'; cases hg'
  have hm := memB_box hi hg
  obtain ⟨hU, hP⟩ := h.free id _ gh.b hi (fun h => by cases h) hm
  have hE : Evo U ls w Pr (w.setRow gh.b cs.toArray) Pr := setRow_evo hc _ hU hP
  have hK : Keeps σ γ (σ.set id (.box 0 e row')) γ := Keeps.setBox hi
  have hγ : γ.set id gh = γ := set_self hg
  have hm' : memB (σ.set id (.box 0 e row')) γ id = some gh.b := by have := memB_set_eq (blk := .box 0 e row') (gh := gh) hl (by rw [h.len]; exact hl); rwa [hγ] at this
  have := h.step id (.box 0 e row') gh hE hl (by rw [hγ]; exact hK) (fun j b hj hb => setRow_other w gh.b b _ (fun e => hj (h.inj j id b hb (by rw [hm, e])))) (fun _ _ _ _ _ hp => hp) (fun b i hp => by have := h.old b i hp; simpa [World.setRow] using this) ?_ ?_ ?_ ?_ ?_
  · rw [hγ] at this; exact ⟨this, hK, hE⟩
  · rintro lk e' row'' ⟨rfl, rfl, rfl⟩
    rw [hγ]
    exact ⟨cs.toArray, setRow_heap w gh.b cur _ e (0, 0) hc, hr.mono hE.stays hK (fun _ _ h => h), h1⟩
  · rintro lk g e' k rows ⟨⟩
  · intro b _ hb
    rw [hγ, hm'] at hb; cases hb
    exact ⟨hU, hP⟩
  · intro b hb; cases hb
  · intro j b hj hjb hb
    rw [hγ, hm'] at hb; cases hb
    exact hj (h.inj j id _ hjb hm)

/-- A list's elements are written. -/
theorem Inv.setLst (h : Inv U w Pr σ γ) {id g k : Nat} {e : TypeId} {rows : List (List AV)} (hi : σ[id]? = some (.lst 0 g e k rows)) {gh : Ghost} (hg : γ[id]? = some gh) {b : Nat} (hb : blkOf gh.v = some b) (rows' : List (List AV)) (vs : List Value)
    (hlen : rows'.length = rows.length) (hrk : ∀ r ∈ rows', r.length = k) (hd : dataL rows'.flatten = true) (hvl : vs.length = rows.length * k) (hr : RepL w Pr σ γ rows'.flatten vs) (h1 : ∀ u ∈ vs, u.oneCell' = true)
    {cur : Array Value} (hc : w.heap[b]? = some (.cells cur e (0, 0))) :
    Inv U (w.setRow b (vs ++ cur.toList.drop (rows.length * k)).toArray) Pr (σ.set id (.lst 0 g e k rows')) γ ∧ Keeps σ γ (σ.set id (.lst 0 g e k rows')) γ ∧ Evo U ls w Pr (w.setRow b (vs ++ cur.toList.drop (rows.length * k)).toArray) Pr := by
  have hl := (List.getElem?_eq_some_iff.1 hi).1
  obtain ⟨gh', vs0, hg', hk, _, _, hV, _, _⟩ := h.lst id 0 g e k rows hi
  rw [hg] at hg'; cases hg'
  have hm : memB σ γ id = some b := (memB_lst hi hg).trans hb
  obtain ⟨hU, hP⟩ := h.free id _ b hi (fun h => by cases h) hm
  have hE : Evo U ls w Pr (w.setRow b (vs ++ cur.toList.drop (rows.length * k)).toArray) Pr := setRow_evo hc _ hU hP
  have hγ : γ.set id gh = γ := set_self hg
  have hK : Keeps σ γ (σ.set id (.lst 0 g e k rows')) γ := by have := Keeps.setLst (lk' := 0) (g' := g) (rows' := rows') (gh' := gh) hi hg (.inr ⟨rfl, hlen, rfl⟩); rwa [hγ] at this
  have hm' : memB (σ.set id (.lst 0 g e k rows')) γ id = some b := by have := memB_set_eq (blk := .lst 0 g e k rows') (gh := gh) hl (by rw [h.len]; exact hl); rw [hγ] at this; exact this.trans hb
  have := h.step id (.lst 0 g e k rows') gh hE hl (by rw [hγ]; exact hK) (fun j b' hj hb' => setRow_other w b b' _ (fun e => hj (h.inj j id b' hb' (by rw [hm, e])))) (fun _ _ _ _ _ hp => hp) (fun b' i hp => by have := h.old b' i hp; simpa [World.setRow] using this) ?_ ?_ ?_ ?_ ?_
  · rw [hγ] at this; exact ⟨this, hK, hE⟩
  · rintro lk e' row'' ⟨⟩
  · rintro lk g' e' k' rows'' ⟨rfl, rfl, rfl, rfl, rfl⟩
    rw [hγ]
    refine ⟨vs, hk, hrk, hd, ?_, hr.mono hE.stays hK (fun _ _ h => h), h1⟩
    obtain ⟨_, ⟨_, a, h3⟩ | ⟨gb, c, cur', h3, h4, h5, h6, h7, h8⟩⟩ := hV
    · rw [h3] at hb; cases a <;> cases hb
    · rw [h3] at hb; cases hb
      rw [hc] at h4; cases h4
      refine ⟨by rw [hvl, hlen], .inr ⟨_, c, _, by rw [hlen]; exact h3, setRow_heap w _ cur _ e (0, 0) hc, by rw [hlen]; exact h5, h6, ?_, ?_⟩⟩
      · have : rows.length * k ≤ cur.size := by rw [h7]; exact Nat.mul_le_mul_right _ h5
        simp [hvl]; omega
      · rw [hlen]; simp [hvl]
  · intro b' _ hb'
    rw [hγ, hm'] at hb'; cases hb'
    exact ⟨hU, hP⟩
  · intro b' hb'; cases hb'
  · intro j b' hj hjb hb'
    rw [hγ, hm'] at hb'; cases hb'
    exact hj (h.inj j id _ hjb hm)

/-- A list grows: to a slice that is nil, of its own block, or of a new one. -/
theorem Inv.growLst (h : Inv U w Pr σ γ) {id g k : Nat} {e : TypeId} {rows : List (List AV)} (hi : σ[id]? = some (.lst 0 g e k rows)) {gh : Ghost} (hg : γ[id]? = some gh) (rows' : List (List AV)) (v' : Value) (vs : List Value)
    (hE : Evo U ls w Pr w' Pr) (hsame : ∀ b, b < w.heap.size → blkOf gh.v ≠ some b → w'.heap[b]? = w.heap[b]?) (hblk : ∀ b, blkOf v' = some b → blkOf gh.v = some b ∨ w.heap.size ≤ b)
    (hrk : ∀ r ∈ rows', r.length = k) (hd : dataL rows'.flatten = true) (hV : LstV w' e k v' rows'.length vs) (hr : RepL w Pr σ γ rows'.flatten vs) (h1 : ∀ u ∈ vs, u.oneCell' = true) :
    Inv U w' Pr (σ.set id (.lst 0 (g + 1) e k rows')) (γ.set id ⟨0, v'⟩) ∧ Keeps σ γ (σ.set id (.lst 0 (g + 1) e k rows')) (γ.set id ⟨0, v'⟩) := by
  have hl := (List.getElem?_eq_some_iff.1 hi).1
  obtain ⟨gh', vs0, hg', hk, _⟩ := h.lst id 0 g e k rows hi
  rw [hg] at hg'; cases hg'
  have hm := memB_lst hi hg
  have hK : Keeps σ γ (σ.set id (.lst 0 (g + 1) e k rows')) (γ.set id ⟨0, v'⟩) := Keeps.setLst hi hg (.inl (by omega))
  have hm' := memB_set_eq (blk := .lst 0 (g + 1) e k rows') (gh := ⟨0, v'⟩) hl (by rw [h.len]; exact hl)
  refine ⟨h.step id _ _ hE hl hK (fun j b hj hb => hsame b (h.memB_lt hb) (fun e => hj (h.inj j id b hb (hm.trans e)))) (fun _ _ _ _ _ hp => hp) (fun b i hp => Nat.lt_of_lt_of_le (h.old b i hp) hE.size) ?_ ?_ ?_ ?_ ?_, hK⟩
  · rintro lk e' row'' ⟨⟩
  · rintro lk g' e' k' rows'' ⟨rfl, rfl, rfl, rfl, rfl⟩
    exact ⟨vs, hk, hrk, hd, hV, hr.mono hE.stays hK (fun _ _ h => h), h1⟩
  · intro b _ hb
    rw [hm'] at hb
    rcases hblk b hb with h2 | h2
    · exact h.free id _ b hi (fun h => by cases h) (hm.trans h2)
    · exact ⟨h.new _ h2, fun i hp => by have := h.old _ i hp; omega⟩
  · intro b hb; cases hb
  · intro j b hj hjb hb
    rw [hm'] at hb
    rcases hblk b hb with h2 | h2
    · exact hj (h.inj j id b hjb (hm.trans h2))
    · have := h.memB_lt hjb; omega

/-- A block of the store is never written again. -/
theorem Inv.lock (h : Inv U w Pr σ γ) {id : Nat} {blk blk' : Blk} (hi : σ[id]? = some blk)
    (hb : (∃ lk e row, blk = .box lk e row ∧ blk' = .box 2 e row) ∨ ∃ lk g e k rows, blk = .lst lk g e k rows ∧ blk' = .lst 2 g e k rows) :
    ∃ Pr', Inv U w Pr' (σ.set id blk') γ ∧ Keeps σ γ (σ.set id blk') γ ∧ Evo U ls w Pr w Pr' ∧ ∀ b, memB σ γ id = some b → ∀ i, i < blk.cellsN → Pr' b i := by
  have hl := (List.getElem?_eq_some_iff.1 hi).1
  obtain ⟨gh, hg⟩ : ∃ gh, γ[id]? = some gh := ⟨_, List.getElem?_eq_getElem (by rw [h.len]; exact hl)⟩
  have hγ : γ.set id gh = γ := set_self hg
  have hK : Keeps σ γ (σ.set id blk') γ := by
    rcases hb with ⟨lk, e, row, rfl, rfl⟩ | ⟨lk, g, e, k, rows, rfl, rfl⟩
    · exact Keeps.setBox hi
    · have := Keeps.setLst (lk' := 2) (g' := g) (rows' := rows) (gh' := gh) hi hg (.inr ⟨rfl, rfl, rfl⟩); rwa [hγ] at this
  have hm' : memB (σ.set id blk') γ id = memB σ γ id := by
    have := memB_set_eq (blk := blk') (gh := gh) hl (by rw [h.len]; exact hl)
    rw [hγ] at this; rw [this]
    rcases hb with ⟨lk, e, row, rfl, rfl⟩ | ⟨lk, g, e, k, rows, rfl, rfl⟩
    · exact (memB_box hi hg).symm
    · exact (memB_lst hi hg).symm
  have hn : blk'.cellsN = blk.cellsN := by rcases hb with ⟨lk, e, row, rfl, rfl⟩ | ⟨lk, g, e, k, rows, rfl, rfl⟩ <;> rfl
  by_cases h2 : blk.lock = 2
  · have : σ.set id blk' = σ := by
      refine set_self ?_
      rcases hb with ⟨lk, e, row, rfl, rfl⟩ | ⟨lk, g, e, k, rows, rfl, rfl⟩ <;> (cases h2; exact hi)
    rw [this]
    exact ⟨Pr, h, Keeps.refl _ _, Evo.refl _ _ _ _, fun b hb' => h.fix id blk b hi h2 hb'⟩
  refine ⟨fun b i => Pr b i ∨ (memB σ γ id = some b ∧ i < blk.cellsN), ?_⟩
  have hE : Evo U ls w Pr w (fun b i => Pr b i ∨ (memB σ γ id = some b ∧ i < blk.cellsN)) :=
    ⟨rfl, rfl, rfl, Nat.le_refl _, fun _ _ => rfl, fun _ _ h _ _ => h, fun b i hp => ⟨.inl hp, fun v hv => hv⟩, fun b i hb hp => hp.resolve_right fun hx => hb (h.free id blk b hi h2 hx.1).1, Nat.le_refl _⟩
  have := h.step id blk' gh hE hl (by rw [hγ]; exact hK) (fun _ _ _ _ => rfl) (fun j b i hj hb hp => hp.resolve_right fun hx => hj (h.inj j id b hb hx.1))
    (fun b i hp => hp.elim (h.old b i) fun hx => h.memB_lt hx.1) ?_ ?_ ?_ ?_ ?_
  · rw [hγ] at this
    exact ⟨this, hK, hE, fun b hb' i hi' => .inr ⟨hb', hi'⟩⟩
  · rintro lk e row hx
    rw [hγ]
    rcases hb with ⟨lk', e', row', rfl, rfl⟩ | ⟨lk', g, e', k, rows, rfl, rfl⟩
    · cases hx
      obtain ⟨gh', cs, h3, h4, h5, h6⟩ := h.box id _ _ _ hi
      rw [hg] at h3; cases h3
      exact ⟨cs, h4, h5.mono hE.stays hK (fun _ _ h => h), h6⟩
    · cases hx
  · rintro lk g e k rows hx
    rw [hγ]
    rcases hb with ⟨lk', e', row', rfl, rfl⟩ | ⟨lk', g', e', k', rows', rfl, rfl⟩
    · cases hx
    · cases hx
      obtain ⟨gh', vs, h3, h4, h5, h6, h7, h8, h9⟩ := h.lst id _ _ _ _ _ hi
      rw [hg] at h3; cases h3
      exact ⟨vs, h4, h5, h6, h7, h8.mono hE.stays hK (fun _ _ h => h), h9⟩
  · intro b hlk; rcases hb with ⟨lk', e', row', rfl, rfl⟩ | ⟨lk', g, e', k, rows, rfl, rfl⟩ <;> exact absurd rfl hlk
  · intro b _ hb' i hi'
    rw [hγ, hm'] at hb'
    exact .inr ⟨hb', by rw [← hn]; exact hi'⟩
  · intro j b hj hjb hb'
    rw [hγ, hm'] at hb'
    exact hj (h.inj j id b hjb hb')

/-- Another world in which the store's blocks lie as they lay. -/
theorem Inv.world (h : Inv U w Pr σ γ) (hE : Evo U ls w Pr w' Pr') (hsame : ∀ j b, memB σ γ j = some b → w'.heap[b]? = w.heap[b]?) (hprot : ∀ j b i, memB σ γ j = some b → Pr' b i → Pr b i) (hold : ∀ b i, Pr' b i → b < w'.heap.size) : Inv U w' Pr' σ γ := by
  have hm : ∀ as vs, RepL w Pr σ γ as vs → RepL w' Pr' σ γ as vs := fun as vs hh => hh.mono hE.stays (Keeps.refl _ _) (fun _ _ h => h)
  refine ⟨h.len, fun id lk e row hi => ?_, fun id lk g e k rows hi => ?_, fun id blk b hi hlk hb => ⟨(h.free id blk b hi hlk hb).1, fun i hp => (h.free id blk b hi hlk hb).2 i (hprot id b i hb hp)⟩,
    fun id blk b hi hlk hb i hlt => (hE.stays b i (h.fix id blk b hi hlk hb i hlt)).1, h.inj, hold, fun b hb => h.new b (Nat.le_trans hE.size hb)⟩
  · obtain ⟨gh, cs, h1, h2, h3, h4⟩ := h.box id lk e row hi
    exact ⟨gh, cs, h1, (hsame id gh.b (memB_box hi h1)).trans h2, hm _ _ h3, h4⟩
  · obtain ⟨gh, vs, h1, h2, h3, h4, h5, h6, h7⟩ := h.lst id lk g e k rows hi
    exact ⟨gh, vs, h1, h2, h3, h4, h5.same (fun b hb => hsame id b ((memB_lst hi h1).trans hb)), hm _ _ h6, h7⟩
/-- A new block of which cells are never written again. -/
theorem Inv.newRo (h : Inv U w Pr σ γ) (o : Obj) (n : Nat) : ∃ Pr', Inv U (w.alloc o) Pr' σ γ ∧ Evo U ls w Pr (w.alloc o) Pr' ∧ ∀ i, i < n → Pr' w.heap.size i := by
  refine ⟨fun b i => Pr b i ∨ (b = w.heap.size ∧ i < n), ?_, ?_, fun i hi => .inr ⟨rfl, hi⟩⟩
  · have hE0 := Evo.alloc (ls := ls) (Pr := Pr) h.new o
    have hE : Evo U ls w Pr (w.alloc o) (fun b i => Pr b i ∨ (b = w.heap.size ∧ i < n)) :=
      ⟨rfl, rfl, rfl, hE0.size, hE0.same, hE0.keep, fun b i hp => ⟨.inl hp, (hE0.stays b i hp).2⟩, fun b i hb hp => hp.resolve_right fun hx => hb (by rw [hx.1]; exact h.new _ (Nat.le_refl _)), hE0.drawn⟩
    exact h.world hE (fun j b hb => alloc_old w o (h.memB_lt hb)) (fun j b i hb hp => hp.resolve_right fun hx => by have := h.memB_lt hb; omega) (fun b i hp => by
      rcases hp with hp | ⟨rfl, _⟩
      · have := h.old b i hp; simp; omega
      · simp)
  · have hE0 := Evo.alloc (ls := ls) (Pr := Pr) h.new o
    exact ⟨rfl, rfl, rfl, hE0.size, hE0.same, hE0.keep, fun b i hp => ⟨.inl hp, (hE0.stays b i hp).2⟩, fun b i hb hp => hp.resolve_right fun hx => hb (by rw [hx.1]; exact h.new _ (Nat.le_refl _)), hE0.drawn⟩
end Go.Proofs.YtgajekpigkknnaaDoor.A

/- What is read: operands, cells, rows of slices. No condition. -/
namespace Go.Proofs.YtgajekpigkknnaaDoor.A
open Go
variable {U : Nat → Prop} {w w' : World} {Pr Pr' : Nat → Nat → Prop} {σ σ' : List Blk} {γ γ' : List Ghost} {ls : List Nat} {P : Program} {G : Nat → Option (List AV)}

/-! ### Rows of cells -/
theorem RepL.nil : RepL w Pr σ γ [] [] := ⟨rfl, fun i a v h => by simp at h⟩
theorem RepL.one {a : AV} {v : Value} (h : Rep w Pr σ γ [] a v) : RepL w Pr σ γ [a] [v] := ⟨rfl, fun i a' v' h1 h2 => by
  cases i with
  | zero => cases h1; cases h2; exact h
  | succ i => simp at h1⟩
theorem RepL.append {as bs : List AV} {us vs : List Value} (h : RepL w Pr σ γ as us) (k : RepL w Pr σ γ bs vs) : RepL w Pr σ γ (as ++ bs) (us ++ vs) := by
  refine ⟨by simp [h.1, k.1], fun i a v ha hv => ?_⟩
  by_cases hi : i < as.length
  · rw [List.getElem?_append_left hi] at ha
    rw [List.getElem?_append_left (by rw [h.1]; exact hi)] at hv
    exact h.2 i a v ha hv
  · rw [List.getElem?_append_right (by omega)] at ha
    rw [List.getElem?_append_right (by rw [h.1]; omega), h.1] at hv
    exact k.2 _ a v ha hv
theorem RepL.take {as : List AV} {us : List Value} (h : RepL w Pr σ γ as us) (n : Nat) : RepL w Pr σ γ (as.take n) (us.take n) := by
  refine ⟨by simp [h.1], fun i a v ha hv => ?_⟩
  rw [List.getElem?_take] at ha hv
  split at ha
  · rename_i hi; rw [if_pos hi] at hv; exact h.2 i a v ha hv
  · cases ha
theorem RepL.drop {as : List AV} {us : List Value} (h : RepL w Pr σ γ as us) (n : Nat) : RepL w Pr σ γ (as.drop n) (us.drop n) := by
  refine ⟨by simp [h.1], fun i a v ha hv => ?_⟩
  rw [List.getElem?_drop] at ha hv
  exact h.2 _ a v ha hv
theorem RepL.get {as : List AV} {us : List Value} (h : RepL w Pr σ γ as us) {i : Nat} {a : AV} (ha : as[i]? = some a) : ∃ v, us[i]? = some v ∧ Rep w Pr σ γ [] a v := by
  have hi : i < us.length := by rw [h.1]; exact (List.getElem?_eq_some_iff.1 ha).1
  exact ⟨us[i], List.getElem?_eq_getElem hi, h.2 i a _ ha (List.getElem?_eq_getElem hi)⟩
theorem RepL.cons_inv {a : AV} {as : List AV} {us : List Value} (h : RepL w Pr σ γ (a :: as) us) : ∃ v vs, us = v :: vs ∧ Rep w Pr σ γ [] a v ∧ RepL w Pr σ γ as vs := by
  cases us with
  | nil => have := h.1; simp at this
  | cons v vs => exact ⟨v, vs, rfl, h.2 0 a v rfl rfl, by have := h.1; simpa using this, fun i a' v' ha hv => h.2 (i + 1) a' v' (by simpa using ha) (by simpa using hv)⟩
theorem RepL.cons {a : AV} {as : List AV} {v : Value} {vs : List Value} (h : Rep w Pr σ γ [] a v) (k : RepL w Pr σ γ as vs) : RepL w Pr σ γ (a :: as) (v :: vs) := (RepL.one h).append k
theorem RepL.nil_inv {us : List Value} (h : RepL w Pr σ γ [] us) : us = [] := List.eq_nil_of_length_eq_zero h.1
theorem RepL.dataOne {as : List AV} {us : List Value} (h : RepL w Pr σ γ as us) (hd : dataL as = true) : ∀ u ∈ us, u.oneCell' = true := by
  intro u hu
  obtain ⟨i, hi, he⟩ := List.mem_iff_getElem.1 hu
  have hi' : i < as.length := by rw [← h.1]; exact hi
  exact isData_one (h.2 i as[i] u (List.getElem?_eq_getElem hi') (by rw [List.getElem?_eq_getElem hi, he])) (List.all_eq_true.1 hd _ (List.getElem_mem _))

theorem flatten_take {α : Type} {k : Nat} : ∀ (rows : List (List α)), (∀ r ∈ rows, r.length = k) → ∀ n, (rows.take n).flatten = rows.flatten.take (n * k)
  | [], _, n => by simp
  | r :: rows, h, 0 => by simp
  | r :: rows, h, n + 1 => by
    have hr := h r (by simp)
    have ih := flatten_take rows (fun x hx => h x (by simp [hx])) n
    have h2 : (n + 1) * k = n * k + k := Nat.succ_mul n k
    rw [List.take_succ_cons, List.flatten_cons, List.flatten_cons, ih, List.take_append, hr, h2, Nat.add_sub_cancel, List.take_of_length_le (l := r) (by omega)]
theorem flatten_drop {α : Type} {k : Nat} : ∀ (rows : List (List α)), (∀ r ∈ rows, r.length = k) → ∀ n, (rows.drop n).flatten = rows.flatten.drop (n * k)
  | [], _, n => by simp
  | r :: rows, h, 0 => by simp
  | r :: rows, h, n + 1 => by
    have hr := h r (by simp)
    have ih := flatten_drop rows (fun x hx => h x (by simp [hx])) n
    have h2 : (n + 1) * k = n * k + k := Nat.succ_mul n k
    rw [List.drop_succ_cons, List.flatten_cons, ih, List.drop_append, hr, h2, Nat.add_sub_cancel, List.drop_eq_nil_of_le (as := r) (by omega), List.nil_append]
theorem flatten_length {α : Type} {k : Nat} : ∀ (rows : List (List α)), (∀ r ∈ rows, r.length = k) → rows.flatten.length = rows.length * k
  | [], _ => by simp
  | r :: rows, h => by rw [List.flatten_cons, List.length_append, h r (by simp), flatten_length rows (fun x hx => h x (by simp [hx])), List.length_cons, Nat.succ_mul, Nat.add_comm]
theorem flatten_row {α : Type} {k : Nat} {rows : List (List α)} (h : ∀ r ∈ rows, r.length = k) {i : Nat} {r : List α} (hi : rows[i]? = some r) : (rows.flatten.drop (i * k)).take k = r := by
  rw [← flatten_drop rows h]
  have hl := (List.getElem?_eq_some_iff.1 hi).1
  have he := (List.getElem?_eq_some_iff.1 hi).2
  rw [List.drop_eq_getElem_cons hl, List.flatten_cons, he, List.take_left' (h r (he ▸ List.getElem_mem hl))]
theorem flatten_set {α : Type} {k : Nat} {rows : List (List α)} (h : ∀ r ∈ rows, r.length = k) {i : Nat} {r r' : List α} (hi : rows[i]? = some r) :
    (rows.set i r').flatten = rows.flatten.take (i * k) ++ r' ++ rows.flatten.drop (i * k + k) := by
  have hl := (List.getElem?_eq_some_iff.1 hi).1
  rw [List.set_eq_take_append_cons_drop, if_pos hl, List.flatten_append, List.flatten_cons, flatten_take rows h, flatten_drop rows h, Nat.succ_mul, List.append_assoc]

theorem dataL_append {a b : List AV} : dataL (a ++ b) = (dataL a && dataL b) := by simp [dataL]
theorem dataL_take {a : List AV} (h : dataL a = true) (n : Nat) : dataL (a.take n) = true := List.all_eq_true.2 fun x hx => List.all_eq_true.1 h x (List.mem_of_mem_take hx)
theorem dataL_drop {a : List AV} (h : dataL a = true) (n : Nat) : dataL (a.drop n) = true := List.all_eq_true.2 fun x hx => List.all_eq_true.1 h x (List.mem_of_mem_drop hx)

/-! ### Operands -/
theorem const1_rep {v : Value} {a : AV} (h : const1 v = some a) : Rep w Pr σ γ ls a v ∧ v.oneCell' = true ∧ (a.isData = true ∨ a = .clip []) := by
  unfold const1 at h
  split at h <;> first
    | (cases h; done)
    | (cases h; exact ⟨by first | exact .bool _ | exact .int _ _ | exact .str _ | exact .nilp | exact .nilf | exact .clip [] none (.ro0 none 0), rfl, by first | exact .inl rfl | exact .inr rfl⟩)
theorem const1L_rep : ∀ {vs : List Value} {as : List AV}, const1L vs = some as → RepL w Pr σ γ as vs ∧ (∀ u ∈ vs, u.oneCell' = true)
  | [], as, h => by cases h; exact ⟨RepL.nil, fun u hu => by cases hu⟩
  | v :: vs, as, h => by
    unfold const1L at h
    split at h
    · rename_i a r h1 h2
      cases h
      obtain ⟨h3, h4, _⟩ := const1_rep (w := w) (Pr := Pr) (σ := σ) (γ := γ) (ls := []) h1
      obtain ⟨h5, h6⟩ := const1L_rep h2
      exact ⟨RepL.cons h3 h5, fun u hu => by rcases List.mem_cons.1 hu with rfl | hu; exact h4; exact h6 u hu⟩
    · cases h
theorem constAV_rep {v : Value} {a : AV} (h : constAV v = some a) : Rep w Pr σ γ ls a v := by
  unfold constAV at h
  split at h
  · rename_i cs
    cases hc : const1L cs.toList with
    | none => rw [hc] at h; cases h
    | some l =>
      rw [hc] at h; cases h
      obtain ⟨h1, h2⟩ := const1L_rep (w := w) (Pr := Pr) (σ := σ) (γ := γ) hc
      have := Rep.agg (w := w) (Pr := Pr) (σ := σ) (γ := γ) (ls := ls) l cs.toList h1.1 h2 h1.2
      simpa using this
  · exact (const1_rep h).1

def GOk (G : Nat → Option (List AV)) (w : World) (Pr : Nat → Nat → Prop) : Prop := ∀ g row, G g = some row → Rep w Pr [] [] [] (.rp row 0) (.pointer (some ⟨g, 0, none⟩))
theorem GOk.mono (h : GOk G w Pr) (hs : Stays w Pr w' Pr') : GOk G w' Pr' := fun g row hg => (h g row hg).mono hs (Keeps.refl _ _) (fun _ _ h => h)
theorem Rep.rpAny {row : List AV} {off : Nat} {v : Value} (h : Rep w Pr [] [] [] (.rp row off) v) : Rep w Pr σ γ ls (.rp row off) v := by
  cases h with
  | rp row off b o vs h1 h2 h3 h4 => exact .rp row off b o vs h1 h2 h3 (fun i a v ha hv => (h4 i a v ha hv).data (List.all_eq_true.1 h3 a (List.mem_of_getElem? ha)))

def TOk (w : World) (Pr : Nat → Nat → Prop) (σ : List Blk) (γ : List Ghost) (ls : List Nat) (T : Tm) (tm : Array Value) : Prop := ∀ t, Rep w Pr σ γ ls (T.get t) (tm.getD t undef)
theorem TOk.mono {T : Tm} {tm : Array Value} {ls' : List Nat} (h : TOk w Pr σ γ ls T tm) (hs : Stays w Pr w' Pr') (hk : Keeps σ γ σ' γ') (hl : ∀ (d : Nat) l, ls[d]? = some l → ls'[d]? = some l) : TOk w' Pr' σ' γ' ls' T tm :=
  fun t => (h t).mono hs hk hl
theorem TOk.put {T : Tm} {tm : Array Value} (h : TOk w Pr σ γ ls T tm) {d : Nat} (hd : d < tm.size) {a : AV} {v : Value} (hv : Rep w Pr σ γ ls a v) : TOk w Pr σ γ ls ((d, a) :: T) (tm.setIfInBounds d v) := by
  intro t
  show Rep w Pr σ γ ls (if d = t then a else T.get t) _
  by_cases hdt : d = t
  · subst hdt; rw [if_pos rfl]; simp [hd, hv]
  · rw [if_neg hdt]
    have := h t
    rwa [show (tm.setIfInBounds d v).getD t undef = tm.getD t undef from by simp [Array.getD_eq_getD_getElem?, Array.getElem?_setIfInBounds_ne hdt]]

theorem cOpd_rep {T : Tm} {a : Act} (hG : GOk G w Pr) (hT : TOk w Pr σ γ ls T a.tmps) {x : Operand} {y : Opd} (h : cOpd G x = some y) : Rep w Pr σ γ ls (y.ev T) (a.eval x) := by
  cases x with
  | tmp t => cases h; exact hT t
  | const v =>
    simp only [cOpd] at h
    cases hc : constAV v with
    | none => rw [hc] at h; cases h
    | some c => rw [hc] at h; cases h; exact constAV_rep hc
  | func f => cases h; exact Rep.clo f [] [] rfl (fun i a v ha => by simp at ha)
  | global g =>
    simp only [cOpd] at h
    cases hg : G g with
    | none => rw [hg] at h; cases h
    | some row => rw [hg] at h; cases h; exact (hG g row hg).rpAny
/-- A row of arguments. -/
def RepA (w : World) (Pr : Nat → Nat → Prop) (σ : List Blk) (γ : List Ghost) (ls : List Nat) (as : List AV) (vs : List Value) : Prop :=
  vs.length = as.length ∧ ∀ (i : Nat) a v, as[i]? = some a → vs[i]? = some v → Rep w Pr σ γ ls a v
theorem RepA.nil : RepA w Pr σ γ ls [] [] := ⟨rfl, fun i a v h => by simp at h⟩
theorem RepA.cons {a : AV} {as : List AV} {v : Value} {vs : List Value} (h : Rep w Pr σ γ ls a v) (k : RepA w Pr σ γ ls as vs) : RepA w Pr σ γ ls (a :: as) (v :: vs) :=
  ⟨by simp [k.1], fun i a' v' h1 h2 => by
    cases i with
    | zero => cases h1; cases h2; exact h
    | succ i => exact k.2 i a' v' (by simpa using h1) (by simpa using h2)⟩
theorem RepA.cons_inv {a : AV} {as : List AV} {us : List Value} (h : RepA w Pr σ γ ls (a :: as) us) : ∃ v vs, us = v :: vs ∧ Rep w Pr σ γ ls a v ∧ RepA w Pr σ γ ls as vs := by
  cases us with
  | nil => have := h.1; simp at this
  | cons v vs => exact ⟨v, vs, rfl, h.2 0 a v rfl rfl, by have := h.1; simpa using this, fun i a' v' ha hv => h.2 (i + 1) a' v' (by simpa using ha) (by simpa using hv)⟩
theorem RepL.toA {as : List AV} {vs : List Value} (h : RepL w Pr σ γ as vs) : RepA w Pr σ γ ls as vs := ⟨h.1, fun i a v ha hv => (h.2 i a v ha hv).up⟩
theorem RepA.toL {as : List AV} {vs : List Value} (h : RepA w Pr σ γ ls as vs) (hy : as.any AV.isYld = false) : RepL w Pr σ γ as vs :=
  ⟨h.1, fun i a v ha hv => (h.2 i a v ha hv).base (by
    have := List.any_eq_false.1 hy a (List.mem_of_getElem? ha)
    simpa using this)⟩
theorem RepA.append {as bs : List AV} {us vs : List Value} (h : RepA w Pr σ γ ls as us) (k : RepA w Pr σ γ ls bs vs) : RepA w Pr σ γ ls (as ++ bs) (us ++ vs) := by
  refine ⟨by simp [h.1, k.1], fun i a v ha hv => ?_⟩
  by_cases hi : i < as.length
  · rw [List.getElem?_append_left hi] at ha
    rw [List.getElem?_append_left (by rw [h.1]; exact hi)] at hv
    exact h.2 i a v ha hv
  · rw [List.getElem?_append_right (by omega)] at ha
    rw [List.getElem?_append_right (by rw [h.1]; omega), h.1] at hv
    exact k.2 _ a v ha hv
theorem cOpds_rep {T : Tm} {a : Act} (hG : GOk G w Pr) (hT : TOk w Pr σ γ ls T a.tmps) : ∀ {xs : List Operand} {ys : List Opd}, cOpds G xs = some ys → RepA w Pr σ γ ls (ys.map (·.ev T)) (xs.map a.eval)
  | [], ys, h => by cases h; exact RepA.nil
  | x :: xs, ys, h => by
    unfold cOpds at h
    split at h
    · rename_i y r h1 h2; cases h; exact RepA.cons (cOpd_rep hG hT h1) (cOpds_rep hG hT h2)
    · cases h

/-! ### Cells of a value -/
theorem cells_rep {a : AV} {v : Value} (h : Rep w Pr σ γ ls a v) {cs : List AV} (hc : a.cells = some cs) : RepL w Pr σ γ cs v.cells.toList ∧ ∀ u ∈ v.cells.toList, u.oneCell' = true := by
  have one : ∀ {b : AV} {u : Value}, Rep w Pr σ γ [] b u → u.oneCell' = true → RepL w Pr σ γ [b] u.cells.toList ∧ ∀ x ∈ u.cells.toList, x.oneCell' = true := fun {b u} hb hu => by
    have : u.cells = #[u] := by cases u <;> first | rfl | cases hu
    rw [this]; exact ⟨RepL.one hb, fun x hx => by simp at hx; subst hx; exact hu⟩
  cases h with
  | undef v => cases hc
  | yld d l h => cases hc
  | yp d l b o h hv => cases hc
  | tup cs vs h1 h2 => cases hc
  | agg cs vs h1 h2 h3 => cases hc; exact ⟨⟨by simpa [Value.cells] using h1, by simpa [Value.cells] using h3⟩, by simpa [Value.cells] using h2⟩
  | bool b => cases hc; exact one (.bool b) rfl
  | int k n => cases hc; exact one (.int k n) rfl
  | str s => cases hc; exact one (.str s) rfl
  | nilp => cases hc; exact one .nilp rfl
  | nilf => cases hc; exact one .nilf rfl
  | ro0 a c => cases hc; exact one (.ro0 a c) rfl
  | ro rows b off k c vs h1 h2 h3 h4 h5 h6 h7 => cases hc; exact one (.ro rows b off k c vs h1 h2 h3 h4 h5 h6 h7) rfl
  | clip rows a h => cases hc; exact one (.clip rows a h) rfl
  | lisOld id gen off len lk g e k rows u h1 h2 ho => cases hc; exact one (.lisOld id gen off len lk g e k rows v h1 h2 ho) ho.one
  | lis id off len lk g e k rows gh u h1 h2 h3 h4 => cases hc; exact one (.lis id off len lk g e k rows gh v h1 h2 h3 h4) h4.one
  | ptrB id off lk e row gh h1 h2 => cases hc; exact one (.ptrB id off lk e row gh h1 h2) rfl
  | ptrOld id gen row off lk g e k rows b o h1 h2 => cases hc; exact one (.ptrOld id gen row off lk g e k rows b o h1 h2) rfl
  | ptrL id row off lk g e k rows gh gb h1 h2 h3 h4 => cases hc; exact one (.ptrL id row off lk g e k rows gh gb h1 h2 h3 h4) rfl
  | rp row off b o vs h1 h2 h3 h4 => cases hc; exact one (.rp row off b o vs h1 h2 h3 h4) rfl
  | clo f caps vs h1 h2 => cases hc; exact one (.clo f caps vs h1 h2) rfl
  | refs rows b off k c vs h1 h2 h3 h4 h5 h6 h7 => cases hc; exact one (.refs rows b off k c vs h1 h2 h3 h4 h5 h6 h7) rfl
  | rq row off b o vs h1 h2 h3 h4 => cases hc; exact one (.rq row off b o vs h1 h2 h3 h4) rfl

theorem piece_inv {row : List AV} {off k : Nat} {cs : List AV} (h : piece row off k = some cs) : off + k ≤ row.length ∧ cs = (row.drop off).take k ∧ cs.length = k := by
  unfold piece at h
  split at h
  · rename_i hl; cases h; exact ⟨hl, rfl, by simp; omega⟩
  · cases h
theorem RepL.piece {row : List AV} {us : List Value} (h : RepL w Pr σ γ row us) {off k : Nat} {cs : List AV} (hp : piece row off k = some cs) : RepL w Pr σ γ cs ((us.drop off).take k) := by
  obtain ⟨_, rfl, _⟩ := piece_inv hp; exact (h.drop off).take k
theorem range_piece {b o : Nat} {us : List Value} (h : w.rangeAt b o us) (off k : Nat) : w.rangeAt b (o + off) ((us.drop off).take k) := by
  intro j v hj
  rw [List.getElem?_take] at hj
  split at hj
  · rw [List.getElem?_drop] at hj; have := h _ v hj; rwa [← Nat.add_assoc] at this
  · cases hj
theorem range_cells {b : Nat} {cs : Array Value} {e : TypeId} (h : w.heap[b]? = some (.cells cs e (0, 0))) : w.rangeAt b 0 cs.toList := by
  intro j v hj
  rw [cell_of_row w b _ cs e (0, 0) h]
  simpa using hj
theorem one_piece {us : List Value} (h : ∀ u ∈ us, u.oneCell' = true) (off k : Nat) : ∀ u ∈ (us.drop off).take k, u.oneCell' = true := fun u hu => h u (List.mem_of_mem_drop (List.mem_of_mem_take hu))

/-- What a pointer reads. -/
theorem rdPtr_rep (h : Inv U w Pr σ γ) {p : AV} {v : Value} (hp : Rep w Pr σ γ ls p v) {k : Nat} {cs : List AV} (hr : rdPtr σ p k = some cs) :
    ∃ b o vs, v = .pointer (some ⟨b, o, none⟩) ∧ w.rangeAt b o vs ∧ RepL w Pr σ γ cs vs ∧ (∀ u ∈ vs, u.oneCell' = true) ∧ cs.length = k := by
  cases hp with
  | ptrB id off lk e row gh h1 h2 =>
    simp only [rdPtr, h1, and_self, if_true] at hr
    obtain ⟨gh', cs', h3, h4, h5, h6⟩ := h.box _ _ _ _ h1
    rw [h2] at h3; cases h3
    exact ⟨gh.b, off, _, rfl, by have := range_piece (range_cells h4) off k; rwa [Nat.zero_add] at this, h5.piece hr, one_piece h6 off k, (piece_inv hr).2.2⟩
  | ptrOld id gen row off lk g e k' rows b o h1 h2 =>
    simp only [rdPtr, h1] at hr
    rw [if_neg (by omega)] at hr; cases hr
  | ptrL id row off lk g e k' rows gh gb h1 h2 h3 h4 =>
    simp only [rdPtr, h1, if_true] at hr
    obtain ⟨gh', vs, h5, h6, h7, h8, h9, h10, h11⟩ := h.lst _ _ _ _ _ _ h1
    rw [h2] at h5; cases h5
    split at hr
    · rename_i r hrr
      obtain ⟨_, ⟨_, a, hx⟩ | ⟨g', c, cur, hx, hh, h12, h13, h14, h15⟩⟩ := h9
      · rw [hx] at h3; cases a <;> cases h3
      · rw [hx] at h3; cases h3
        have hpc := piece_inv hr
        have hrow := flatten_row h7 hrr
        have hrep : RepL w Pr σ γ r ((vs.drop (row * k')).take k') := by have := (h10.drop (row * k')).take k'; rwa [hrow] at this
        have hrg : w.rangeAt g' 0 vs := by
          have := range_piece (range_cells hh) 0 (rows.length * k')
          rw [List.drop_zero, h15] at this; exact this
        have hrg2 := range_piece (range_piece hrg (row * k') k') off k
        rw [Nat.zero_add] at hrg2
        exact ⟨g', row * k' + off, _, rfl, hrg2, hrep.piece hr, one_piece (one_piece h11 _ _) _ _, hpc.2.2⟩
    · cases hr
  | rp row off b o vs h1 h2 h3 h4 =>
    simp only [rdPtr] at hr
    exact ⟨b, o + off, _, rfl, range_piece (fun j v hj => (h2 j v hj).2) off k, RepL.piece ⟨h1, h4⟩ hr, one_piece (RepL.dataOne ⟨h1, h4⟩ h3) off k, (piece_inv hr).2.2⟩
  | rq row off b o vs h1 h2 h3 h4 =>
    simp only [rdPtr] at hr
    exact ⟨b, o + off, _, rfl, range_piece (fun j v hj => (h2 j v hj).2) off k, RepL.piece ⟨h1, h4⟩ hr, one_piece h3 off k, (piece_inv hr).2.2⟩
  | _ => simp [rdPtr] at hr

theorem asVal_rep {agg : Bool} {cs : List AV} {vs : List Value} (h : RepL w Pr σ γ cs vs) (h1 : ∀ u ∈ vs, u.oneCell' = true) {a : AV} (ha : asVal agg cs = some a) :
    (agg = true ∧ Rep w Pr σ γ ls a (.agg vs.toArray)) ∨ (agg = false ∧ ∃ v, vs = [v] ∧ Rep w Pr σ γ ls a v) := by
  unfold asVal at ha
  split at ha
  · rename_i hb; cases ha; exact .inl ⟨hb, .agg cs vs h.1 h1 h.2⟩
  · rename_i hb
    split at ha
    · cases ha
      obtain ⟨v, vs', rfl, h2, h3⟩ := h.cons_inv
      rw [h3.nil_inv]
      exact .inr ⟨by simpa using hb, v, rfl, h2.up⟩
    · cases ha

/-! ### Rows of slices -/
/-- The cells of a slice's rows. -/
def RowsAt (w : World) (Pr : Nat → Nat → Prop) (base : Option Addr) (rows : List (List AV)) : Prop :=
  rows = [] ∨ ∃ b off k vs, base = some ⟨b, off, none⟩ ∧ 0 < k ∧ (∀ r ∈ rows, r.length = k) ∧ dataL rows.flatten = true ∧ w.rangeAt b off vs ∧ RepL w Pr [] [] rows.flatten vs
theorem RepL.anyData {as : List AV} {us : List Value} (h : RepL w Pr [] [] as us) (hd : dataL as = true) : RepL w Pr σ γ as us := h.data hd
theorem ro_rows {rows : List (List AV)} {v : Value} (h : Rep w Pr σ γ ls (.ro rows) v) : ∃ base c, v = .slice base rows.length c ∧ RowsAt w Pr base rows := by
  cases h with
  | ro0 a c => exact ⟨a, c, rfl, .inl rfl⟩
  | ro rows b off k c vs h1 h2 h3 h4 h5 h6 h7 =>
    exact ⟨_, c, rfl, .inr ⟨b, off, k, vs, rfl, h1, h2, h6, fun j v hj => (h5 j v hj).2, RepL.data ⟨by rw [h4, flatten_length rows h2], h7⟩ h6⟩⟩

/-- What slices are, of whatever kind. -/
theorem slice_shape {a : AV} {v : Value} (ha : Rep w Pr σ γ ls a v) {n : Nat} (hn : lenOf a = some n) : SliceShape n v := by
  have ro : ∀ {rows : List (List AV)} {u : Value}, Rep w Pr σ γ [] (.ro rows) u → SliceShape rows.length u := fun {rows u} h => by
    cases h with
    | ro0 a c => exact ⟨a, c, rfl, Nat.zero_le _, fun h => absurd rfl h⟩
    | ro rows b off k c vs h1 h2 h3 => exact ⟨_, c, rfl, h3, fun _ => ⟨b, off, rfl⟩⟩
  cases ha with
  | ro0 a c => cases hn; exact ro (.ro0 a c)
  | ro rows b off k c vs h1 h2 h3 h4 h5 h6 h7 => cases hn; exact ro (.ro rows b off k c vs h1 h2 h3 h4 h5 h6 h7)
  | clip rows a hc => cases hn; exact ro hc
  | lisOld id gen off len lk g e k rows u h1 h2 ho => cases hn; exact ho
  | lis id off len lk g e k rows gh u h1 h2 h3 h4 => cases hn; exact h4.shape
  | refs rows b off k c vs h1 h2 h3 => cases hn; exact ⟨_, c, rfl, h3, fun _ => ⟨b, off, rfl⟩⟩
  | _ => cases hn
theorem rowsOf_rep (h : Inv U w Pr σ γ) {a : AV} {v : Value} (ha : Rep w Pr σ γ ls a v) {rows : List (List AV)} (hr : rowsOf σ a = some rows) : ∃ base c, v = .slice base rows.length c ∧ RowsAt w Pr base rows := by
  cases ha with
  | ro0 a c => cases hr; exact ro_rows (w := w) (Pr := Pr) (σ := σ) (γ := γ) (ls := ls) (.ro0 a c)
  | ro rows b off k c vs h1 h2 h3 h4 h5 h6 h7 => cases hr; exact ro_rows (w := w) (Pr := Pr) (σ := σ) (γ := γ) (ls := ls) (.ro rows b off k c vs h1 h2 h3 h4 h5 h6 h7)
  | clip rows a hc =>
    cases hr
    obtain ⟨base, c, he, hx⟩ := ro_rows hc
    cases he; exact ⟨_, _, rfl, hx⟩
  | lisOld id gen off len lk g e k rows u h1 h2 ho =>
    simp only [rowsOf, h1] at hr
    rw [if_neg (by omega)] at hr; cases hr
  | lis id off len lk g e k rows' gh u h1 h2 h3 h4 =>
    simp only [rowsOf, h1, h3, and_self, if_true] at hr
    cases hr
    obtain ⟨gh', vs, h5, h6, h7, h8, h9, h10, h11⟩ := h.lst _ _ _ _ _ _ h1
    rw [h2] at h5; cases h5
    have hlen : ((rows'.drop off).take len).length = len := by simp; omega
    rw [hlen]
    by_cases hl0 : len = 0
    · subst hl0
      obtain ⟨base, n, cap, _, ⟨_, rfl, _⟩ | ⟨_, c, ⟨_, a, rfl⟩ | ⟨_, g', _, rfl⟩⟩⟩ := h4
      · exact ⟨_, _, rfl, .inl (by simp)⟩
      · exact ⟨_, _, rfl, .inl (by simp)⟩
      · exact ⟨_, _, rfl, .inl (by simp)⟩
    · obtain ⟨_, ⟨hn, a, hx⟩ | ⟨g', c, cur, hx, hh, h12, h13, h14, h15⟩⟩ := h9
      · omega
      · have hrg : w.rangeAt g' 0 vs := by
          have := range_piece (range_cells hh) 0 (rows'.length * k)
          rw [List.drop_zero, h15] at this; exact this
        have hrk : ∀ r ∈ (rows'.drop off).take len, r.length = k := fun r hr => h7 r (List.mem_of_mem_drop (List.mem_of_mem_take hr))
        have hfl : ((rows'.drop off).take len).flatten = (rows'.flatten.drop (off * k)).take (len * k) := by
          rw [flatten_take _ (fun r hr => h7 r (List.mem_of_mem_drop hr)), flatten_drop _ h7]
        have hdd : dataL ((rows'.drop off).take len).flatten = true := by rw [hfl]; exact dataL_take (dataL_drop h8 _) _
        have fin : RowsAt w Pr (some ⟨g', off * k, none⟩) ((rows'.drop off).take len) := by
          refine .inr ⟨g', off * k, k, (vs.drop (off * k)).take (len * k), rfl, h6, hrk, hdd, by have := range_piece hrg (off * k) (len * k); rwa [Nat.zero_add] at this, RepL.data (σ := σ) (γ := γ) ?_ hdd⟩
          rw [hfl]; exact (h10.drop _).take _
        obtain ⟨base, n, cap, hv, ⟨ho, rfl, _⟩ | ⟨_, c', ⟨hl', a, rfl⟩ | ⟨_, g2, hb2, rfl⟩⟩⟩ := h4
        · rw [hx] at hv; cases hv
          subst ho
          rw [Nat.zero_mul] at fin
          exact ⟨_, _, rfl, fin⟩
        · exact absurd hl' hl0
        · rw [hx] at hv; cases hv; cases hb2
          exact ⟨_, _, rfl, fin⟩
  | _ => simp [rowsOf] at hr
end Go.Proofs.YtgajekpigkknnaaDoor.A

/- One operation of the evaluator is one of the model: those that leave the store as it is. No condition. -/
namespace Go.Proofs.YtgajekpigkknnaaDoor.A
open Go
variable {U : Nat → Prop} {w w' : World} {Pr Pr' : Nat → Nat → Prop} {σ σ' : List Blk} {γ γ' : List Ghost} {ls : List Nat} {P : Program} {G : Nat → Option (List AV)}

/-- The operation comes to what the evaluator says. -/
def OpRes (P : Program) (U : Nat → Prop) (ls : List Nat) (w : World) (Pr : Nat → Nat → Prop) (σ : List Blk) (γ : List Ghost) (o : Oper) (a : Act) (r : AV) (σ' : List Blk) : Prop :=
  ∃ x v w' Pr' γ', (execOp a.eval o).run P w = .ok x w' ∧ (x = .value v ∨ (x = .skip ∧ v = undef)) ∧ Rep w' Pr' σ' γ' ls r v ∧ Inv U w' Pr' σ' γ' ∧ Keeps σ γ σ' γ' ∧ Evo U [] w Pr w' Pr'
theorem OpRes.pure {o : Oper} {a : Act} {r : AV} {v : Value} (h : Inv U w Pr σ γ) (hr : (execOp a.eval o).run P w = .ok (.value v) w) (hv : Rep w Pr σ γ ls r v) : OpRes P U ls w Pr σ γ o a r σ :=
  ⟨.value v, v, w, Pr, γ, hr, .inl rfl, hv, h, Keeps.refl _ _, Evo.refl _ _ _ _⟩

theorem bool_inv {b : Bool} {v : Value} (h : Rep w Pr σ γ ls (.bool b) v) : v = .bool b := by cases h; rfl
theorem int_inv {k : IntKind} {n : Int} {v : Value} (h : Rep w Pr σ γ ls (.int k n) v) : v = .int k n := by cases h; rfl
theorem str_inv {s : ByteArray} {v : Value} (h : Rep w Pr σ γ ls (.str s) v) : v = .string s := by cases h; rfl
theorem agg_inv {cs : List AV} {v : Value} (h : Rep w Pr σ γ ls (.agg cs) v) : ∃ vs, v = .agg vs.toArray ∧ RepL w Pr σ γ cs vs ∧ ∀ u ∈ vs, u.oneCell' = true := by
  cases h with
  | agg cs vs h1 h2 h3 => exact ⟨vs, rfl, ⟨h1, h3⟩, h2⟩
theorem tup_inv {cs : List AV} {v : Value} (h : Rep w Pr σ γ ls (.tup cs) v) : ∃ vs, v = .tuple vs.toArray ∧ RepL w Pr σ γ cs vs := by
  cases h with
  | tup cs vs h1 h2 => exact ⟨vs, rfl, h1, h2⟩
theorem clo_inv {f : FuncId} {cs : List AV} {v : Value} (h : Rep w Pr σ γ ls (.clo f cs) v) : ∃ vs, v = .func (.func f) #[] vs.toArray ∧ RepL w Pr σ γ cs vs := by
  cases h with
  | clo f cs vs h1 h2 => exact ⟨vs, rfl, h1, h2⟩
theorem equalIn_bool {t : TypeId} (ht : P.underlying t = some .bool) (d : Nat) (p q : Bool) : (Op.equalIn (d + 1) t (.bool p) (.bool q)).run P w = .ok (p == q) w := by
  simp [Op.equalIn, run_underlying ht]
theorem equalIn_nil {t e : TypeId} (ht : P.underlying t = some (.slice e)) (d : Nat) (a : Addr) (n c : Nat) : (Op.equalIn (d + 1) t (.slice (some a) n c) (.slice none 0 0)).run P w = .ok false w := by
  simp [Op.equalIn, run_underlying ht]
theorem equal_bool {t : TypeId} (ht : P.underlying t = some .bool) (p q : Bool) : (Op.equal t (.bool p) (.bool q)).run P w = .ok (p == q) w := equalIn_bool ht 9999 p q
theorem equal_nil {t e : TypeId} (ht : P.underlying t = some (.slice e)) (a : Addr) (n c : Nat) : (Op.equal t (.slice (some a) n c) (.slice none 0 0)).run P w = .ok false w := equalIn_nil ht 9999 a n c

theorem equal_pnil {t e : TypeId} (ht : P.underlying t = some (.pointer e)) (a : Option Addr) : (Op.equal t (.pointer a) (.pointer none)).run P w = .ok a.isNone w := by
  have : ∀ d, (Op.equalIn (d + 1) t (.pointer a) (.pointer none)).run P w = .ok a.isNone w := fun d => by cases a <;> simp [Op.equalIn, run_underlying ht]
  exact this 9999
theorem tagg_inv {t : TypeId} {b : Bool} (h : tagg P t = some b) : ∃ d, P.underlying t = some d ∧ d.isRow = b ∧ ∀ w : World, (isAgg t).run P w = .ok b w := by
  unfold tagg at h
  cases hu : P.underlying t with
  | none => rw [hu] at h; cases h
  | some d =>
    rw [hu] at h
    refine ⟨d, rfl, ?_, fun w => ?_⟩
    · cases d <;> simp_all [TypeDesc.isRow]
    · unfold isAgg
      rw [Sem.run_bind, run_underlying hu w]
      cases d <;> simp_all
theorem ksize_inv {t : TypeId} {k : Nat} {agg : Bool} (h : ksize P t = some (k, agg)) : tsize P t = some k ∧ tagg P t = some agg ∧ (agg = false → k = 1) := by
  unfold ksize at h
  split at h
  · rename_i k' agg' h1 h2
    split at h
    · rename_i hc; cases h
      refine ⟨h1, h2, fun e => ?_⟩
      subst e; simpa using hc
    · cases h
  · cases h
theorem run_sizeOf' {t : TypeId} {k : Nat} (h : tsize P t = some k) (w : World) : (sizeOf t).run P w = .ok k w := by
  unfold tsize at h
  cases hi : P.info? t with
  | none => rw [hi] at h; cases h
  | some i => rw [hi] at h; cases h; simp [sizeOf, typeInfo, hi]
/-- A variable is read. -/
theorem run_loadVar' {t : TypeId} {k : Nat} {agg : Bool} (hk : ksize P t = some (k, agg)) {b off : Nat} {vs : List Value} (hr : w.rangeAt b off vs) {cs : List AV} (hrep : RepL w Pr σ γ cs vs) (h1 : ∀ u ∈ vs, u.oneCell' = true) (hl : cs.length = k)
    {r : AV} (ha : asVal agg cs = some r) : ∃ v, (loadVar t ⟨b, off, none⟩).run P w = .ok v w ∧ Rep w Pr σ γ ls r v := by
  obtain ⟨hs, hg, hone⟩ := ksize_inv hk
  obtain ⟨d, hu, hd, hrun⟩ := tagg_inv hg
  rcases asVal_rep hrep h1 ha with ⟨rfl, h2⟩ | ⟨rfl, v, rfl, h2⟩
  · exact ⟨_, run_loadVar_mid w b off t vs d hr hu hd (by rw [show (P.info? t).map (·.size) = tsize P t from rfl, hs, hrep.1, hl]), h2⟩
  · have hc : w.cell? ⟨b, off, none⟩ = some v := by have := hr 0 v rfl; simpa using this
    refine ⟨v, ?_, h2⟩
    simp [loadVar, hrun, hc]
theorem fieldOf_inv {t : TypeId} {f off : Nat} {ft : TypeId} (h : fieldOf P t f = some (off, ft)) : ∃ (fs : Array Field) (fl : Field), P.underlying t = some (.struct fs) ∧ fs[f]? = some fl ∧ fl.offset = off ∧ fl.type = ft := by
  unfold fieldOf at h
  split at h
  · rename_i fs hu
    split at h
    · rename_i fl hf; cases h; exact ⟨fs, fl, hu, hf, rfl, rfl⟩
    · cases h
  · cases h
theorem part_run {t : TypeId} {k : Nat} {agg : Bool} (hk : ksize P t = some (k, agg)) {cs : List AV} {vs : List Value} (hrep : RepL w Pr σ γ cs vs) (h1 : ∀ u ∈ vs, u.oneCell' = true) {off : Nat} {l : List AV} (hp : piece cs off k = some l)
    {r : AV} (ha : asVal agg l = some r) : ∃ v, (part t vs.toArray off).run P w = .ok v w ∧ Rep w Pr σ γ ls r v := by
  obtain ⟨hs, hg, hone⟩ := ksize_inv hk
  obtain ⟨d, hu, hd, hrun⟩ := tagg_inv hg
  have hl := hrep.piece hp
  obtain ⟨hlen, rfl, hkl⟩ := piece_inv hp
  rcases asVal_rep hl (one_piece h1 off k) ha with ⟨rfl, h2⟩ | ⟨rfl, v, hv, h2⟩
  · refine ⟨_, ?_, h2⟩
    simp only [part, Sem.run_bind, hrun, Result.andThen_ok, if_true, run_sizeOf' hs, Sem.run_pure]
    congr 2
    apply Array.toList_inj.1
    simp [Array.toList_extract, List.extract_eq_take_drop, List.drop_take]
  · refine ⟨v, ?_, h2⟩
    have hvv : vs[off]? = some v := by
      have := congrArg (fun l => l[0]?) hv
      rw [hone rfl] at this
      simpa [List.getElem?_take, List.getElem?_drop] using this
    simp [part, hrun, hvv]

section
variable (hI : Inv U w Pr σ γ) (hG : GOk G w Pr) {T : Tm} {a : Act} (hT : TOk w Pr σ γ ls T a.tmps) {o : Oper} {s : Nat} {r : AV}
include hI hG hT

theorem op_mv {x : Operand} {y : Opd} (hop : o.op = .move x ∨ o.op = .assign x) (hy : cOpd G x = some y) (h : aop (.mv y) s T σ = some (r, σ')) : OpRes P U ls w Pr σ γ o a r σ' := by
  have hr := cOpd_rep hG hT hy
  have : r = y.ev T ∧ σ' = σ := by
    simp only [aop] at h
    split at h
    · cases h
    · cases h; exact ⟨rfl, rfl⟩
  obtain ⟨rfl, rfl⟩ := this
  refine .pure hI ?_ hr
  rcases hop with hop | hop <;> (unfold execOp; simp only [hop]; rfl)

theorem op_pick {c x y : Operand} {c' x' y' : Opd} (hop : o.op = .pick c x y) (hc : cOpd G c = some c') (hx : cOpd G x = some x') (hy : cOpd G y = some y') (h : aop (.pick c' x' y') s T σ = some (r, σ')) : OpRes P U ls w Pr σ γ o a r σ' := by
  have h1 := cOpd_rep hG hT hc
  have h2 := cOpd_rep hG hT hx
  have h3 := cOpd_rep hG hT hy
  simp only [aop] at h
  split at h
  · rename_i hb; cases h; rw [hb] at h1
    refine .pure hI ?_ h2
    unfold execOp; simp [hop, bool_inv h1, asBool]
  · rename_i hb; cases h; rw [hb] at h1
    refine .pure hI ?_ h3
    unfold execOp; simp [hop, bool_inv h1, asBool]
  · cases h

theorem op_nilck {x : Operand} {y : Opd} (hop : o.op = .nilCheck x) (hy : cOpd G x = some y) (h : aop (.nilck y) s T σ = some (r, σ')) : OpRes P U ls w Pr σ γ o a r σ' := by
  have hr := cOpd_rep hG hT hy
  simp only [aop] at h
  split at h
  · rename_i id g r' off he; cases h; rw [he] at hr
    refine .pure (v := a.eval x) hI ?_ hr
    unfold execOp; simp only [hop]
    generalize a.eval x = u at hr ⊢
    cases hr with
    | ptrB => rfl
    | ptrL => rfl
    | ptrOld => rfl
  · rename_i row off he; cases h; rw [he] at hr
    refine .pure (v := a.eval x) hI ?_ hr
    unfold execOp; simp only [hop]
    generalize a.eval x = u at hr ⊢
    cases hr with
    | rp => rfl
  · rename_i row off he; cases h; rw [he] at hr
    refine .pure (v := a.eval x) hI ?_ hr
    unfold execOp; simp only [hop]
    generalize a.eval x = u at hr ⊢
    cases hr with
    | rq => rfl
  · cases h

theorem op_bin {op : BinOp} {t u : TypeId} {x y : Operand} {x' y' : Opd} (hop : o.op = .binOp op t x y u) (hx : cOpd G x = some x') (hy : cOpd G y = some y') (h : aop (.bin op x' y') s T σ = some (r, σ')) : OpRes P U ls w Pr σ γ o a r σ' := by
  have h1 := cOpd_rep hG hT hx
  have h2 := cOpd_rep hG hT hy
  simp only [aop] at h
  obtain ⟨r', hb, he⟩ := Option.map_eq_some_iff.1 h
  cases he
  generalize hX : x'.ev T = X at h1 hb
  generalize hY : y'.ev T = Y at h2 hb
  unfold abin at hb
  split at hb
  · rename_i k m k' n
    have e1 := int_inv h1
    have e2 := int_inv h2
    have key : ∀ v, (binOp op t (.int k m) (.int k' n)).run P w = .ok v w → Rep w Pr σ γ ls r v → OpRes P U ls w Pr σ γ o a r σ := fun v hv hrep => by
      refine .pure hI ?_ hrep
      have hg : (eqGuard op t x y (.int k m) (.int k' n)).run P w = .ok () w := by
        unfold eqGuard; split <;> simp
      unfold execOp
      simp only [hop, e1, e2, Sem.run_bind, hg, Result.andThen_ok, hv, Sem.run_pure]
    split at hb
    · split at hb
      · rename_i hn; cases hb
        refine key _ ?_ (.int _ _)
        have : ¬ n < 0 := by omega
        simp [binOp, Op.shift, this]
      · cases hb
    · split at hb
      · rename_i hn; cases hb
        refine key _ ?_ (.int _ _)
        have : ¬ n < 0 := by omega
        simp [binOp, Op.shift, this]
      · cases hb
    · split at hb
      · rename_i hk; cases hb; subst hk; exact key _ (by simp [binOp, Op.intArith]) (.int _ _)
      · cases hb
    · split at hb
      · rename_i hk; cases hb; subst hk; exact key _ (by simp [binOp, Op.intArith]) (.int _ _)
      · cases hb
    · split at hb
      · rename_i hk; cases hb; subst hk; exact key _ (by simp [binOp, Op.intArith]) (.int _ _)
      · cases hb
    · split at hb
      · rename_i hk; cases hb; obtain ⟨rfl, hk⟩ := hk; exact key _ (by simp [binOp, Op.intDiv, hk]) (.int _ _)
      · cases hb
    · split at hb
      · rename_i hk; cases hb; obtain ⟨rfl, hk⟩ := hk; exact key _ (by simp [binOp, Op.intDiv, hk]) (.int _ _)
      · cases hb
    · split at hb
      · rename_i hk; subst hk; cases hb; exact key _ (by simp [binOp, Op.intBits]) (.int _ _)
      · cases hb
    · split at hb
      · rename_i hk; subst hk; cases hb; exact key _ (by simp [binOp, Op.intBits]) (.int _ _)
      · cases hb
    · split at hb
      · rename_i hk; subst hk; cases hb; exact key _ (by simp [binOp, Op.intBits]) (.int _ _)
      · cases hb
    · split at hb
      · rename_i hk; subst hk; cases hb; exact key _ (by simp [binOp, Op.intBits]) (.int _ _)
      · cases hb
    · split at hb
      · rename_i hk; subst hk
        unfold cmpInt at hb
        split at hb <;> first
          | (cases hb; exact key _ (by simp [binOp, Op.intCmp]) (.bool _))
          | cases hb
      · cases hb
  · rename_i m n
    have e1 := str_inv h1
    have e2 := str_inv h2
    have key : ∀ v, (binOp op t (.string m) (.string n)).run P w = .ok v w → Rep w Pr σ γ ls r v → OpRes P U ls w Pr σ γ o a r σ := fun v hv hrep => by
      refine .pure hI ?_ hrep
      have hg : (eqGuard op t x y (.string m) (.string n)).run P w = .ok () w := by
        unfold eqGuard; split <;> simp
      unfold execOp
      simp only [hop, e1, e2, Sem.run_bind, hg, Result.andThen_ok, hv, Sem.run_pure]
    split at hb
    · cases hb; exact key _ (by simp [binOp, Op.stringOp]) (.bool _)
    · cases hb; exact key _ (by simp [binOp, Op.stringOp]) (.bool _)
    · cases hb; exact key _ (by simp [binOp, Op.stringOp]) (.bool _)
    · cases hb; exact key _ (by simp [binOp, Op.stringOp]) (.bool _)
    · cases hb; exact key _ (by simp [binOp, Op.stringOp]) (.bool _)
    · cases hb; exact key _ (by simp [binOp, Op.stringOp]) (.bool _)
    · split at hb
      · rename_i hle; cases hb
        refine key _ ?_ (.str _)
        have : ¬ (((m.size + n.size : Nat) : Int) > IntKind.i64.max) := by
          have : IntKind.i64.max = 9223372036854775807 := by decide
          omega
        show (Op.stringOp .add m n).run P w = _
        unfold Op.stringOp
        simp only [if_neg this]
        rfl
      · cases hb
    · cases hb
  · cases hb

theorem op_eqb {op : BinOp} {neg : Bool} {t u : TypeId} {x y : Operand} {x' y' : Opd} (hop : o.op = .binOp op t x y u) (hn : op = if neg then .neq else .eql) (ht : P.underlying t = some .bool) (hx : cOpd G x = some x') (hy : cOpd G y = some y') (h : aop (.eqb neg x' y') s T σ = some (r, σ')) : OpRes P U ls w Pr σ γ o a r σ' := by
  have h1 := cOpd_rep hG hT hx
  have h2 := cOpd_rep hG hT hy
  simp only [aop] at h
  split at h
  · rename_i p q e1 e2
    cases h
    rw [e1] at h1; rw [e2] at h2
    refine .pure hI ?_ (.bool _)
    have hg : (eqGuard op t x y (.bool p) (.bool q)).run P w = .ok () w := by
      unfold eqGuard; split <;> simp
    unfold execOp
    simp only [hop, bool_inv h1, bool_inv h2, Sem.run_bind, hg, Result.andThen_ok]
    subst hn
    cases neg
    · have : (binOp .eql t (.bool p) (.bool q)).run P w = .ok (.bool (p == q)) w := by
        show (do let x ← Op.equal t (.bool p) (.bool q); pure (Value.bool x) : Sem Value).run P w = _
        rw [Sem.run_bind, equal_bool ht]; rfl
      simp only [Bool.false_eq_true, if_false, this, Result.andThen_ok, Sem.run_pure]
    · have : (binOp .neq t (.bool p) (.bool q)).run P w = .ok (.bool (!(p == q))) w := by
        show (do let x ← Op.equal t (.bool p) (.bool q); pure (Value.bool (!x)) : Sem Value).run P w = _
        rw [Sem.run_bind, equal_bool ht]; rfl
      simp only [if_true, this, Result.andThen_ok, Sem.run_pure]
  · cases h

theorem op_isnil {op : BinOp} {neg : Bool} {t u e : TypeId} {x : Operand} {x' : Opd} (hop : o.op = .binOp op t x (.const (.slice none 0 0)) u) (hn : op = if neg then .neq else .eql) (ht : P.underlying t = some (.slice e)) (hx : cOpd G x = some x')
    (h : aop (.isnil neg x') s T σ = some (r, σ')) : OpRes P U ls w Pr σ γ o a r σ' := by
  have h1 := cOpd_rep hG hT hx
  simp only [aop] at h
  split at h
  · rename_i n hl
    cases h
    obtain ⟨base, c, e1, _, e2⟩ := slice_shape h1 hl
    obtain ⟨b, off, rfl⟩ := e2 (by omega)
    refine .pure hI ?_ (.bool _)
    have hg : (eqGuard op t x (.const (.slice none 0 0)) (.slice (some ⟨b, off, none⟩) (n + 1) c) (.slice none 0 0)).run P w = .ok () w := by
      unfold eqGuard; split <;> simp
    unfold execOp
    have e3 : a.eval (.const (.slice none 0 0)) = .slice none 0 0 := rfl
    simp only [hop, e1, e3, Sem.run_bind, hg, Result.andThen_ok]
    subst hn
    cases neg
    · have : (binOp .eql t (.slice (some ⟨b, off, none⟩) (n + 1) c) (.slice none 0 0)).run P w = .ok (.bool false) w := by
        show (do let x ← Op.equal t (.slice (some ⟨b, off, none⟩) (n + 1) c) (.slice none 0 0); pure (Value.bool x) : Sem Value).run P w = _
        rw [Sem.run_bind, equal_nil ht]; rfl
      simp only [Bool.false_eq_true, if_false, this, Result.andThen_ok, Sem.run_pure]
    · have : (binOp .neq t (.slice (some ⟨b, off, none⟩) (n + 1) c) (.slice none 0 0)).run P w = .ok (.bool true) w := by
        show (do let x ← Op.equal t (.slice (some ⟨b, off, none⟩) (n + 1) c) (.slice none 0 0); pure (Value.bool (!x)) : Sem Value).run P w = _
        rw [Sem.run_bind, equal_nil ht]; rfl
      simp only [if_true, this, Result.andThen_ok, Sem.run_pure]
  · cases h

theorem op_pnil {op : BinOp} {neg : Bool} {t u e : TypeId} {x : Operand} {x' : Opd} (hop : o.op = .binOp op t x (.const (.pointer none)) u) (hn : op = if neg then .neq else .eql) (ht : P.underlying t = some (.pointer e)) (hx : cOpd G x = some x')
    (h : aop (.pnil neg x') s T σ = some (r, σ')) : OpRes P U ls w Pr σ γ o a r σ' := by
  have h1 := cOpd_rep hG hT hx
  simp only [aop] at h
  have key : ∀ p : Option Addr, a.eval x = .pointer p → (execOp a.eval o).run P w = .ok (.value (.bool (if neg then !p.isNone else p.isNone))) w := by
    intro p hp
    have hg : (eqGuard op t x (.const (.pointer none)) (.pointer p) (.pointer none)).run P w = .ok () w := by
      unfold eqGuard; split <;> simp
    unfold execOp
    have e3 : a.eval (.const (.pointer none)) = .pointer none := rfl
    simp only [hop, hp, e3, Sem.run_bind, hg, Result.andThen_ok]
    subst hn
    cases neg
    · have : (binOp .eql t (.pointer p) (.pointer none)).run P w = .ok (.bool p.isNone) w := by
        show (do let x ← Op.equal t (.pointer p) (.pointer none); pure (Value.bool x) : Sem Value).run P w = _
        rw [Sem.run_bind, equal_pnil ht]; rfl
      simp only [Bool.false_eq_true, if_false, this, Result.andThen_ok, Sem.run_pure]
    · have : (binOp .neq t (.pointer p) (.pointer none)).run P w = .ok (.bool (!p.isNone)) w := by
        show (do let x ← Op.equal t (.pointer p) (.pointer none); pure (Value.bool (!x)) : Sem Value).run P w = _
        rw [Sem.run_bind, equal_pnil ht]; rfl
      simp only [if_true, this, Result.andThen_ok, Sem.run_pure]
  have one : ∀ (p : Option Addr) (b : Bool), a.eval x = .pointer p → p.isNone = b → r = .bool (if neg then !b else b) → σ' = σ → OpRes P U ls w Pr σ γ o a r σ' := by
    rintro p b hp rfl rfl rfl
    exact .pure hI (key p hp) (.bool _)
  generalize hq : a.eval x = q at h1
  split at h
  · rename_i e1; cases h; rw [e1] at h1
    cases h1
    exact one none true hq rfl (by cases neg <;> rfl) rfl
  · rename_i e1; cases h; rw [e1] at h1
    cases h1 <;> exact one _ false hq rfl (by cases neg <;> rfl) rfl
  · rename_i e1; cases h; rw [e1] at h1
    cases h1; exact one _ false hq rfl (by cases neg <;> rfl) rfl
  · rename_i e1; cases h; rw [e1] at h1
    cases h1; exact one _ false hq rfl (by cases neg <;> rfl) rfl
  · cases h

theorem op_not {x : Operand} {t : TypeId} {y : Opd} (hop : o.op = .unOp .not t x) (hy : cOpd G x = some y) (h : aop (.not y) s T σ = some (r, σ')) : OpRes P U ls w Pr σ γ o a r σ' := by
  have h1 := cOpd_rep hG hT hy
  simp only [aop] at h
  split at h
  · rename_i b e1; cases h; rw [e1] at h1
    refine .pure hI ?_ (.bool _)
    unfold execOp; simp [hop, bool_inv h1, Op.unary]
  · cases h
theorem op_neg {x : Operand} {t : TypeId} {y : Opd} (hop : o.op = .unOp .neg t x) (hy : cOpd G x = some y) (h : aop (.neg y) s T σ = some (r, σ')) : OpRes P U ls w Pr σ γ o a r σ' := by
  have h1 := cOpd_rep hG hT hy
  simp only [aop] at h
  split at h
  · rename_i k n e1; cases h; rw [e1] at h1
    refine .pure hI ?_ (.int _ _)
    unfold execOp; simp [hop, int_inv h1, Op.unary, Op.intArith]
  · cases h
theorem op_conv {x : Operand} {t u : TypeId} {d : TypeDesc} {k : IntKind} {y : Opd} (hop : o.op = .convert t u x) (ht : P.underlying t = some d) (hu : P.underlying u = some (.int k)) (hy : cOpd G x = some y) (h : aop (.conv k y) s T σ = some (r, σ')) : OpRes P U ls w Pr σ γ o a r σ' := by
  have h1 := cOpd_rep hG hT hy
  simp only [aop] at h
  split at h
  · rename_i k' n e1; cases h; rw [e1] at h1
    refine .pure hI ?_ (.int _ _)
    unfold execOp; simp [hop, int_inv h1, convert, run_underlying ht, run_underlying hu, Conv.intToInt]
  · cases h
theorem op_clo {f : FuncId} {first caps : Array Operand} {ys : List Opd} (hop : o.op = .makeFunc (.func f) first caps) (hf : first.size = 0) (hy : cOpds G caps.toList = some ys) (h : aop (.clo f ys) s T σ = some (r, σ')) : OpRes P U ls w Pr σ γ o a r σ' := by
  have h1 := cOpds_rep hG hT hy
  simp only [aop] at h
  split at h
  · cases h
  rename_i hy'
  cases h
  have h1 := h1.toL (by simpa using hy')
  refine .pure hI ?_ (.clo f _ _ h1.1 h1.2)
  have : first = #[] := Array.eq_empty_of_size_eq_zero hf
  subst this
  unfold execOp
  have : Array.map a.eval caps = (List.map a.eval caps.toList).toArray := by apply Array.toList_inj.1; simp
  simp [hop, Instr.makeFunc, this]



theorem op_load {t : TypeId} {k : Nat} {agg : Bool} {x : Operand} {y : Opd} (hop : o.op = .load t x) (hk : ksize P t = some (k, agg)) (hy : cOpd G x = some y) (h : aop (.load k agg y) s T σ = some (r, σ')) : OpRes P U ls w Pr σ γ o a r σ' := by
  have h1 := cOpd_rep hG hT hy
  simp only [aop] at h
  split at h
  · rename_i cs hcs
    obtain ⟨r', ha, he⟩ := Option.map_eq_some_iff.1 h
    cases he
    obtain ⟨b, off, vs, e1, h2, h3, h4, h5⟩ := rdPtr_rep hI h1 hcs
    obtain ⟨v, hv, hrep⟩ := run_loadVar' (P := P) hk h2 h3 h4 h5 ha
    refine .pure hI ?_ hrep
    unfold execOp; simp [hop, e1, Instr.loadAt, Instr.sureAddr, hv]
  · cases h



theorem op_fld {t ft : TypeId} {f off k : Nat} {agg : Bool} {x : Operand} {y : Opd} (hop : o.op = .field t x f) (hf : fieldOf P t f = some (off, ft)) (hk : ksize P ft = some (k, agg)) (hy : cOpd G x = some y) (h : aop (.fld off k agg y) s T σ = some (r, σ')) : OpRes P U ls w Pr σ γ o a r σ' := by
  have h1 := cOpd_rep hG hT hy
  obtain ⟨fs, fl, hu, hfl, rfl, rfl⟩ := fieldOf_inv hf
  simp only [aop] at h
  split at h
  · rename_i cs e1
    rw [e1] at h1
    obtain ⟨vs, e2, h2, h3⟩ := agg_inv h1
    split at h
    · rename_i l hl
      obtain ⟨r', ha, he⟩ := Option.map_eq_some_iff.1 h
      cases he
      obtain ⟨v, hv, hrep⟩ := part_run (P := P) hk h2 h3 hl ha
      refine .pure hI ?_ hrep
      unfold execOp; simp [hop, e2, Instr.field, run_underlying hu, hfl, asAgg, hv]
    · cases h
  · cases h

theorem op_idx {t e : TypeId} {n k : Nat} {agg : Bool} {x i : Operand} {y j : Opd} (hop : o.op = .index t x i) (hu : P.underlying t = some (.array n e)) (hk : ksize P e = some (k, agg)) (hy : cOpd G x = some y) (hj : cOpd G i = some j)
    (h : aop (.idx k agg n y j) s T σ = some (r, σ')) : OpRes P U ls w Pr σ γ o a r σ' := by
  have h1 := cOpd_rep hG hT hy
  have h2 := cOpd_rep hG hT hj
  simp only [aop] at h
  split at h
  · rename_i kk m cs e1 e2
    rw [e1] at h2; rw [e2] at h1
    obtain ⟨vs, e3, h3, h4⟩ := agg_inv h1
    split at h
    · rename_i hb
      split at h
      · rename_i l hl
        obtain ⟨r', ha, he⟩ := Option.map_eq_some_iff.1 h
        cases he
        obtain ⟨v, hv, hrep⟩ := part_run (P := P) hk h3 h4 hl ha
        refine .pure hI ?_ hrep
        unfold execOp; simp [hop, e3, int_inv h2, Instr.index, run_underlying hu, asIntOf, hb.1, hb.2, run_sizeOf' (ksize_inv hk).1, hv]
      · cases h
    · cases h
  · cases h

theorem op_sidx {t : TypeId} {x i : Operand} {y j : Opd} (hop : o.op = .index t x i) (hu : P.underlying t = some .string) (hy : cOpd G x = some y) (hj : cOpd G i = some j) (h : aop (.sidx y j) s T σ = some (r, σ')) : OpRes P U ls w Pr σ γ o a r σ' := by
  have h1 := cOpd_rep hG hT hy
  have h2 := cOpd_rep hG hT hj
  simp only [aop] at h
  split at h
  · rename_i kk m b e1 e2
    rw [e1] at h2; rw [e2] at h1
    split at h
    · rename_i hb
      split at h
      · rename_i c hc
        cases h
        refine .pure hI ?_ (.int _ _)
        unfold execOp; simp [hop, str_inv h1, int_inv h2, Instr.index, run_underlying hu, asIntOf, hb, hc]
      · cases h
    · cases h
  · cases h

theorem op_faddr {t ft : TypeId} {f off k : Nat} {x : Operand} {y : Opd} (hop : o.op = .fieldAddr t x f) (hf : fieldOf P t f = some (off, ft)) (hk : tsize P ft = some k) (hk0 : k ≠ 0) (hy : cOpd G x = some y) (h : aop (.faddr off y) s T σ = some (r, σ')) : OpRes P U ls w Pr σ γ o a r σ' := by
  have h1 := cOpd_rep hG hT hy
  obtain ⟨fs, fl, hu, hfl, rfl, rfl⟩ := fieldOf_inv hf
  have key : ∀ b o', a.eval x = .pointer (some ⟨b, o', none⟩) → (execOp a.eval o).run P w = .ok (.value (.pointer (some ⟨b, o' + fl.offset, none⟩))) w := fun b o' e => by
    unfold execOp; simp [hop, e, Instr.fieldAt, run_underlying hu, hfl, Instr.sureAddr, fieldPlace, run_sizeOf' hk, hk0, Addr.add_mid]
  simp only [aop] at h
  split at h
  · rename_i id g row o' e1; cases h; rw [e1] at h1
    generalize hv : a.eval x = v at h1
    cases h1 with
    | ptrB id off lk e row gh h2 h3 => exact .pure hI (key _ _ hv) (.ptrB id _ lk e row gh h2 h3)
    | ptrOld id gen row off lk g e k rows b o'' h2 h3 => exact .pure hI (key _ _ hv) (.ptrOld id _ row _ lk g e k rows _ _ h2 h3)
    | ptrL id row off lk g e k rows gh gb h2 h3 h4 h5 =>
      refine .pure hI (key _ _ hv) ?_
      rw [Nat.add_assoc]; exact .ptrL id row _ lk g e k rows gh gb h2 h3 h4 h5
  · rename_i row o' e1; cases h; rw [e1] at h1
    generalize hv : a.eval x = v at h1
    cases h1 with
    | rp row off b o'' vs h2 h3 h4 h5 =>
      refine .pure hI (key _ _ hv) ?_
      rw [Nat.add_assoc]; exact .rp row _ b o'' vs h2 h3 h4 h5
  · rename_i row o' e1; cases h; rw [e1] at h1
    generalize hv : a.eval x = v at h1
    cases h1 with
    | rq row off b o'' vs h2 h3 h4 h5 =>
      refine .pure hI (key _ _ hv) ?_
      rw [Nat.add_assoc]; exact .rq row _ b o'' vs h2 h3 h4 h5
  · cases h

theorem op_iaddrA {t e : TypeId} {n k : Nat} {x i : Operand} {y j : Opd} (hop : o.op = .indexAddr t x i) (hu : P.underlying t = some (.array n e)) (hk : tsize P e = some k) (hy : cOpd G x = some y) (hj : cOpd G i = some j)
    (h : aop (.iaddr k (some n) y j) s T σ = some (r, σ')) : OpRes P U ls w Pr σ γ o a r σ' := by
  have h1 := cOpd_rep hG hT hy
  have h2 := cOpd_rep hG hT hj
  simp only [aop] at h
  split at h
  · rename_i kk m e1
    rw [e1] at h2
    split at h
    · rename_i hm
      split at h
      · rename_i hlt
        have key : ∀ b o', a.eval x = .pointer (some ⟨b, o', none⟩) → (execOp a.eval o).run P w = .ok (.value (.pointer (some ⟨b, o' + m.toNat * k, none⟩))) w := fun b o' e => by
          unfold execOp; simp [hop, e, int_inv h2, Instr.indexAt, run_underlying hu, asIntOf, Instr.sureAddr, run_sizeOf' hk, hm, hlt, Addr.add_mid]
        split at h
        · rename_i id g row o' e2; cases h; rw [e2] at h1
          generalize hv : a.eval x = v at h1
          cases h1 with
          | ptrB id off lk e row gh h3 h4 => exact .pure hI (key _ _ hv) (.ptrB id _ lk e row gh h3 h4)
          | ptrOld id gen row off lk g e k rows b o'' h3 h4 => exact .pure hI (key _ _ hv) (.ptrOld id _ row _ lk g e k rows _ _ h3 h4)
          | ptrL id row off lk g e k rows gh gb h3 h4 h5 h6 =>
            refine .pure hI (key _ _ hv) ?_
            rw [Nat.add_assoc]; exact .ptrL id row _ lk g e k rows gh gb h3 h4 h5 h6
        · rename_i row o' e2; cases h; rw [e2] at h1
          generalize hv : a.eval x = v at h1
          cases h1 with
          | rp row off b o'' vs h3 h4 h5 h6 =>
            refine .pure hI (key _ _ hv) ?_
            rw [Nat.add_assoc]; exact .rp row _ b o'' vs h3 h4 h5 h6
        · rename_i row o' e2; cases h; rw [e2] at h1
          generalize hv : a.eval x = v at h1
          cases h1 with
          | rq row off b o'' vs h3 h4 h5 h6 =>
            refine .pure hI (key _ _ hv) ?_
            rw [Nat.add_assoc]; exact .rq row _ b o'' vs h3 h4 h5 h6
        · cases h
      · cases h
    · cases h
  · cases h
end
end Go.Proofs.YtgajekpigkknnaaDoor.A

/- One operation of the evaluator is one of the model: slices, builtins that only look, comparisons of structs. No condition. -/
namespace Go.Proofs.YtgajekpigkknnaaDoor.A
open Go
variable {U : Nat → Prop} {w w' : World} {Pr Pr' : Nat → Nat → Prop} {σ σ' : List Blk} {γ γ' : List Ghost} {ls : List Nat} {P : Program} {G : Nat → Option (List AV)}

theorem toList_one {α : Type} {xs : Array α} {x : α} (h : xs.toList = [x]) : xs = #[x] := by apply Array.toList_inj.1; simpa using h
theorem toList_two {α : Type} {xs : Array α} {x y : α} (h : xs.toList = [x, y]) : xs = #[x, y] := by apply Array.toList_inj.1; simpa using h

/-- The operation is a builtin's call. -/
theorem run_builtin {o : Oper} {a : Act} {c : Call} {b : Builtin} (hop : o.op = .call c) (hc : c.callee = .builtin b) :
    ∃ cs, (execOp a.eval o).run P w = (builtin b c.argTypes o.type cs (c.args.map a.eval)).run P w := by
  refine ⟨?_, ?_⟩
  · exact c.args.map fun x => match x with
      | .const _ => true
      | _ => false
  · unfold execOp
    simp only [hop, resolve, hc, Sem.run_bind, Sem.run_pure, Result.andThen_ok, invoke]
    congr 2

theorem sliceBound_run {k : IntKind} {n : Int} {y : Nat} {code : BoundsCode} (h0 : 0 ≤ n) (h : n.toNat ≤ y) : (Instr.sliceBound (.int k n) y code).run P w = .ok n.toNat w := by
  have : 0 ≤ n ∧ n ≤ y := ⟨h0, by omega⟩
  simp [Instr.sliceBound, asIntOf, this]

theorem cOpt_rep {T : Tm} {a : Act} (hG : GOk G w Pr) (hT : TOk w Pr σ γ ls T a.tmps) {x : Option Operand} {y : Option Opd} (h : cOpt G x = some y) {d n : Nat} (hb : boundOf T d y = some n) :
    (x = none ∧ n = d) ∨ ∃ x' k m, x = some x' ∧ a.eval x' = .int k m ∧ 0 ≤ m ∧ n = m.toNat := by
  cases x with
  | none => cases h; cases hb; exact .inl ⟨rfl, rfl⟩
  | some x' =>
    unfold cOpt at h
    obtain ⟨y', h1, h2⟩ := Option.map_eq_some_iff.1 h
    cases h2
    have hr := cOpd_rep hG hT h1
    simp only [boundOf] at hb
    split at hb
    · rename_i k m e
      rw [e] at hr
      split at hb
      · rename_i hm; cases hb; exact .inr ⟨x', k, m, rfl, int_inv hr, hm, rfl⟩
      · cases hb
    · cases hb

/-- The bounds of a slice expression. -/
theorem bounds_run {T : Tm} {a : Act} (hG : GOk G w Pr) (hT : TOk w Pr σ γ ls T a.tmps) {lo hi mx : Option Operand} {lo' hi' mx' : Option Opd} (h1 : cOpt G lo = some lo') (h2 : cOpt G hi = some hi') (h3 : cOpt G mx = some mx')
    {n c l h m : Nat} (hl : boundOf T 0 lo' = some l) (hh : boundOf T n hi' = some h) (hm : boundOf T c mx' = some m) (hlh : l ≤ h) (hhm : h ≤ m) (hmc : m ≤ c) (hmx : mx' ≠ none → hi ≠ none) (isSlice : Bool) :
    (Instr.sliceBounds isSlice n c (lo.map a.eval) (hi.map a.eval) (mx.map a.eval)).run P w = .ok (l, h, m) w := by
  rcases cOpt_rep hG hT h3 hm with ⟨rfl, rfl⟩ | ⟨x3, k3, m3, rfl, e3, e3', rfl⟩
  · rcases cOpt_rep hG hT h1 hl with ⟨rfl, rfl⟩ | ⟨x1, k1, m1, rfl, e1, e1', rfl⟩ <;>
    rcases cOpt_rep hG hT h2 hh with ⟨rfl, rfl⟩ | ⟨x2, k2, m2, rfl, e2, e2', rfl⟩
    · simp [Instr.sliceBounds]
    · simp [Instr.sliceBounds, e2, sliceBound_run e2' hhm]
    · simp [Instr.sliceBounds, e1, sliceBound_run e1' hlh]
    · simp [Instr.sliceBounds, e1, e2, sliceBound_run e1' hlh, sliceBound_run e2' hhm]
  · rcases cOpt_rep hG hT h2 hh with ⟨rfl, rfl⟩ | ⟨x2, k2, m2, rfl, e2, e2', rfl⟩
    · exact (hmx (by rintro rfl; simp [cOpt] at h3) rfl).elim
    · rcases cOpt_rep hG hT h1 hl with ⟨rfl, rfl⟩ | ⟨x1, k1, m1, rfl, e1, e1', rfl⟩
      · simp [Instr.sliceBounds, e2, e3, sliceBound_run e2' hhm, sliceBound_run e3' hmc]
      · simp [Instr.sliceBounds, e1, e2, e3, sliceBound_run e1' hlh, sliceBound_run e2' hhm, sliceBound_run e3' hmc]

theorem minmax_run {k : IntKind} : ∀ {xs : List Value} {as : List AV} {n : Int} {mx : Bool} {r : AV}, RepA w Pr σ γ ls as xs → aminmax mx k n as = some r → ∃ v, (xs.foldlM (if mx then Builtin.max2 else Builtin.min2) (.int k n)).run P w = .ok v w ∧ Rep w Pr σ γ ls r v
  | [], as, n, mx, _, h, hr => by
    have : as = [] := List.eq_nil_of_length_eq_zero h.1.symm
    subst this; cases hr
    exact ⟨_, rfl, .int _ _⟩
  | v :: xs, as, n, mx, _, h, hr => by
    cases as with
    | nil => have := h.1; simp at this
    | cons a as =>
      obtain ⟨v', vs', he, h1, h2⟩ := h.cons_inv
      cases he
      unfold aminmax at hr
      split at hr
      · rename_i he; cases he
      · rename_i he; cases he
        obtain ⟨u, h3, h4⟩ := minmax_run h2 hr
        refine ⟨u, ?_, h4⟩
        rw [int_inv h1, List.foldlM_cons, Sem.run_bind]
        cases mx
        · simp only [Bool.false_eq_true, if_false] at h3 ⊢
          simpa [Builtin.min2] using h3
        · simp only [if_true] at h3 ⊢
          simpa [Builtin.max2] using h3
      · cases hr

section
variable (hI : Inv U w Pr σ γ) (hG : GOk G w Pr) {T : Tm} {a : Act} (hT : TOk w Pr σ γ ls T a.tmps) {o : Oper} {s : Nat} {r : AV}
include hI hG hT

theorem op_extr {x : Operand} {i : Nat} {y : Opd} (hop : o.op = .extract x i) (hy : cOpd G x = some y) (h : aop (.extr y i) s T σ = some (r, σ')) : OpRes P U ls w Pr σ γ o a r σ' := by
  have h1 := cOpd_rep hG hT hy
  simp only [aop] at h
  split at h
  · rename_i vs e1
    rw [e1] at h1
    obtain ⟨us, e2, h2⟩ := tup_inv h1
    have hv : ∃ av, vs[i]? = some av ∧ r = av ∧ σ' = σ := by
      split at h
      · cases h
      · rename_i av _ hav; cases h; exact ⟨_, hav, rfl, rfl⟩
      · cases h
    obtain ⟨av, hav, rfl, rfl⟩ := hv
    obtain ⟨v, hv, hrep⟩ := h2.get hav
    refine .pure hI ?_ hrep.up
    unfold execOp; simp [hop, e2, Instr.extract, hv]
  · cases h

theorem op_len {c : Call} {t e : TypeId} {x : Operand} {y : Opd} (hop : o.op = .call c) (hc : c.callee = .builtin .len) (ha : c.args.toList = [x]) (ht : c.argTypes.toList = [t]) (hu : P.underlying t = some (.slice e))
    (hy : cOpd G x = some y) (h : aop (.len y) s T σ = some (r, σ')) : OpRes P U ls w Pr σ γ o a r σ' := by
  have h1 := cOpd_rep hG hT hy
  simp only [aop] at h
  obtain ⟨n, hn, he⟩ := Option.map_eq_some_iff.1 h
  cases he
  obtain ⟨base, cp, e1, _⟩ := slice_shape h1 hn
  obtain ⟨cs, hr⟩ := run_builtin (P := P) (w := w) (a := a) hop hc
  refine .pure hI ?_ (.int _ _)
  rw [hr, toList_one ha, toList_one ht]
  simp [builtin, Builtin.len_, run_underlying hu, e1, goInt]
theorem op_slen {c : Call} {t : TypeId} {x : Operand} {y : Opd} (hop : o.op = .call c) (hc : c.callee = .builtin .len) (ha : c.args.toList = [x]) (ht : c.argTypes.toList = [t]) (hu : P.underlying t = some .string)
    (hy : cOpd G x = some y) (h : aop (.slen y) s T σ = some (r, σ')) : OpRes P U ls w Pr σ γ o a r σ' := by
  have h1 := cOpd_rep hG hT hy
  simp only [aop] at h
  split at h
  · rename_i b e1; cases h; rw [e1] at h1
    obtain ⟨cs, hr⟩ := run_builtin (P := P) (w := w) (a := a) hop hc
    refine .pure hI ?_ (.int _ _)
    rw [hr, toList_one ha, toList_one ht]
    simp [builtin, Builtin.len_, run_underlying hu, str_inv h1, goInt]
  · cases h
omit hG hT in
theorem op_lenc {c : Call} {t : TypeId} {x : Operand} {n : Nat} (hop : o.op = .call c) (hc : c.callee = .builtin .len) (ha : c.args.toList = [x]) (ht : c.argTypes.toList = [t])
    (hu : (∃ e, P.underlying t = some (.array n e)) ∨ ∃ b e, P.underlying t = some (.pointer b) ∧ P.underlying b = some (.array n e)) (h : aop (.lenc n) s T σ = some (r, σ')) : OpRes P U ls w Pr σ γ o a r σ' := by
  simp only [aop] at h
  cases h
  obtain ⟨cs, hr⟩ := run_builtin (P := P) (w := w) (a := a) hop hc
  refine .pure hI ?_ (.int _ _)
  rw [hr, toList_one ha, toList_one ht]
  rcases hu with ⟨e, hu⟩ | ⟨b, e, hu, hb⟩
  · simp [builtin, Builtin.len_, run_underlying hu, goInt]
  · simp [builtin, Builtin.len_, run_underlying hu, run_underlying hb, goInt]

theorem op_min {c : Call} {x : Operand} {xs : List Operand} {y : Opd} {ys : List Opd} (hop : o.op = .call c) (hc : c.callee = .builtin .min) (ha : c.args.toList = x :: xs) (hy : cOpd G x = some y) (hys : cOpds G xs = some ys)
    (h : aop (.min y ys) s T σ = some (r, σ')) : OpRes P U ls w Pr σ γ o a r σ' := by
  have h1 := cOpd_rep hG hT hy
  have h2 := cOpds_rep hG hT hys
  simp only [aop] at h
  split at h
  · rename_i k n e1
    rw [e1] at h1
    obtain ⟨r', hr, he⟩ := Option.map_eq_some_iff.1 h
    cases he
    obtain ⟨v, h3, h4⟩ := minmax_run (P := P) h2 hr
    obtain ⟨cs, hrun⟩ := run_builtin (P := P) (w := w) (a := a) hop hc
    refine .pure hI ?_ h4
    have e2 : (c.args.map a.eval).toList = a.eval x :: xs.map a.eval := by rw [Array.toList_map, ha]; rfl
    rw [hrun]
    simp only [Bool.false_eq_true, if_false] at h3
    show (do let z ← Builtin.min_ c.argTypes o.type (c.args.map a.eval); pure (Next.value z) : Sem Next).run P w = _
    rw [Sem.run_bind]
    unfold Builtin.min_
    rw [e2]
    dsimp only
    rw [int_inv h1, h3]
    rfl
  · cases h
theorem op_max {c : Call} {x : Operand} {xs : List Operand} {y : Opd} {ys : List Opd} (hop : o.op = .call c) (hc : c.callee = .builtin .max) (ha : c.args.toList = x :: xs) (hy : cOpd G x = some y) (hys : cOpds G xs = some ys)
    (h : aop (.max y ys) s T σ = some (r, σ')) : OpRes P U ls w Pr σ γ o a r σ' := by
  have h1 := cOpd_rep hG hT hy
  have h2 := cOpds_rep hG hT hys
  simp only [aop] at h
  split at h
  · rename_i k n e1
    rw [e1] at h1
    obtain ⟨r', hr, he⟩ := Option.map_eq_some_iff.1 h
    cases he
    obtain ⟨v, h3, h4⟩ := minmax_run (P := P) h2 hr
    obtain ⟨cs, hrun⟩ := run_builtin (P := P) (w := w) (a := a) hop hc
    refine .pure hI ?_ h4
    have e2 : (c.args.map a.eval).toList = a.eval x :: xs.map a.eval := by rw [Array.toList_map, ha]; rfl
    rw [hrun]
    simp only [if_true] at h3
    show (do let z ← Builtin.max_ c.argTypes o.type (c.args.map a.eval); pure (Next.value z) : Sem Next).run P w = _
    rw [Sem.run_bind]
    unfold Builtin.max_
    rw [e2]
    dsimp only
    rw [int_inv h1, h3]
    rfl
  · cases h

omit hI hG hT in
theorem ro_sub {k l h : Nat} {rows : List (List AV)} {v : Value} (hv : Rep w Pr σ γ ls (.ro rows) v) (hlh : l ≤ h) (hh : h ≤ rows.length) (hf : rowFits k l h rows = true) {base : Option Addr} {n c : Nat} (he : v = .slice base n c) {m : Nat} (hm : h ≤ m) :
    Rep w Pr σ γ ls (.ro ((rows.take h).drop l)) (.slice (if m = l then base else base.map (·.add (l * k))) (h - l) (m - l)) := by
  by_cases hlh' : h = l
  · subst hlh'
    have : (rows.take h).drop h = [] := by simp
    rw [this, Nat.sub_self]; exact .ro0 _ _
  cases hv with
  | ro0 a c' => have : h = 0 := by simpa using hh
                omega
  | ro rows b off k' c' vs h1 h2 h3 h4 h5 h6 h7 =>
    cases he
    have hml : m ≠ l := by omega
    have hkk : l ≠ 0 → k' = k := fun hl0 => by
      unfold rowFits at hf
      have h8 : rows[l]? = some (rows[l]'(by omega)) := List.getElem?_eq_getElem (by omega)
      rw [h8] at hf
      have := h2 _ (List.getElem_mem (l := rows) (n := l) (by omega))
      simp at hf
      rcases hf with (hf | hf) | hf
      · exact absurd hf hl0
      · omega
      · rw [← this]; exact hf
    have hlk : l * k = l * k' := by
      by_cases hl0 : l = 0
      · subst hl0; simp
      · rw [hkk hl0]
    rw [if_neg hml]
    simp only [Option.map_some, Addr.add_mid]
    have hrk : ∀ r ∈ (rows.take h).drop l, r.length = k' := fun r hr => h2 r (List.mem_of_mem_take (List.mem_of_mem_drop hr))
    have hlen : ((rows.take h).drop l).length = h - l := by simp; omega
    have hfl : ((rows.take h).drop l).flatten = (rows.flatten.take (h * k')).drop (l * k') := by
      rw [flatten_drop _ (fun r hr => h2 r (List.mem_of_mem_take hr)), flatten_take _ h2]
    have hR : RepL w Pr σ γ rows.flatten vs := ⟨by rw [h4, flatten_length rows h2], h7⟩
    have hR' := (hR.take (h * k')).drop (l * k')
    rw [← hfl] at hR'
    have hd : dataL ((rows.take h).drop l).flatten = true := by rw [hfl]; exact dataL_drop (dataL_take h6 _) _
    have := Rep.ro (w := w) (Pr := Pr) (σ := σ) (γ := γ) (ls := ls) ((rows.take h).drop l) b (off + l * k) k' (m - l) ((vs.take (h * k')).drop (l * k')) h1 hrk (by omega) (by rw [hR'.1, flatten_length _ hrk]) ?_ hd hR'.2
    · rw [hlen] at this; exact this
    · intro i v hi
      rw [List.getElem?_drop, List.getElem?_take] at hi
      split at hi
      · have := h5 _ v hi
        rw [← Nat.add_assoc, ← hlk] at this; exact this
      · cases hi

theorem op_slice {t e : TypeId} {k : Nat} {x : Operand} {lo hi mx : Option Operand} {y : Opd} {lo' hi' mx' : Option Opd} (hop : o.op = .slice t x lo hi mx) (hu : P.underlying t = some (.slice e)) (hk : tsize P e = some k) (hy : cOpd G x = some y)
    (hlo : cOpt G lo = some lo') (hhi : cOpt G hi = some hi') (hmx : cOpt G mx = some mx') (hmh : mx' ≠ none → hi ≠ none) (h : aop (.slice k y lo' hi' mx') s T σ = some (r, σ')) : OpRes P U ls w Pr σ γ o a r σ' := by
  have h1 := cOpd_rep hG hT hy
  simp only [aop] at h
  obtain ⟨r', h, he⟩ := Option.map_eq_some_iff.1 h
  cases he
  unfold aslice at h
  split at h
  · cases h
  rename_i n hn
  split at h
  · rename_i l hh hl hhb
    split at h
    · rename_i hb
      obtain ⟨base, c, e1, hnc, hbase⟩ := slice_shape h1 hn
      have run : ∀ m, boundOf T c mx' = some m → hh ≤ m → m ≤ c → (execOp a.eval o).run P w = .ok (.value (.slice (if m = l then base else base.map (·.add (l * k))) (hh - l) (m - l))) w := fun m hm h2 h3 => by
        have hbr := bounds_run (P := P) (w := w) hG hT hlo hhi hmx hl hhb hm hb.1 h2 h3 hmh true
        unfold execOp
        simp only [hop, Instr.sliceAt, Instr.slice, Sem.run_bind, run_underlying hu, Result.andThen_ok, e1, hbr, run_sizeOf' hk, Sem.run_pure]
      have mxr : ∀ x m, mx' = some x → boundOf T 0 (some x) = some m → boundOf T c mx' = some m := fun x m e hm => by subst e; exact hm
      split at h
      · rename_i rows hr
        rw [hr] at h1 hn
        cases hn
        split at h
        · rename_i hf
          split at h
          · cases h
            exact .pure hI (run c rfl (by omega) (Nat.le_refl _)) (ro_sub h1 hb.1 hb.2 hf e1 (by omega))
          · rename_i x0
            split at h
            · rename_i m hm
              split at h
              · rename_i hmh'; cases h; subst hmh'
                refine .pure hI (run m hm (Nat.le_refl _) (by omega)) ?_
                have := ro_sub h1 hb.1 hb.2 hf e1 (Nat.le_refl m)
                have hlen : ((rows.take m).drop l).length = m - l := by simp; omega
                have h9 := Rep.clip (w := w) (Pr := Pr) (σ := σ) (γ := γ) (ls := ls) ((rows.take m).drop l) (if m = l then base else base.map (·.add (l * k))) (by rw [hlen]; exact this.base rfl)
                rw [hlen] at h9; exact h9
              · cases h
            · cases h
        · cases h
      · rename_i rows hr
        rw [hr] at h1 hn
        cases hn
        have hcl : c = rows.length ∧ Rep w Pr σ γ ls (.ro rows) (.slice base rows.length c) := by
          rw [e1] at h1
          cases h1 with
          | clip rows a hc => exact ⟨rfl, hc.up⟩
        obtain ⟨hcl, h1'⟩ := hcl
        have toClip : ∀ m, hh = m → Rep w Pr σ γ ls (.ro ((rows.take hh).drop l)) (.slice (if m = l then base else base.map (·.add (l * k))) (hh - l) (m - l)) → Rep w Pr σ γ ls (.clip ((rows.take hh).drop l)) (.slice (if m = l then base else base.map (·.add (l * k))) (hh - l) (m - l)) := fun m hm this => by
          subst hm
          have hlen : ((rows.take hh).drop l).length = hh - l := by simp; omega
          have h9 := Rep.clip (w := w) (Pr := Pr) (σ := σ) (γ := γ) (ls := ls) ((rows.take hh).drop l) (if hh = l then base else base.map (·.add (l * k))) (by rw [hlen]; exact this.base rfl)
          rw [hlen] at h9; exact h9
        split at h
        · rename_i hf
          split at h
          · cases h
            have := ro_sub h1' hb.1 hb.2 hf rfl (m := c) (by omega)
            refine .pure hI (run c rfl (by omega) (Nat.le_refl _)) ?_
            split
            · rename_i hhn; exact toClip c (by omega) this
            · exact this
          · rename_i x0
            split at h
            · rename_i m hm
              split at h
              · rename_i hmh'; cases h; subst hmh'
                refine .pure hI (run m hm (Nat.le_refl _) (by omega)) ?_
                exact toClip m rfl (ro_sub h1' hb.1 hb.2 hf rfl (Nat.le_refl m))
              · cases h
            · cases h
        · cases h
      · rename_i id gen off n' hr
        rw [hr] at h1 hn
        cases hn
        split at h
        · rename_i hf
          split at h
          · cases h
            refine .pure hI (run c rfl (by omega) (Nat.le_refl _)) ?_
            rw [e1] at h1
            have shape : SliceShape (hh - l) (.slice (if c = l then base else base.map (·.add (l * k))) (hh - l) (c - l)) := by
              refine ⟨_, _, rfl, by omega, fun hne => ?_⟩
              obtain ⟨b, o', rfl⟩ := hbase (by omega)
              rw [if_neg (by omega)]
              exact ⟨b, o' + l * k, by simp [Addr.add_mid]⟩
            cases h1 with
            | lisOld id gen off len lk g e k rows u h2 h3 h4 => exact .lisOld _ _ _ _ _ _ _ _ _ _ h2 h3 shape
            | lis id off len lk g e k' rows gh u h2 h3 h4 h5 =>
              have hkk : k' = k := by unfold lisFits at hf; rw [h2] at hf; simpa using hf
              subst hkk
              refine .lis _ _ _ _ _ _ _ _ _ _ h2 h3 (by omega) ?_
              obtain ⟨base', n0, cap, hv, ⟨ho, he, h6, h7⟩ | ⟨ho0, c', ⟨hl0, a', he⟩ | ⟨h6, g', hg', he⟩⟩⟩ := h5
              · cases he
                refine ⟨base, n0, c, hv, ?_⟩
                subst ho
                by_cases hl0 : l = 0
                · subst hl0
                  refine .inl ⟨rfl, ?_, by omega, fun hne => h7 (by omega)⟩
                  simp only [Nat.zero_mul, Nat.sub_zero]
                  split
                  · rfl
                  · cases base with
                    | none => rfl
                    | some ad => rfl
                · right
                  refine ⟨by omega, c - l, ?_⟩
                  by_cases hz : hh - l = 0
                  · exact .inl ⟨hz, _, by rw [hz]⟩
                  · obtain ⟨g', rfl⟩ := h7 (by omega)
                    exact .inr ⟨by omega, g', rfl, by rw [if_neg (by omega)]; simp [Addr.add_mid]⟩
              · cases he
                have hz : hh - l = 0 := by omega
                exact ⟨base', n0, cap, hv, .inr ⟨by omega, c - l, .inl ⟨hz, _, by rw [hz]⟩⟩⟩
              · cases he
                refine ⟨base', n0, cap, hv, .inr ⟨by omega, c - l, ?_⟩⟩
                by_cases hz : hh - l = 0
                · exact .inl ⟨hz, _, by rw [hz]⟩
                · exact .inr ⟨by omega, g', hg', by rw [if_neg (by omega)]; simp [Addr.add_mid, Nat.add_mul]⟩
          · rename_i x0
            split at h
            · rename_i m hm
              split at h
              · rename_i hmh'; cases h; obtain ⟨rfl, rfl⟩ := hmh'
                refine .pure hI (run _ hm (Nat.le_refl _) (by omega)) ?_
                rw [Nat.sub_self]
                exact .clip [] _ (.ro0 _ _)
              · cases h
            · cases h
        · cases h
      · cases h
    · cases h
  · cases h

theorem op_sslice {t : TypeId} {x : Operand} {lo hi : Option Operand} {y : Opd} {lo' hi' : Option Opd} (hop : o.op = .slice t x lo hi none) (hu : P.underlying t = some .string) (hy : cOpd G x = some y)
    (hlo : cOpt G lo = some lo') (hhi : cOpt G hi = some hi') (h : aop (.sslice y lo' hi') s T σ = some (r, σ')) : OpRes P U ls w Pr σ γ o a r σ' := by
  have h1 := cOpd_rep hG hT hy
  simp only [aop] at h
  obtain ⟨r', h, he⟩ := Option.map_eq_some_iff.1 h
  cases he
  unfold asslice at h
  split at h
  · rename_i b hb
    rw [hb] at h1
    split at h
    · rename_i l hh hl hhb
      split at h
      · rename_i hle; cases h
        have hbr := bounds_run (P := P) (w := w) hG hT hlo hhi (mx := none) (mx' := none) rfl hl hhb (c := b.size) (m := b.size) rfl hle.1 hle.2 (Nat.le_refl _) (fun h => absurd rfl h) false
        refine .pure (v := .string (b.extract l hh)) hI ?_ (.str _)
        unfold execOp
        simp only [Option.map_none] at hbr
        simp [hop, Instr.sliceAt, Instr.slice, run_underlying hu, str_inv h1, hbr]
      · cases h
    · cases h
  · cases h

theorem op_iaddrS {t e : TypeId} {k : Nat} {x i : Operand} {y j : Opd} (hop : o.op = .indexAddr t x i) (hu : P.underlying t = some (.slice e)) (hk : tsize P e = some k) (hy : cOpd G x = some y) (hj : cOpd G i = some j)
    (h : aop (.iaddr k none y j) s T σ = some (r, σ')) : OpRes P U ls w Pr σ γ o a r σ' := by
  have h1 := cOpd_rep hG hT hy
  have h2 := cOpd_rep hG hT hj
  simp only [aop] at h
  split at h
  · rename_i kk m e1
    rw [e1] at h2
    split at h
    · rename_i hm
      have key : ∀ b o' n c, a.eval x = .slice (some ⟨b, o', none⟩) n c → m.toNat < n → (execOp a.eval o).run P w = .ok (.value (.pointer (some ⟨b, o' + m.toNat * k, none⟩))) w := fun b o' n c e hlt => by
        have : m < n := by omega
        unfold execOp; simp [hop, e, int_inv h2, Instr.indexAt, run_underlying hu, asIntOf, run_sizeOf' hk, hm, this, Addr.add_mid]
      have ro : ∀ rows row base c, a.eval x = .slice base rows.length c → Rep w Pr σ γ ls (.ro rows) (.slice base rows.length c) → rows[m.toNat]? = some row → row.length = k → OpRes P U ls w Pr σ γ o a (.rp row 0) σ := fun rows row base c he hr hrow hlen => by
        have hlt := (List.getElem?_eq_some_iff.1 hrow).1
        cases hr with
        | ro0 a' c' => simp at hrow
        | ro rows b off k' c' vs h3 h4 h5 h6 h7 h8 h9 =>
          have hkk : k' = k := by rw [← hlen]; exact (h4 row (List.mem_of_getElem? hrow)).symm
          subst hkk
          refine .pure hI (key _ _ _ _ he hlt) ?_
          have hR : RepL w Pr σ γ rows.flatten vs := ⟨by rw [h6, flatten_length rows h4], h9⟩
          have hR' := (hR.drop (m.toNat * k')).take k'
          have hfr := flatten_row h4 hrow
          rw [hfr] at hR'
          have hd : dataL row = true := by rw [← hfr]; exact dataL_take (dataL_drop h8 _) _
          have := Rep.rp (w := w) (Pr := Pr) (σ := σ) (γ := γ) (ls := ls) row 0 b (off + m.toNat * k') _ hR'.1 ?_ hd hR'.2
          · exact this
          · intro i v hi
            rw [List.getElem?_take] at hi
            split at hi
            · rw [List.getElem?_drop] at hi
              have := h7 _ v hi
              rw [← Nat.add_assoc] at this; exact this
            · cases hi
      split at h
      · rename_i rows e2
        rw [e2] at h1
        split at h
        · rename_i row hrow
          split at h
          · rename_i hlen; cases h
            obtain ⟨base, c, he, _⟩ := ro_rows h1
            rw [he] at h1
            exact ro rows row base c he h1 hrow hlen
          · cases h
        · cases h
      · rename_i rows e2
        rw [e2] at h1
        split at h
        · rename_i row hrow
          split at h
          · rename_i hlen; cases h
            generalize hv : a.eval x = v at h1
            cases h1 with
            | clip rows base hc => exact ro rows row base _ hv hc.up hrow hlen
          · cases h
        · cases h
      · rename_i rows e2
        rw [e2] at h1
        split at h
        · rename_i row hrow
          split at h
          · rename_i hlen; cases h
            generalize hv : a.eval x = v at h1
            have hlt := (List.getElem?_eq_some_iff.1 hrow).1
            cases h1 with
            | refs rows b off k' c vs h3 h4 h5 h6 h7 h8 h9 =>
              have hkk : k' = k := by rw [← hlen]; exact (h4 row (List.mem_of_getElem? hrow)).symm
              subst hkk
              refine .pure hI (key _ _ _ _ hv hlt) ?_
              have hR : RepL w Pr σ γ rows.flatten vs := ⟨by rw [h6, flatten_length rows h4], h9⟩
              have hR' := (hR.drop (m.toNat * k')).take k'
              rw [flatten_row h4 hrow] at hR'
              have := Rep.rq (w := w) (Pr := Pr) (σ := σ) (γ := γ) (ls := ls) row 0 b (off + m.toNat * k') _ hR'.1 ?_ (one_piece h8 _ _) hR'.2
              · exact this
              · intro i v hi
                rw [List.getElem?_take] at hi
                split at hi
                · rw [List.getElem?_drop] at hi
                  have := h7 _ v hi
                  rw [← Nat.add_assoc] at this; exact this
                · cases hi
          · cases h
        · cases h
      · rename_i id gen off len e2
        rw [e2] at h1
        split at h
        · rename_i hlt; cases h
          obtain ⟨hlt, hf⟩ := hlt
          generalize hv : a.eval x = v at h1
          cases h1 with
          | lisOld id gen off len lk g e k rows u h2 h3 h4 =>
            obtain ⟨base, c, rfl, h5, h6⟩ := h4
            obtain ⟨b, o', rfl⟩ := h6 (by omega)
            exact .pure hI (key _ _ _ _ hv hlt) (.ptrOld _ _ _ _ _ _ _ _ _ _ _ h2 h3)
          | lis id off len lk g e k' rows gh u h3 h4 h5 h6 =>
            have hkk : k' = k := by unfold lisFits at hf; rw [h3] at hf; simpa using hf
            subst hkk
            obtain ⟨gh', vs, h7, h8, h9, h10, h11, h12, h13⟩ := hI.lst _ _ _ _ _ _ h3
            rw [h4] at h7; cases h7
            obtain ⟨_, ⟨hn, a', hx⟩ | ⟨g', c, cur, hx, hh, _⟩⟩ := h11
            · omega
            · have hb : blkOf gh.v = some g' := by rw [hx]; rfl
              obtain ⟨base', n0, cap, hv', ⟨ho, he, _, _⟩ | ⟨_, c', ⟨hl0, a', he⟩ | ⟨_, g2, hg2, he⟩⟩⟩ := h6
              · rw [hx] at hv'; cases hv'; subst he; subst ho
                refine .pure hI (key _ _ _ _ hv hlt) ?_
                have := Rep.ptrL (w := w) (Pr := Pr) (ls := ls) _ (0 + m.toNat) 0 _ _ _ _ _ gh g' h3 h4 hb (by omega)
                simpa using this
              · omega
              · rw [hx] at hv'; cases hv'; cases hg2; subst he
                refine .pure hI (key _ _ _ _ hv hlt) ?_
                have := Rep.ptrL (w := w) (Pr := Pr) (ls := ls) _ (off + m.toNat) 0 _ _ _ _ _ gh g' h3 h4 hb (by omega)
                simpa [Nat.add_mul] using this
        · cases h
      · cases h
    · cases h
  · cases h
end
end Go.Proofs.YtgajekpigkknnaaDoor.A

/- One operation of the evaluator is one of the model: comparisons of structs and arrays. No condition. -/
namespace Go.Proofs.YtgajekpigkknnaaDoor.A
open Go
variable {U : Nat → Prop} {w w' : World} {Pr Pr' : Nat → Nat → Prop} {σ σ' : List Blk} {γ γ' : List Ghost} {ls : List Nat} {P : Program} {G : Nat → Option (List AV)}

theorem eqCells_append : ∀ {k1 k2 : List Nat} {a b : List AV} {r : Bool}, eqCells (k1 ++ k2) a b = some r → ∃ r1 r2, eqCells k1 (a.take k1.length) (b.take k1.length) = some r1 ∧ eqCells k2 (a.drop k1.length) (b.drop k1.length) = some r2 ∧ r = (r1 && r2) ∧ k1.length ≤ a.length ∧ k1.length ≤ b.length
  | [], k2, a, b, r, h => ⟨true, r, by simp [eqCells], by simpa using h, by simp, Nat.zero_le _, Nat.zero_le _⟩
  | n :: k1, k2, [], b, r, h => by cases b <;> simp [eqCells] at h
  | n :: k1, k2, a :: as, [], r, h => by simp [eqCells] at h
  | n :: k1, k2, a :: as, b :: bs, r, h => by
    simp only [List.cons_append, eqCells] at h
    split at h
    · rename_i hk
      split at h
      · rename_i x y h1 h2
        cases h
        obtain ⟨r1, r2, h3, h4, rfl, h5, h6⟩ := eqCells_append h2
        exact ⟨x && r1, r2, by simp [eqCells, hk, h1, h3], by simpa using h4, by simp [Bool.and_assoc], by simpa using h5, by simpa using h6⟩
      · cases h
    · cases h
theorem eqCells_nil {a b : List AV} {r : Bool} (h : eqCells [] a b = some r) : a = [] ∧ b = [] ∧ r = true := by
  cases a <;> cases b <;> simp [eqCells] at h
  exact ⟨rfl, rfl, h⟩

/-- What stands for a value of several cells, or of one. -/
def OfCells (agg : Bool) (vs : List Value) (v : Value) : Prop := (agg = true ∧ v = .agg vs.toArray) ∨ (agg = false ∧ vs = [v])
theorem part_of {t : TypeId} {k : Nat} {agg : Bool} (hk : ksize P t = some (k, agg)) {vs : List Value} {off : Nat} (hl : off + k ≤ vs.length) : ∃ v, (part t vs.toArray off).run P w = .ok v w ∧ OfCells agg ((vs.drop off).take k) v := by
  obtain ⟨hs, hg, hone⟩ := ksize_inv hk
  obtain ⟨d, hu, hd, hrun⟩ := tagg_inv hg
  cases agg with
  | true =>
    refine ⟨_, ?_, .inl ⟨rfl, rfl⟩⟩
    simp only [part, Sem.run_bind, hrun, Result.andThen_ok, if_true, run_sizeOf' hs, Sem.run_pure]
    congr 2
    apply Array.toList_inj.1
    simp [List.extract_eq_take_drop]
  | false =>
    have h1 := hone rfl
    subst h1
    have hvv : vs[off]? = some (vs[off]'(by omega)) := List.getElem?_eq_getElem (by omega)
    refine ⟨vs[off]'(by omega), by simp [part, hrun, hvv], .inr ⟨rfl, ?_⟩⟩
    rw [List.drop_eq_getElem_cons (by omega)]; rfl

theorem eq_flat : ∀ (d : Nat) (t : TypeId) (ks : List Nat) (D : Nat), flatK P d t = some ks → d ≤ D → ∀ (agg : Bool) (as bs : List AV) (vs us : List Value) (r : Bool) (x y : Value), tagg P t = some agg → RepL w Pr σ γ as vs → RepL w Pr σ γ bs us →
    eqCells ks as bs = some r → OfCells agg vs x → OfCells agg us y → (Op.equalIn D t x y).run P w = .ok r w
  | 0, _, _, _, h, _ => by simp [flatK] at h
  | d + 1, t, ks, 0, h, hD => by omega
  | d + 1, t, ks, D + 1, h, hD => by
    intro agg as bs vs us r x y hg ha hb he hx hy
    simp only [flatK] at h
    have scalar : ∀ {k : Nat}, ks = [k] → agg = false → ∃ a b, as = [a] ∧ bs = [b] ∧ kindOk k a = true ∧ eqCell a b = some r ∧ Rep w Pr σ γ [] a x ∧ Rep w Pr σ γ [] b y := by
      rintro k rfl rfl
      rcases hx with ⟨h1, _⟩ | ⟨_, rfl⟩
      · cases h1
      rcases hy with ⟨h1, _⟩ | ⟨_, rfl⟩
      · cases h1
      have la := ha.1; have lb := hb.1
      match as, bs, la, lb with
      | [a], [b], _, _ =>
        simp only [eqCells] at he
        split at he
        · rename_i hk
          split at he
          · rename_i p q h1 h2
            cases h2; cases he
            exact ⟨a, b, rfl, rfl, hk, by simpa using h1, ha.2 0 a x rfl rfl, hb.2 0 b y rfl rfl⟩
          · cases he
        · cases he
    have notAgg : ∀ {dd : TypeDesc}, P.underlying t = some dd → (match dd with | .struct _ | .array _ _ => true | _ => false) = false → agg = false := fun {dd} hu hd => by
      unfold tagg at hg; rw [hu] at hg; simp only [Option.map_some, Option.some.injEq] at hg; rw [← hg]; exact hd
    split at h
    · rename_i hu; cases h
      obtain ⟨a, b, rfl, rfl, hk, hc, h1, h2⟩ := scalar rfl (notAgg hu rfl)
      cases a <;> simp [kindOk] at hk
      cases b <;> simp [eqCell] at hc
      subst hc
      rw [bool_inv h1, bool_inv h2]; exact run_equalIn_bool' w D t _ _ hu
    · rename_i hu; cases h
      obtain ⟨a, b, rfl, rfl, hk, hc, h1, h2⟩ := scalar rfl (notAgg hu rfl)
      cases a <;> simp [kindOk] at hk
      cases b <;> simp [eqCell] at hc
      obtain ⟨rfl, rfl⟩ := hc
      rw [int_inv h1, int_inv h2]; exact run_equalIn_int w D t _ _ _ _ hu
    · rename_i hu; cases h
      obtain ⟨a, b, rfl, rfl, hk, hc, h1, h2⟩ := scalar rfl (notAgg hu rfl)
      cases a <;> simp [kindOk] at hk
      cases b <;> simp [eqCell] at hc
      subst hc
      rw [str_inv h1, str_inv h2, beq_toListBytes]; exact run_equalIn_string w D t _ _ hu
    · rename_i fs hu
      split at h
      · cases h
      rename_i hst
      have hst : P.stoodInHeld t = false := by simpa using hst
      have hagg : agg = true := by unfold tagg at hg; rw [hu] at hg; simp at hg; exact hg
      subst hagg
      rcases hx with ⟨_, rfl⟩ | ⟨h1, _⟩
      case inr => cases h1
      rcases hy with ⟨_, rfl⟩ | ⟨h1, _⟩
      case inr => cases h1
      have hfo : P.fieldsOf t = fs := by unfold Program.fieldsOf; rw [hu]
      rw [run_equalIn_struct w D t _ _ (by rw [hfo]; exact hu) hst, hfo]
      have key : ∀ (l : List Field) (off : Nat) (ks : List Nat) (r : Bool), flatFs P (flatK P d) off l = some ks → eqCells ks (as.drop off) (bs.drop off) = some r → (Op.eqFields D vs.toArray us.toArray l).run P w = .ok r w := by
        intro l
        induction l with
        | nil =>
          intro off ks r hf he
          simp only [flatFs] at hf; cases hf
          obtain ⟨_, _, rfl⟩ := eqCells_nil he
          simp [Op.eqFields]
        | cons f l ih =>
          intro off ks r hf he
          simp only [flatFs] at hf
          split at hf
          · rename_i hn
            obtain ⟨hn, rfl⟩ := hn
            split at hf
            · rename_i k1 n ag h1 h2
              split at hf
              · rename_i hkn
                obtain ⟨hkn, hn0⟩ := hkn
                obtain ⟨k2, h3, rfl⟩ := Option.map_eq_some_iff.1 hf
                obtain ⟨r1, r2, h4, h5, rfl, h6, h7⟩ := eqCells_append he
                rw [hkn] at h4 h5 h6 h7
                rw [List.drop_drop] at h5
                rw [List.drop_drop] at h5
                simp only [List.length_drop] at h6 h7
                obtain ⟨v1, hv1, ho1⟩ := part_of (w := w) (P := P) h2 (vs := vs) (off := f.offset) (by rw [ha.1]; omega)
                obtain ⟨u1, hu1, ho2⟩ := part_of (w := w) (P := P) h2 (vs := us) (off := f.offset) (by rw [hb.1]; omega)
                have := eq_flat d f.type k1 D h1 (by omega) ag _ _ _ _ r1 v1 u1 (ksize_inv h2).2.1 ((ha.drop f.offset).take n) ((hb.drop f.offset).take n) h4 ho1 ho2
                have ih' := ih (f.offset + n) k2 r2 h3 h5
                simp only [Op.eqFields, hn, ne_eq, not_false_eq_true, if_true, Sem.run_bind, hv1, hu1, Result.andThen_ok, this]
                cases r1
                · simp
                · simpa using ih'
              · cases hf
            · cases hf
          · cases hf
      exact key fs.toList 0 ks r h (by simpa using he)
    · rename_i n e hu
      split at h
      · rename_i l k ag h1 h2
        split at h
        · rename_i hlk; cases h
          obtain ⟨hlk, hk0⟩ := hlk
          have hagg : agg = true := by unfold tagg at hg; rw [hu] at hg; simp at hg; exact hg
          subst hagg
          rcases hx with ⟨_, rfl⟩ | ⟨h1, _⟩
          case inr => cases h1
          rcases hy with ⟨_, rfl⟩ | ⟨h1, _⟩
          case inr => cases h1
          have hsz := (ksize_inv h2).1
          simp only [Op.equalIn, Sem.run_bind, run_underlying hu, Result.andThen_ok, run_sizeOf' hsz, Std.Legacy.Range.forIn_eq_forIn_range']
          have key : ∀ (m i : Nat) (r : Bool), eqCells (flatEs l m) (as.drop (i * k)) (bs.drop (i * k)) = some r → (forIn (List.range' i m) ((none, ()) : Option Bool × Unit) fun i __s => (do
              let a ← part e vs.toArray (i * k)
              let b ← part e us.toArray (i * k)
              let c ← Op.equalIn D e a b
              if (!c) = true then pure (ForInStep.done (some false, ())) else pure (ForInStep.yield (none, ())) : Sem (ForInStep (Option Bool × Unit)))).run P w = .ok (if r then (none, ()) else (some false, ())) w := by
            intro m
            induction m with
            | zero =>
              intro i r he
              obtain ⟨_, _, rfl⟩ := eqCells_nil he
              simp
            | succ m ih =>
              intro i r he
              simp only [flatEs] at he
              obtain ⟨r1, r2, h4, h5, rfl, h6, h7⟩ := eqCells_append he
              rw [hlk] at h4 h5 h6 h7
              rw [List.drop_drop, List.drop_drop] at h5
              simp only [List.length_drop] at h6 h7
              obtain ⟨v1, hv1, ho1⟩ := part_of (w := w) (P := P) h2 (vs := vs) (off := i * k) (by rw [ha.1]; omega)
              obtain ⟨u1, hu1, ho2⟩ := part_of (w := w) (P := P) h2 (vs := us) (off := i * k) (by rw [hb.1]; omega)
              have h8 := eq_flat d e l D h1 (by omega) ag _ _ _ _ r1 v1 u1 (ksize_inv h2).2.1 ((ha.drop (i * k)).take k) ((hb.drop (i * k)).take k) h4 ho1 ho2
              have ih' := ih (i + 1) r2 (by rw [Nat.succ_mul]; exact h5)
              rw [List.range'_succ, List.forIn_cons]
              simp only [Sem.run_bind, hv1, hu1, Result.andThen_ok, h8]
              cases r1
              · simp
              · simpa using ih'
          have hk := key n 0 r (by simpa using he)
          simp only [Std.Legacy.Range.size] at hk ⊢
          rw [show (n - 0 + 1 - 1) / 1 = n from by simp] 
          rw [hk]
          cases r <;> simp
        · cases h
      · cases h
    · cases h

section
variable (hI : Inv U w Pr σ γ) (hG : GOk G w Pr) {T : Tm} {a : Act} (hT : TOk w Pr σ γ ls T a.tmps) {o : Oper} {s : Nat} {r : AV}
include hI hG hT
theorem op_eqagg {op : BinOp} {neg : Bool} {t u : TypeId} {ks : List Nat} {x y : Operand} {x' y' : Opd} (hop : o.op = .binOp op t x y u) (hn : op = if neg then .neq else .eql) (hk : flatK P 40 t = some ks) (hg : P.eqGuardType P.depth t = false) (ht : tagg P t = some true)
    (hx : cOpd G x = some x') (hy : cOpd G y = some y') (h : aop (.eqagg neg ks x' y') s T σ = some (r, σ')) : OpRes P U ls w Pr σ γ o a r σ' := by
  have h1 := cOpd_rep hG hT hx
  have h2 := cOpd_rep hG hT hy
  simp only [aop] at h
  split at h
  · rename_i as bs e1 e2
    obtain ⟨c, hc, he⟩ := Option.map_eq_some_iff.1 h
    cases he
    rw [e1] at h1; rw [e2] at h2
    obtain ⟨vs, e3, h3, _⟩ := agg_inv h1
    obtain ⟨us, e4, h4, _⟩ := agg_inv h2
    have heq := eq_flat (P := P) 40 t ks 10000 hk (by omega) true as bs vs us c _ _ ht h3 h4 hc (.inl ⟨rfl, rfl⟩) (.inl ⟨rfl, rfl⟩)
    refine .pure hI ?_ (.bool _)
    unfold execOp
    simp only [hop, e3, e4, Sem.run_bind, run_eqGuard_agg w op t x y _ _ hg, Result.andThen_ok]
    subst hn
    cases neg
    · simp only [Bool.false_eq_true, if_false, run_eql_struct, heq, Result.andThen_ok, Sem.run_pure]
    · simp only [if_true, run_neq_struct, heq, Result.andThen_ok, Sem.run_pure]
  · cases h
end
end Go.Proofs.YtgajekpigkknnaaDoor.A

/- One operation of the evaluator is one of the model: what makes variables, lists, structs. No condition. -/
namespace Go.Proofs.YtgajekpigkknnaaDoor.A
open Go
variable {U : Nat → Prop} {w w' : World} {Pr Pr' : Nat → Nat → Prop} {σ σ' : List Blk} {γ γ' : List Ghost} {ls : List Nat} {P : Program} {G : Nat → Option (List AV)}

theorem newAt_inv {bs bs' : List Blk} {s : Nat} {blk : Blk} (h : newAt bs s blk = some bs') : bs[s]? = some .dead ∧ bs' = bs.set s blk := by
  unfold newAt at h
  split at h
  · rename_i he; cases h; exact ⟨he, rfl⟩
  · cases h

/-- A slice without room is a list that may grow. -/
theorem Inv.nilLst (h : Inv U w Pr σ γ) {s : Nat} (hs : σ[s]? = some .dead) (e : TypeId) {k : Nat} (hk : 0 < k) (a : Option Addr) :
    ∃ γ', Inv U w Pr (σ.set s (.lst 0 0 e k [])) γ' ∧ Keeps σ γ (σ.set s (.lst 0 0 e k [])) γ' ∧ Rep w Pr (σ.set s (.lst 0 0 e k [])) γ' ls (.lis s 0 0 0) (.slice a 0 0) := by
  have hl := (List.getElem?_eq_some_iff.1 hs).1
  obtain ⟨h1, h2⟩ := h.newLst hs (Evo.refl U ls w Pr) (fun _ _ => rfl) e k [] (.slice a 0 0) [] hk (fun _ h => by cases h) rfl ⟨by simp, .inl ⟨rfl, a, rfl⟩⟩ RepL.nil (fun _ h => by cases h) (fun b hb => by cases a <;> cases hb)
  refine ⟨_, h1, h2, .lis s 0 0 0 0 e k [] ⟨0, .slice a 0 0⟩ _ (List.getElem?_set_self hl) (List.getElem?_set_self (by rw [h.len]; exact hl)) (Nat.le_refl _) ?_⟩
  exact ⟨a, 0, 0, rfl, .inl ⟨rfl, rfl, Nat.le_refl _, fun h => absurd rfl h⟩⟩

theorem RepL.set {as : List AV} {us : List Value} (h : RepL w Pr σ γ as us) {i : Nat} {a : AV} {v : Value} (hv : us[i]? = some v) (ha : Rep w Pr σ γ [] a v) : RepL w Pr σ γ (as.set i a) us := by
  refine ⟨by simp [h.1], fun j a' v' h1 h2 => ?_⟩
  by_cases hij : i = j
  · subst hij
    rw [List.getElem?_set_self (by rw [← h.1]; exact (List.getElem?_eq_some_iff.1 hv).1)] at h1
    cases h1; rw [hv] at h2; cases h2; exact ha
  · rw [List.getElem?_set_ne hij] at h1; exact h.2 j a' v' h1 h2

theorem growLists_rep : ∀ {l : List (Nat × TypeId × Nat)} {s : Nat} {row row' : List AV} {σ σ' : List Blk} {γ : List Ghost} {vs : List Value}, Inv U w Pr σ γ → listsOk P l = true → RepL w Pr σ γ row vs → growLists s l row σ = some (row', σ') →
    ∃ γ', Inv U w Pr σ' γ' ∧ Keeps σ γ σ' γ' ∧ RepL w Pr σ' γ' row' vs
  | [], s, row, row', σ, σ', γ, vs, hI, hl, hr, h => by cases h; exact ⟨γ, hI, Keeps.refl _ _, hr⟩
  | (at_, e, k) :: l, s, row, row', σ, σ', γ, vs, hI, hl, hr, h => by
    simp only [listsOk, List.all_cons, Bool.and_eq_true, decide_eq_true_eq] at hl
    unfold growLists at h
    split at h
    · rename_i hc
      split at h
      · rename_i bs hn
        obtain ⟨hd, rfl⟩ := newAt_inv hn
        obtain ⟨v, hv, hrep⟩ := hr.get hc
        have hvv : ∃ a, v = .slice a 0 0 := by
          cases hrep with
          | clip rows a h => exact ⟨a, rfl⟩
        obtain ⟨a, rfl⟩ := hvv
        obtain ⟨γ1, h1, h2, h3⟩ := hI.nilLst hd e hl.1.1 a
        obtain ⟨γ2, h4, h5, h6⟩ := growLists_rep h1 hl.2 ((hr.mono (Stays.refl _ _) h2).set hv h3) h
        exact ⟨γ2, h4, h2.trans h5, h6⟩
      · cases h
    · exact growLists_rep hI hl.2 hr h
    · cases h

theorem zeroL_inv {t : TypeId} {l : List AV} (h : zeroL P t = some l) : ∃ i z, P.info? t = some i ∧ i.zero = some z ∧ const1L z.cells.toList = some l ∧ l.length = i.size := by
  unfold zeroL at h
  split at h
  · rename_i i hi
    split at h
    · rename_i z hz
      split at h
      · rename_i l' hl
        split at h
        · rename_i hc; cases h; exact ⟨i, z, hi, hz, hl, hc.1⟩
        · cases h
      · cases h
    · cases h
  · cases h

theorem run_newVar' (t : TypeId) (v : Value) : (newVar t v).run P w = .ok ⟨w.heap.size, 0, none⟩ (w.alloc (.cells v.cells t)) := rfl

/-! ### Parts laid into a row -/
theorem splice_step (l : List Value) (i : Nat) (c : Value) (cs : List Value) (h : i + (cs.length + 1) ≤ l.length) :
    (l.set i c).take (i + 1) ++ cs ++ (l.set i c).drop (i + 1 + cs.length) = l.take i ++ (c :: cs) ++ l.drop (i + (cs.length + 1)) := by
  have t1 : (l.set i c).take (i + 1) = l.take i ++ [c] := by
    rw [List.take_set, List.take_succ_eq_append_getElem (by omega), List.set_append_right _ _ (by simp; omega)]
    have : i - (l.take i).length = 0 := by simp; omega
    rw [this]; rfl
  have t2 : (l.set i c).drop (i + 1 + cs.length) = l.drop (i + (cs.length + 1)) := by
    rw [List.drop_set_of_lt (by omega), show i + 1 + cs.length = i + (cs.length + 1) from by omega]
  rw [t1, t2]; simp
theorem foldl_set : ∀ (cs : List Value) (j0 off : Nat) (arr : Array Value), off + j0 + cs.length ≤ arr.size →
    ((cs.zipIdx j0).foldl (fun (a : Array Value) (x : Value × Nat) => a.setIfInBounds (off + x.2) x.1) arr).toList = arr.toList.take (off + j0) ++ cs ++ arr.toList.drop (off + j0 + cs.length)
  | [], j0, off, arr, h => by simp
  | c :: cs, j0, off, arr, h => by
    simp only [List.length_cons] at h
    rw [List.zipIdx_cons, List.foldl_cons, foldl_set cs (j0 + 1) off _ (by simp; omega)]
    simp only [Array.toList_setIfInBounds, List.length_cons]
    have := splice_step arr.toList (off + j0) c cs (by simpa using h)
    rw [show off + (j0 + 1) = off + j0 + 1 from by omega]
    exact this

theorem ovr_inv {row : List AV} {off : Nat} {cs row' : List AV} (h : ovr row off cs = some row') : off + cs.length ≤ row.length ∧ row' = row.take off ++ cs ++ row.drop (off + cs.length) := by
  unfold ovr at h
  split at h
  · rename_i hl; cases h; exact ⟨hl, rfl⟩
  · cases h
theorem RepL.ovr {row : List AV} {us : List Value} (h : RepL w Pr σ γ row us) {off : Nat} {cs row' : List AV} {vs : List Value} (hc : RepL w Pr σ γ cs vs) (ho : A.ovr row off cs = some row') :
    RepL w Pr σ γ row' (us.take off ++ vs ++ us.drop (off + vs.length)) := by
  obtain ⟨_, rfl⟩ := ovr_inv ho
  rw [hc.1]
  exact ((h.take off).append hc).append (h.drop _)
theorem one_ovr {us vs : List Value} (h : ∀ u ∈ us, u.oneCell' = true) (k : ∀ u ∈ vs, u.oneCell' = true) (a b : Nat) : ∀ u ∈ us.take a ++ vs ++ us.drop b, u.oneCell' = true := by
  intro u hu
  simp only [List.mem_append] at hu
  rcases hu with (hu | hu) | hu
  · exact h u (List.mem_of_mem_take hu)
  · exact k u hu
  · exact h u (List.mem_of_mem_drop hu)

theorem fillCells_rep {T : Tm} {a : Act} (hG : GOk G w Pr) (hT : TOk w Pr σ γ ls T a.tmps) (place : Nat → Option (Nat × Nat)) : ∀ {ps : List (Nat × Operand)} {l : List (Nat × Nat × Opd)} {row row' : List AV} {arr : Array Value},
    buildParts P G place ps = some l → fillCells T l row = some row' → RepL w Pr σ γ row arr.toList → (∀ u ∈ arr.toList, u.oneCell' = true) →
    ∃ arr', Instr.fill place arr (ps.map fun x => (x.1, a.eval x.2)) = some arr' ∧ RepL w Pr σ γ row' arr'.toList ∧ ∀ u ∈ arr'.toList, u.oneCell' = true
  | [], l, row, row', arr, hp, hf, hr, h1 => by cases hp; cases hf; exact ⟨arr, rfl, hr, h1⟩
  | (i, x) :: ps, l, row, row', arr, hp, hf, hr, h1 => by
    unfold buildParts at hp
    split at hp
    · rename_i off k y r hpl hy hrest
      cases hp
      unfold fillCells at hf
      split at hf
      · rename_i cs hcs
        split at hf
        · rename_i hlen
          split at hf
          · rename_i row1 ho
            obtain ⟨hc1, hc2⟩ := cells_rep (cOpd_rep hG hT hy) hcs
            obtain ⟨hb, _⟩ := ovr_inv ho
            have hsz : (a.eval x).cells.size = k := by rw [← hlen, ← hc1.1]; simp
            have hbb : off + (a.eval x).cells.size ≤ arr.size := by have h5 := hr.1; rw [Array.length_toList] at h5; rw [hlen] at hb; omega
            have hfold := foldl_set (a.eval x).cells.toList 0 off arr (by simpa using hbb)
            have hov := hr.ovr hc1 ho
            simp only [Nat.add_zero] at hfold
            have harr : ((a.eval x).cells.zipIdx.foldl (fun cs (c, j) => cs.setIfInBounds (off + j) c) arr).toList = arr.toList.take off ++ (a.eval x).cells.toList ++ arr.toList.drop (off + (a.eval x).cells.toList.length) := by
              rw [← hfold, ← Array.foldl_toList, Array.toList_zipIdx]
            obtain ⟨arr', h2, h3, h4⟩ := fillCells_rep hG hT place (arr := (a.eval x).cells.zipIdx.foldl (fun cs (c, j) => cs.setIfInBounds (off + j) c) arr) hrest hf (by rw [harr]; exact hov) (by rw [harr]; exact one_ovr h1 hc2 _ _)
            refine ⟨arr', ?_, h3, h4⟩
            simp only [List.map_cons, Instr.fill, hpl]
            have hcond : ¬ ((a.eval x).cells.size ≠ k ∨ off + (a.eval x).cells.size > arr.size) := by rintro (h | h) <;> omega
            rw [if_neg (by rw [Bool.or_eq_true, decide_eq_true_eq, decide_eq_true_eq]; exact hcond)]
            exact h2
          · cases hf
        · cases hf
      · cases hf
    · cases hp

section
variable (hI : Inv U w Pr σ γ) (hG : GOk G w Pr) {T : Tm} {a : Act} (hT : TOk w Pr σ γ ls T a.tmps) {o : Oper} {s : Nat} {r : AV}
include hI hG hT

omit hG hT in
theorem op_newl {e : TypeId} {k : Nat} (hop : o.op = .assign (.const (.slice none 0 0))) (hk : 0 < k) (h : aop (.newl e k) s T σ = some (r, σ')) : OpRes P U ls w Pr σ γ o a r σ' := by
  simp only [aop] at h
  obtain ⟨bs, hn, he⟩ := Option.map_eq_some_iff.1 h
  cases he
  obtain ⟨hd, rfl⟩ := newAt_inv hn
  obtain ⟨γ', h1, h2, h3⟩ := hI.nilLst hd e hk none
  refine ⟨.value (.slice none 0 0), _, w, Pr, γ', ?_, .inl rfl, h3, h1, h2, Evo.refl _ _ _ _⟩
  unfold execOp; simp [hop, Act.eval]

omit hG hT in
theorem op_alloc {t : TypeId} {zero : List AV} {lists : List (Nat × TypeId × Nat)} (hop : o.op = .alloc t) (hz : zeroL P t = some zero) (hl : listsOk P lists = true) (h : aop (.alloc t zero lists) s T σ = some (r, σ')) : OpRes P U ls w Pr σ γ o a r σ' := by
  obtain ⟨i, z, hi, hzz, hc, _⟩ := zeroL_inv hz
  simp only [aop] at h
  split at h
  · rename_i row bs hg
    obtain ⟨bs', hn, he⟩ := Option.map_eq_some_iff.1 h
    cases he
    obtain ⟨hd, rfl⟩ := newAt_inv hn
    obtain ⟨hr, h1⟩ := const1L_rep (w := w) (Pr := Pr) (σ := σ) (γ := γ) hc
    obtain ⟨γ1, h2, h3, h4⟩ := growLists_rep hI hl hr hg
    obtain ⟨h5, h6, h7⟩ := h2.newBox hd t row z.cells.toList h4 h1
    have hls := (List.getElem?_eq_some_iff.1 hd).1
    refine ⟨.value (.pointer (some ⟨w.heap.size, 0, none⟩)), _, _, Pr, _, ?_, .inl rfl, ?_, h5, h3.trans h6, h7⟩
    · unfold execOp
      simp [hop, Instr.alloc, zeroValue, typeInfo, hi, hzz, run_newVar']
    · exact .ptrB s 0 0 t row ⟨w.heap.size, undef⟩ (List.getElem?_set_self hls) (List.getElem?_set_self (by rw [h2.len]; exact hls))
  · cases h

theorem op_box {t : TypeId} {k : Nat} {lists : List (Nat × TypeId × Nat)} {x : Operand} {y : Opd} (hop : o.op = .box t x) (hl : listsOk P lists = true) (hy : cOpd G x = some y) (h : aop (.box t k y lists) s T σ = some (r, σ')) : OpRes P U ls w Pr σ γ o a r σ' := by
  have hx := cOpd_rep hG hT hy
  simp only [aop] at h
  split at h
  · rename_i cs hcs
    split at h
    · split at h
      · rename_i row bs hg
        obtain ⟨bs', hn, he⟩ := Option.map_eq_some_iff.1 h
        cases he
        obtain ⟨hd, rfl⟩ := newAt_inv hn
        obtain ⟨hr, h1⟩ := cells_rep hx hcs
        obtain ⟨γ1, h2, h3, h4⟩ := growLists_rep hI hl hr hg
        obtain ⟨h5, h6, h7⟩ := h2.newBox hd t row (a.eval x).cells.toList h4 h1
        have hls := (List.getElem?_eq_some_iff.1 hd).1
        refine ⟨.value (.pointer (some ⟨w.heap.size, 0, none⟩)), _, _, Pr, _, ?_, .inl rfl, ?_, h5, h3.trans h6, h7⟩
        · unfold execOp
          simp [hop, Instr.box, run_newVar']
        · exact .ptrB s 0 0 t row ⟨w.heap.size, undef⟩ (List.getElem?_set_self hls) (List.getElem?_set_self (by rw [h2.len]; exact hls))
      · cases h
    · cases h
  · cases h

theorem op_build {t : TypeId} {zero : List AV} {ps : Array (Nat × Operand)} {l : List (Nat × Nat × Opd)} {lists : List (Nat × TypeId × Nat)} (hop : o.op = .build t ps) (hz : zeroL P t = some zero) (hp : buildParts P G (placeOf P t) ps.toList = some l) (hbt : (P.built t []).isSome = true) (hl : listsOk P lists = true)
    (h : aop (.build zero l lists) s T σ = some (r, σ')) : OpRes P U ls w Pr σ γ o a r σ' := by
  obtain ⟨i, z, hi, hzz, hc, _⟩ := zeroL_inv hz
  simp only [aop] at h
  split at h
  · rename_i row hf
    split at h
    · rename_i row' bs hg
      cases h
      obtain ⟨hr, h1⟩ := const1L_rep (w := w) (Pr := Pr) (σ := σ) (γ := γ) hc
      obtain ⟨arr', h2, h3, h4⟩ := fillCells_rep hG hT (placeOf P t) hp hf hr h1
      obtain ⟨γ1, h5, h6, h7⟩ := growLists_rep hI hl h3 hg
      have hb : P.built t (ps.toList.map fun x => (x.1, a.eval x.2)) = some arr' := by
        unfold Program.built at hbt ⊢
        unfold placeOf at h2
        rw [hi] at hbt ⊢
        cases hu : P.underlying t with
        | none => rw [hu] at hbt; cases hbt
        | some d =>
          rw [hu] at hbt h2
          cases d with
          | struct fs =>
            simp only at hbt h2 ⊢
            rw [hzz] at hbt ⊢
            cases hm : fs.toList.mapM (fun f => (P.info? f.type).map fun i => (f.offset, i.size)) with
            | none => rw [hm] at hbt; cases hbt
            | some places => rw [hm] at h2; exact h2
          | array n e =>
            simp only at hbt h2 ⊢
            rw [hzz] at hbt ⊢
            cases hm : P.info? e with
            | none => rw [hm] at hbt; cases hbt
            | some ie => rw [hm] at h2; exact h2
          | _ => cases hbt
      refine ⟨.value (.agg arr'), _, w, Pr, γ1, ?_, .inl rfl, ?_, h5, h6, Evo.refl _ _ _ _⟩
      · unfold execOp
        simp only [hop, Sem.run_bind]
        rw [run_build w t _ arr' (by rw [Array.toList_map]; exact hb)]
        rfl
      · have := Rep.agg (w := w) (Pr := Pr) (σ := σ') (γ := γ1) (ls := ls) row' arr'.toList h7.1 h4 h7.2
        simpa using this
    · cases h
  · cases h
end
end Go.Proofs.YtgajekpigkknnaaDoor.A

/- One operation of the evaluator is one of the model: slices by their elements, stores. No condition. -/
namespace Go.Proofs.YtgajekpigkknnaaDoor.A
open Go
variable {U : Nat → Prop} {w w' : World} {Pr Pr' : Nat → Nat → Prop} {σ σ' : List Blk} {γ γ' : List Ghost} {ls : List Nat} {P : Program} {G : Nat → Option (List AV)}

/-- A list that is never written again, as rows. -/
theorem lis_ro (h : Inv U w Pr σ γ) {id gen off len : Nat} {v : Value} (ha : Rep w Pr σ γ ls (.lis id gen off len) v) {rows : List (List AV)} (hr : rowsOf σ (.lis id gen off len) = some rows)
    (hp : ∀ b blk, σ[id]? = some blk → memB σ γ id = some b → ∀ i, i < blk.cellsN → Pr b i) : Rep w Pr σ γ ls (.ro rows) v ∧ rows.length = len := by
  cases ha with
  | lisOld id gen off len lk g e k rows u h1 h2 ho =>
    simp only [rowsOf, h1] at hr
    rw [if_neg (by omega)] at hr; cases hr
  | lis id off len lk g e k rows' gh u h1 h2 h3 h4 =>
    simp only [rowsOf, h1, h3, and_self, if_true] at hr
    cases hr
    obtain ⟨gh', vs, h5, h6, h7, h8, h9, h10, h11⟩ := h.lst _ _ _ _ _ _ h1
    rw [h2] at h5; cases h5
    have hlen : ((rows'.drop off).take len).length = len := by simp; omega
    refine ⟨?_, hlen⟩
    have zero : ∀ a c, len = 0 → Rep w Pr σ γ ls (.ro ((rows'.drop off).take len)) (.slice a 0 c) := fun a c hz => by
      have : (rows'.drop off).take len = [] := by rw [hz]; simp
      rw [this]; exact .ro0 a c
    by_cases hl0 : len = 0
    · obtain ⟨base, c, rfl, _⟩ := h4.shape
      rw [hl0] at zero ⊢
      exact zero base c rfl
    · obtain ⟨_, ⟨hn, a, hx⟩ | ⟨g', c, cur, hx, hh, h12, h13, h14, h15⟩⟩ := h9
      · omega
      · have hb : memB σ γ id = some g' := by rw [memB_lst h1 h2, hx]; rfl
        have hrg : w.rangeAt g' 0 vs := by
          have := range_piece (range_cells hh) 0 (rows'.length * k)
          rw [List.drop_zero, h15] at this; exact this
        have hvl : vs.length = rows'.length * k := by rw [h10.1, flatten_length rows' h7]
        have hrk : ∀ r ∈ (rows'.drop off).take len, r.length = k := fun r hr => h7 r (List.mem_of_mem_drop (List.mem_of_mem_take hr))
        have hfl : ((rows'.drop off).take len).flatten = (rows'.flatten.drop (off * k)).take (len * k) := by
          rw [flatten_take _ (fun r hr => h7 r (List.mem_of_mem_drop hr)), flatten_drop _ h7]
        have hdd : dataL ((rows'.drop off).take len).flatten = true := by rw [hfl]; exact dataL_take (dataL_drop h8 _) _
        have fin : ∀ c, len ≤ c → Rep w Pr σ γ ls (.ro ((rows'.drop off).take len)) (.slice (some ⟨g', off * k, none⟩) len c) := fun c hc => by
          have hR := (h10.drop (off * k)).take (len * k)
          rw [← hfl] at hR
          have := Rep.ro (w := w) (Pr := Pr) (σ := σ) (γ := γ) (ls := ls) ((rows'.drop off).take len) g' (off * k) k c ((vs.drop (off * k)).take (len * k)) h6 hrk (by omega) (by rw [hR.1, flatten_length _ hrk]) ?_ hdd hR.2
          · rw [hlen] at this; exact this
          · intro i v hi
            have hlt : off * k + i < rows'.length * k := by
              have := (List.getElem?_eq_some_iff.1 hi).1
              simp only [List.length_take, List.length_drop] at this
              omega
            refine ⟨hp g' _ h1 hb _ hlt, ?_⟩
            rw [List.getElem?_take] at hi
            split at hi
            · rw [List.getElem?_drop] at hi
              have := hrg _ v hi; rwa [Nat.zero_add] at this
            · cases hi
        obtain ⟨base, n, cap, hv, ⟨ho, rfl, hlc, _⟩ | ⟨_, c', ⟨hl', a, rfl⟩ | ⟨hlc, g2, hb2, rfl⟩⟩⟩ := h4
        · rw [hx] at hv; cases hv
          subst ho
          have := fin _ hlc
          rw [Nat.zero_mul] at this
          exact this
        · exact absurd hl' hl0
        · rw [hx] at hv; cases hv; cases hb2
          exact fin _ hlc

theorem lockAt_step (h : Inv U w Pr σ γ) {id lk g k : Nat} {e : TypeId} {rows : List (List AV)} (hi : σ[id]? = some (.lst lk g e k rows)) :
    ∃ Pr', Inv U w Pr' (lockAt σ id) γ ∧ Keeps σ γ (lockAt σ id) γ ∧ Evo U ls w Pr w Pr' ∧ (lockAt σ id)[id]? = some (.lst 2 g e k rows) ∧ ∀ b blk, (lockAt σ id)[id]? = some blk → memB (lockAt σ id) γ id = some b → ∀ i, i < blk.cellsN → Pr' b i := by
  obtain ⟨Pr', h1, h2, h3, h4⟩ := h.lock hi (.inr ⟨lk, g, e, k, rows, rfl, rfl⟩)
  have he : lockAt σ id = σ.set id (.lst 2 g e k rows) := by unfold lockAt; rw [hi]
  have hl := (List.getElem?_eq_some_iff.1 hi).1
  rw [he]
  refine ⟨Pr', h1, h2, h3, List.getElem?_set_self hl, fun b blk hb hm i hlt => ?_⟩
  rw [List.getElem?_set_self hl] at hb; cases hb
  exact h1.fix id _ b (List.getElem?_set_self hl) rfl hm i hlt

theorem rowsOf_lock {id gen off len : Nat} (j : Nat) : rowsOf (lockAt σ j) (.lis id gen off len) = rowsOf σ (.lis id gen off len) := by
  unfold lockAt
  split
  · rename_i lk g e k rows hj
    have hl := (List.getElem?_eq_some_iff.1 hj).1
    simp only [rowsOf]
    by_cases hji : j = id
    · subst hji; rw [List.getElem?_set_self hl, hj]
    · rw [List.getElem?_set_ne hji]
  · rfl

theorem toData_rep (h : Inv U w Pr σ γ) {a a' : AV} {v : Value} (ha : Rep w Pr σ γ ls a v) (ht : toData σ a = some (a', σ')) :
    ∃ Pr', Inv U w Pr' σ' γ ∧ Keeps σ γ σ' γ ∧ Evo U ls w Pr w Pr' ∧ Rep w Pr' σ' γ ls a' v ∧ a'.isData = true := by
  have plain : ∀ {b : AV}, Rep w Pr σ γ ls b v → b.isData = true → ∃ Pr', Inv U w Pr' σ γ ∧ Keeps σ γ σ γ ∧ Evo U ls w Pr w Pr' ∧ Rep w Pr' σ γ ls b v ∧ b.isData = true := fun hb hd => ⟨Pr, h, Keeps.refl _ _, Evo.refl _ _ _ _, hb, hd⟩
  unfold toData at ht
  split at ht
  · cases ht
    cases ha with
    | clip rows a hc => exact plain hc.up rfl
  · rename_i id gen off len
    split at ht
    · rename_i rows hr
      cases ht
      obtain ⟨lk, g, e, k, rr, hi⟩ : ∃ lk g e k rr, σ[id]? = some (.lst lk g e k rr) := by
        simp only [rowsOf] at hr
        split at hr
        · rename_i lk g e k rr hi; exact ⟨_, _, _, _, _, hi⟩
        · cases hr
      obtain ⟨Pr', h1, h2, h3, h4, h5⟩ := lockAt_step (ls := ls) h hi
      have := lis_ro h1 (ha.mono h3.stays h2 (fun _ _ h => h)) (by rw [rowsOf_lock]; exact hr) h5
      exact ⟨Pr', h1, h2, h3, this.1, rfl⟩
    · cases ht
  · split at ht
    · rename_i hd; cases ht; exact plain ha hd
    · cases ht

theorem AV.isYld_of_data {a : AV} (h : a.isData = true) : a.isYld = false := by cases a <;> first | rfl | cases h

theorem toDataL_rep (ls : List Nat) : ∀ {as as' : List AV} {vs : List Value} {σ σ' : List Blk} {Pr : Nat → Nat → Prop}, Inv U w Pr σ γ → RepL w Pr σ γ as vs → toDataL σ as = some (as', σ') →
    ∃ Pr', Inv U w Pr' σ' γ ∧ Keeps σ γ σ' γ ∧ Evo U ls w Pr w Pr' ∧ RepL w Pr' σ' γ as' vs ∧ dataL as' = true
  | [], as', vs, σ, σ', Pr, h, hr, ht => by cases ht; exact ⟨Pr, h, Keeps.refl _ _, Evo.refl _ _ _ _, hr, rfl⟩
  | a :: as, as', vs, σ, σ', Pr, h, hr, ht => by
    obtain ⟨v, us, rfl, h1, h2⟩ := hr.cons_inv
    unfold toDataL at ht
    split at ht
    · rename_i a1 bs1 ha
      split at ht
      · rename_i l2 bs2 hl
        cases ht
        obtain ⟨Pr1, h3, h4, h5, h6, h7⟩ := toData_rep (ls := ls) h h1.up ha
        obtain ⟨Pr2, h8, h9, h10, h11, h12⟩ := toDataL_rep ls h3 (h2.mono h5.stays h4) hl
        exact ⟨Pr2, h8, h4.trans h9, h5.trans h10, RepL.cons ((h6.base (AV.isYld_of_data h7)).mono h10.stays h9 (fun _ _ h => h)) h11, by simp only [dataL, List.all_cons, Bool.and_eq_true]; exact ⟨h7, h12⟩⟩
      · cases ht
    · cases ht
theorem asData_rep {as as' : List AV} {vs : List Value} (h : Inv U w Pr σ γ) (hr : RepL w Pr σ γ as vs) (ht : asData σ as = some (as', σ')) :
    ∃ Pr', Inv U w Pr' σ' γ ∧ Keeps σ γ σ' γ ∧ Evo U ls w Pr w Pr' ∧ RepL w Pr' σ' γ as' vs ∧ dataL as' = true := by
  unfold asData at ht
  split at ht
  · rename_i hd; cases ht; exact ⟨Pr, h, Keeps.refl _ _, Evo.refl _ _ _ _, hr, hd⟩
  · exact toDataL_rep ls h hr ht

/-! ### Rows of the same cells -/
theorem range_rep {z : Array Value} {k : Nat} (hk : 0 < k) (hz : z.size = k) (n : Nat) : ((Array.range (n * k)).map fun i => z[i % z.size]!).toList = (List.replicate n z.toList).flatten := by
  have hrk : ∀ r ∈ List.replicate n z.toList, r.length = k := fun r hr => by rw [List.eq_of_mem_replicate hr]; simpa using hz
  apply List.ext_getElem?
  intro i
  by_cases hi : i < n * k
  · have hq : i / k < n := (Nat.div_lt_iff_lt_mul hk).2 hi
    have hrow := flatten_row hrk (i := i / k) (r := z.toList) (by rw [List.getElem?_replicate, if_pos hq])
    have he : (List.replicate n z.toList).flatten[i]? = z.toList[i % k]? := by
      have := congrArg (fun l => l[i % k]?) hrow
      simp only [List.getElem?_take, List.getElem?_drop] at this
      rw [if_pos (Nat.mod_lt _ hk)] at this
      rw [← this]
      congr 1
      rw [Nat.mul_comm]; exact (Nat.div_add_mod i k).symm
    rw [he, hz]
    have hm : i % k < z.size := by rw [hz]; exact Nat.mod_lt _ hk
    simp [hi, hm, Array.getElem!_eq_getD]
  · rw [List.getElem?_eq_none (by simpa using hi), List.getElem?_eq_none (by rw [flatten_length _ hrk]; simpa using hi)]
theorem RepL.replicate {as : List AV} {vs : List Value} (h : RepL w Pr σ γ as vs) : ∀ n, RepL w Pr σ γ (List.replicate n as).flatten (List.replicate n vs).flatten
  | 0 => by simpa using RepL.nil
  | n + 1 => by simp only [List.replicate_succ, List.flatten_cons]; exact h.append (RepL.replicate h n)

theorem fillRows_rep {T : Tm} {a : Act} {k : Nat} : ∀ {ps : List (Nat × Operand)} {l : List (Nat × Opd)} {rows rows' : List (List AV)} {σ σ' : List Blk} {Pr : Nat → Nat → Prop} {arr : Array Value}, GOk G w Pr →
    Inv U w Pr σ γ → TOk w Pr σ γ ls T a.tmps → slParts G ps = some l → fillRows T k l rows σ = some (rows', σ') → RepL w Pr σ γ rows.flatten arr.toList → (∀ u ∈ arr.toList, u.oneCell' = true) → (∀ r ∈ rows, r.length = k) →
    ∃ Pr' arr', Inv U w Pr' σ' γ ∧ Keeps σ γ σ' γ ∧ Evo U [] w Pr w Pr' ∧ Instr.fill (fun i => some (i * k, k)) arr (ps.map fun x => (x.1, a.eval x.2)) = some arr' ∧ RepL w Pr' σ' γ rows'.flatten arr'.toList ∧
      (∀ u ∈ arr'.toList, u.oneCell' = true) ∧ (∀ r ∈ rows', r.length = k) ∧ rows'.length = rows.length ∧ (dataL rows.flatten = true → dataL rows'.flatten = true)
  | [], l, rows, rows', σ, σ', Pr, arr, hG, hI, hT, hp, hf, hr, h1, hk => by cases hp; cases hf; exact ⟨Pr, arr, hI, Keeps.refl _ _, Evo.refl _ _ _ _, rfl, hr, h1, hk, rfl, id⟩
  | (i, x) :: ps, l, rows, rows', σ, σ', Pr, arr, hG, hI, hT, hp, hf, hr, h1, hk => by
    unfold slParts at hp
    split at hp
    · rename_i y r hy hrest
      cases hp
      unfold fillRows at hf
      split at hf
      · rename_i cs hcs
        split at hf
        · rename_i hlen
          obtain ⟨hlen, hlt⟩ := hlen
          split at hf
          · rename_i cs' bs' hd
            obtain ⟨hc1, hc2⟩ := cells_rep (cOpd_rep hG hT hy) hcs
            obtain ⟨Pr1, h3, h4, h5, h6, h7⟩ := asData_rep (ls := []) hI hc1 hd
            have hrow : rows[i]? = some rows[i] := List.getElem?_eq_getElem hlt
            have hlr : rows[i].length = k := hk _ (List.getElem_mem hlt)
            have hlc' : cs'.length = k := by rw [← h6.1, hc1.1, hlen]
            have hfs := flatten_set hk hrow (r' := cs')
            have hik : i * k + k ≤ rows.length * k := by rw [← Nat.succ_mul]; exact Nat.mul_le_mul_right _ hlt
            have hR := hr.mono h5.stays h4
            have hov : A.ovr rows.flatten (i * k) cs' = some (rows.set i cs').flatten := by
              unfold A.ovr
              rw [if_pos (by rw [flatten_length _ hk, hlc']; exact hik), hfs, hlc']
            have hov' := hR.ovr h6 hov
            have hsz : (a.eval x).cells.size = k := by rw [← hlen, ← hc1.1]; simp
            have hasz : arr.size = rows.length * k := by have := hr.1; rw [Array.length_toList, flatten_length _ hk] at this; exact this
            have hfold := foldl_set (a.eval x).cells.toList 0 (i * k) arr (by simp; omega)
            simp only [Nat.add_zero] at hfold
            have harr : ((a.eval x).cells.zipIdx.foldl (fun cs (c, j) => cs.setIfInBounds (i * k + j) c) arr).toList = arr.toList.take (i * k) ++ (a.eval x).cells.toList ++ arr.toList.drop (i * k + (a.eval x).cells.toList.length) := by
              rw [← hfold, ← Array.foldl_toList, Array.toList_zipIdx]
            have hks : ∀ r ∈ rows.set i cs', r.length = k := fun r hr => by
              rcases List.mem_or_eq_of_mem_set hr with hr | rfl
              · exact hk r hr
              · exact hlc'
            obtain ⟨Pr2, arr', h8, h9, h10, h11, h12, h13, h14, h15, h16⟩ := fillRows_rep (T := T) (a := a) (arr := (a.eval x).cells.zipIdx.foldl (fun cs (c, j) => cs.setIfInBounds (i * k + j) c) arr) (hG.mono h5.stays) h3 (hT.mono h5.stays h4 (fun _ _ h => h)) hrest hf (by rw [harr]; exact hov') (by rw [harr]; exact one_ovr h1 hc2 _ _) hks
            refine ⟨Pr2, arr', h8, h4.trans h9, h5.trans h10, ?_, h12, h13, h14, by rw [h15]; simp, fun hdd => h16 ?_⟩
            · simp only [List.map_cons, Instr.fill]
              have hcond : ¬ ((a.eval x).cells.size ≠ k ∨ i * k + (a.eval x).cells.size > arr.size) := by rintro (h | h) <;> omega
              rw [if_neg (by rw [Bool.or_eq_true, decide_eq_true_eq, decide_eq_true_eq]; exact hcond)]
              exact h11
            · rw [hfs, dataL_append, dataL_append, dataL_take hdd, dataL_drop hdd, h7]; rfl
          · cases hf
        · cases hf
      · cases hf
    · cases hp

theorem sliceEl_inv {t e : TypeId} {k : Nat} (h : sliceEl P t = some (e, k)) : P.underlying t = some (.slice e) ∧ tsize P e = some k ∧ 0 < k := by
  unfold sliceEl at h
  split at h
  · rename_i e' hu
    split at h
    · rename_i k' hk
      split at h
      · rename_i h0; cases h; exact ⟨hu, hk, h0⟩
      · cases h
    · cases h
  · cases h

section
variable (hI : Inv U w Pr σ γ) (hG : GOk G w Pr) {T : Tm} {a : Act} (hT : TOk w Pr σ γ ls T a.tmps) {o : Oper} {s : Nat} {r : AV}
include hI hG hT

theorem op_buildSl {t e : TypeId} {n k : Nat} {zero : List AV} {ps : Array (Nat × Operand)} {l : List (Nat × Opd)} {grows : Bool} (hop : o.op = .buildSlice t n ps) (ht : sliceEl P t = some (e, k)) (hp : slParts G ps.toList = some l) (hz : zeroL P e = some zero) (hn : n * k ≤ 16777216)
    (h : aop (.buildSl e k zero n l grows) s T σ = some (r, σ')) : OpRes P U ls w Pr σ γ o a r σ' := by
  obtain ⟨hu, hsz, hk⟩ := sliceEl_inv ht
  obtain ⟨i, z, hi, hzz, hc, hzl⟩ := zeroL_inv hz
  have hik : i.size = k := by unfold tsize at hsz; rw [hi] at hsz; simpa using hsz
  obtain ⟨hr, h1⟩ := const1L_rep (w := w) (Pr := Pr) (σ := σ) (γ := γ) hc
  have hzs : z.cells.size = k := by have := hr.1; rw [Array.length_toList, hzl, hik] at this; exact this
  have hrk : ∀ r ∈ List.replicate n zero, r.length = k := fun r hr => by rw [List.eq_of_mem_replicate hr, hzl, hik]
  simp only [aop] at h
  split at h
  · rename_i rows bs hf
    obtain ⟨arr0, he0, ha0⟩ : ∃ arr0 : Array Value, arr0 = (Array.range (n * k)).map (fun j => z.cells[j % z.cells.size]!) ∧ arr0.toList = (List.replicate n z.cells.toList).flatten := ⟨_, rfl, range_rep hk hzs n⟩
    have hR0 : RepL w Pr σ γ (List.replicate n zero).flatten arr0.toList := by rw [ha0]; exact hr.replicate n
    have h10 : ∀ u ∈ arr0.toList, u.oneCell' = true := fun u hu => by
      rw [ha0] at hu
      obtain ⟨l', hl', hu'⟩ := List.mem_flatten.1 hu
      rw [List.eq_of_mem_replicate hl'] at hu'; exact h1 u hu'
    obtain ⟨Pr1, arr', h3, h4, h5, h6, h7, h8, h9, h11, h12⟩ := fillRows_rep (T := T) (a := a) hG hI hT hp hf hR0 h10 hrk
    have hlen : rows.length = n := by rw [h11]; simp
    -- the model's run
    have hrun : (execOp a.eval o).run P w = .ok (.value (.slice (some ⟨w.heap.size, 0, none⟩) n n)) (w.alloc (.cells arr' e)) := by
      have hfill : Instr.fill (fun i => some (i * k, k)) arr0 (ps.map fun (i, x) => (i, a.eval x)).toList = some arr' := by rw [Array.toList_map]; exact h6
      unfold execOp
      simp only [hop, Sem.run_bind]
      have hb : (Instr.buildSlice t n (ps.map fun (i, x) => (i, a.eval x))).run P w = .ok (.slice (some ⟨w.heap.size, 0, none⟩) n n) (w.alloc (.cells arr' e)) := by
        have h24 : ¬ (n * k > 2 ^ 24) := by omega
        by_cases hn0 : n * k = 0
        · have : arr0 = #[] := by rw [he0, hn0]; simp
          rw [this] at hfill
          have hmp : ∀ f : Nat → Value, (Array.range 0).map f = #[] := fun f => by simp
          simp only [Instr.buildSlice, Sem.run_bind, run_underlying hu, Result.andThen_ok, run_sizeOf' hsz, hn0, show ¬ ((0 : Nat) > 2 ^ 24) from by decide, if_false, if_true, Sem.run_pure, hmp, hfill]
          rfl
        · simp only [Instr.buildSlice, Sem.run_bind, run_underlying hu, Result.andThen_ok, run_sizeOf' hsz, h24, if_false, hn0, zeroValue, typeInfo, run_program, hi, hzz, Sem.run_pure, Sem.run_map, ← he0, hfill]
          rfl
      rw [hb]; rfl
    split at h
    case isFalse => cases h
    rename_i hdd
    have hdd : dataL rows.flatten = true := by
      unfold dataL; rw [List.all_flatten]; exact hdd
    have hvs : arr'.toList.length = n * k := by rw [h7.1, flatten_length _ h9, hlen]
    split at h
    · obtain ⟨bs', hn', he⟩ := Option.map_eq_some_iff.1 h
      cases he
      obtain ⟨hd, rfl⟩ := newAt_inv hn'
      have hls := (List.getElem?_eq_some_iff.1 hd).1
      have hE := Evo.alloc (ls := []) (Pr := Pr1) h3.new (.cells arr' e)
      have hV : LstV (w.alloc (.cells arr' e)) e k (.slice (some ⟨w.heap.size, 0, none⟩) n n) rows.length arr'.toList := by
        refine ⟨by rw [hvs, hlen], ?_⟩
        cases n with
        | zero => exact .inl ⟨hlen, _, rfl⟩
        | succ m =>
          refine .inr ⟨w.heap.size, m, arr', by rw [hlen], World.alloc_heap_new w _, by omega, ?_, by rw [← Array.length_toList, hvs], ?_⟩
          · have : m + 1 ≤ (m + 1) * k := Nat.le_mul_of_pos_right _ hk
            unfold maxLen; omega
          · rw [hlen, List.take_of_length_le (by rw [hvs]; exact Nat.le_refl _)]
      obtain ⟨h13, h14⟩ := h3.newLst hd hE (fun b hb => alloc_old w _ hb) e k rows (.slice (some ⟨w.heap.size, 0, none⟩) n n) arr'.toList hk h9 hdd hV h7 h8 (fun b hb => by
        cases n with
        | zero => cases hb
        | succ m => cases hb; exact Nat.le_refl _)
      refine ⟨_, _, _, Pr1, _, hrun, .inl rfl, ?_, h13, h4.trans h14, h5.trans hE⟩
      refine .lis s 0 n 0 0 e k rows ⟨0, .slice (some ⟨w.heap.size, 0, none⟩) n n⟩ _ (List.getElem?_set_self hls) (List.getElem?_set_self (by rw [h3.len]; exact hls)) (by omega) ?_
      exact ⟨_, _, _, rfl, .inl ⟨rfl, rfl, Nat.le_refl _, fun _ => ⟨_, rfl⟩⟩⟩
    · cases h
      obtain ⟨Pr2, h13, h14, h15⟩ := h3.newRo (.cells arr' e) (n * k)
      refine ⟨_, _, _, Pr2, γ, hrun, .inl rfl, ?_, h13, h4, h5.trans h14⟩
      have hr7 := h7.mono h14.stays (Keeps.refl _ _) (fun _ _ h => h)
      have : Rep (w.alloc (.cells arr' e)) Pr2 σ' γ ls (.ro rows) (.slice (some ⟨w.heap.size, 0, none⟩) rows.length rows.length) := by
        refine .ro rows w.heap.size 0 k rows.length arr'.toList hk h9 (Nat.le_refl _) (by rw [hvs, hlen]) (fun i v hv => ⟨?_, ?_⟩) hdd hr7.2
        · rw [Nat.zero_add]; exact h15 i (by rw [← hvs]; exact (List.getElem?_eq_some_iff.1 hv).1)
        · exact range_cells (World.alloc_heap_new w _) i v hv
      have h16 := Rep.clip (ls := ls) rows _ (this.base rfl)
      rw [hlen] at h16; exact h16
  · cases h
end
end Go.Proofs.YtgajekpigkknnaaDoor.A
