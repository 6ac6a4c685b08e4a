/- Part 3 of the proofs of these statements. No condition. -/
import Derived.Test.YtgajekpigkknnaaDoorM2
import Derived.IntWalk
set_option linter.unusedVariables false
set_option linter.unusedSimpArgs false
/- The machine's steps, one for each operation: for rewriting. No condition. -/
namespace Go.Proofs.YtgajekpigkknnaaDoor.A
open Go

def unfresh : AV → Option AV
  | .fresh _ _ _ => none
  | a => some a
def pickV (c a b : AV) : Option AV := match c with
  | .bool true => some a
  | .bool false => some b
  | _ => none
def eqbV (neg : Bool) (a b : AV) : Option AV := match a, b with
  | .bool a, .bool b => some (.bool (if neg then !(a == b) else a == b))
  | _, _ => none
def notV : AV → Option AV
  | .bool b => some (.bool (!b))
  | _ => none
def negV : AV → Option AV
  | .int k a => some (.int k (k.wrap (0 - a)))
  | _ => none
def convV (k : IntKind) : AV → Option AV
  | .int _ a => some (.int k (k.wrap a))
  | _ => none
def faddrV (off : Nat) : AV → Option AV
  | .ptr id gen row o => some (.ptr id gen row (o + off))
  | .rp row o => some (.rp row (o + off))
  | .rq row o => some (.rq row (o + off))
  | _ => none
def fldV (off k : Nat) (agg : Bool) : AV → Option AV
  | .agg cs => (piece cs off k).bind (asVal agg)
  | _ => none
def idxV (k : Nat) (agg : Bool) (m : Nat) (i x : AV) : Option AV := match i, x with
  | .int _ n, .agg cs => if 0 ≤ n ∧ n < m then (piece cs (n.toNat * k) k).bind (asVal agg) else none
  | _, _ => none
def eqaggV (neg : Bool) (ks : List Nat) (x y : AV) : Option AV := match x, y with
  | .agg a, .agg b => (eqCells ks a b).map fun c => .bool (if neg then !c else c)
  | _, _ => none
def iaddrV (bs : List Blk) (k : Nat) (arr : Option Nat) (x i : AV) : Option AV := match i with
  | .int _ n => if 0 ≤ n then match arr with
    | some m => if n < m then match x with
      | .ptr id gen row o => some (.ptr id gen row (o + n.toNat * k))
      | .rp row o => some (.rp row (o + n.toNat * k))
      | .rq row o => some (.rq row (o + n.toNat * k))
      | _ => none else none
    | none => match x with
      | .ro rows | .clip rows => match rows[n.toNat]? with
        | some r => if r.length = k then some (.rp r 0) else none
        | none => none
      | .refs rows => match rows[n.toNat]? with
        | some r => if r.length = k then some (.rq r 0) else none
        | none => none
      | .lis id gen off len => if n.toNat < len ∧ lisFits bs id k = true then some (.ptr id gen (off + n.toNat) 0) else none
      | _ => none
    else none
  | _ => none
def isnilV (neg : Bool) (x : AV) : Option AV := match lenOf x with
  | some (_ + 1) => some (.bool neg)
  | _ => none
def pnilV (neg : Bool) : AV → Option AV
  | .nilp => some (.bool (!neg))
  | .ptr _ _ _ _ => some (.bool neg)
  | .rp _ _ => some (.bool neg)
  | .rq _ _ => some (.bool neg)
  | _ => none
def nilckV : AV → Option AV
  | .ptr a b c d => some (.ptr a b c d)
  | .rp a b => some (.rp a b)
  | .rq a b => some (.rq a b)
  | _ => none
def cloV (f : FuncId) (vs : List AV) : Option AV := if vs.any AV.isYld then none else some (.clo f vs)
def extrV (i : Nat) : AV → Option AV
  | .tup vs => match vs[i]? with
    | some a => unfresh a
    | none => none
  | _ => none
def slenV : AV → Option AV
  | .str b => some (.int .i64 b.size)
  | _ => none
def minV (mx : Bool) (ys : List AV) : AV → Option AV
  | .int k a => aminmax mx k a ys
  | _ => none
def sidxV (i x : AV) : Option AV := match i, x with
  | .int _ n, .str b => if 0 ≤ n then match b[n.toNat]? with
    | some c => some (.int .u8 c.toNat)
    | none => none else none
  | _, _ => none

section
variable {β : Type} {E : Env} {ys : List Hd} {Z : AExit → Tm → Hp → Option β} {T : Tm} {hp : Hp} {K : List Fr} {base : Nat} {q : Bool} {pairs : List (Opd × Opd × Nat)} {d : Option Nat} {s : Nat} {l : List AInstr} {x y : Opd}
theorem V_some {a : AV} : V E ys Z q base pairs d (some a) l T hp K = O E ys Z q base pairs l (putD T d a) hp K := rfl
theorem VB_some {a : AV} {bs : List Blk} {pend : List (Option AExit)} : VB E ys Z q base pairs d (some (a, bs)) l T pend K = O E ys Z q base pairs l (putD T d a) ⟨bs, pend⟩ K := rfl
theorem VS_some {bs : List Blk} {pend : List (Option AExit)} : VS E ys Z q base pairs d (some bs) l T pend K = O E ys Z q base pairs l (putD T d (.tup [])) ⟨bs, pend⟩ K := rfl
theorem VR_some {a : AV} {hp' : Hp} : VR E ys Z q base pairs d (some (a, hp')) l T K = O E ys Z q base pairs l (putD T d a) hp' K := rfl
theorem putD_some {n : Nat} {a : AV} : putD T (some n) a = (n, a) :: T := rfl
theorem putD_none {a : AV} : putD T none a = T := rfl
theorem VV {op : AOp} {v : Option AV} (h : aop op (base + s) T hp.bs = v.map (·, hp.bs)) (hv : ∀ f l k, op ≠ .callV f l k) (hr : ∀ f l k, op ≠ .callR f l k) (hq : quietOk T op = true) : O E ys Z q base pairs (⟨d, op, none, s⟩ :: l) T hp K = V E ys Z q base pairs d v l T hp K := by
  rw [O_cons hv hr hq, h]
  cases v <;> rfl
theorem O_mv : O E ys Z q base pairs (⟨d, .mv x, none, s⟩ :: l) T hp K = V E ys Z q base pairs d (unfresh (x.ev T)) l T hp K :=
  VV (by simp only [aop]; cases x.ev T <;> rfl) nofun nofun rfl
theorem O_pick {c : Opd} : O E ys Z q base pairs (⟨d, .pick c x y, none, s⟩ :: l) T hp K = V E ys Z q base pairs d (pickV (c.ev T) (x.ev T) (y.ev T)) l T hp K :=
  VV (by
    simp only [aop, pickV]
    cases c.ev T with
    | bool b => cases b <;> rfl
    | _ => rfl) nofun nofun rfl
theorem O_bin {op : BinOp} : O E ys Z q base pairs (⟨d, .bin op x y, none, s⟩ :: l) T hp K = V E ys Z q base pairs d (abin op (x.ev T) (y.ev T)) l T hp K := VV rfl nofun nofun rfl
theorem O_eqb {neg : Bool} : O E ys Z q base pairs (⟨d, .eqb neg x y, none, s⟩ :: l) T hp K = V E ys Z q base pairs d (eqbV neg (x.ev T) (y.ev T)) l T hp K :=
  VV (by simp only [aop, eqbV]; cases x.ev T <;> cases y.ev T <;> rfl) nofun nofun rfl
theorem O_not : O E ys Z q base pairs (⟨d, .not x, none, s⟩ :: l) T hp K = V E ys Z q base pairs d (notV (x.ev T)) l T hp K := VV (by simp only [aop]; cases x.ev T <;> rfl) nofun nofun rfl
theorem O_neg : O E ys Z q base pairs (⟨d, .neg x, none, s⟩ :: l) T hp K = V E ys Z q base pairs d (negV (x.ev T)) l T hp K := VV (by simp only [aop]; cases x.ev T <;> rfl) nofun nofun rfl
theorem O_conv {k : IntKind} : O E ys Z q base pairs (⟨d, .conv k x, none, s⟩ :: l) T hp K = V E ys Z q base pairs d (convV k (x.ev T)) l T hp K := VV (by simp only [aop]; cases x.ev T <;> rfl) nofun nofun rfl
theorem O_load {k : Nat} {agg : Bool} : O E ys Z q base pairs (⟨d, .load k agg x, none, s⟩ :: l) T hp K = V E ys Z q base pairs d ((rdPtr hp.bs (x.ev T) k).bind (asVal agg)) l T hp K :=
  VV (by simp only [aop]; cases rdPtr hp.bs (x.ev T) k <;> rfl) nofun nofun rfl
theorem O_store {k : Nat} : O E ys Z q base pairs (⟨d, .store k x y, none, s⟩ :: l) T hp K = VS E ys Z q base pairs d ((y.ev T).cells.bind fun cs => if cs.length = k then wrPtr hp.bs (x.ev T) cs else none) l T hp.pend K := by
  rw [O_cons (by nofun) (by nofun) rfl]
  unfold VB VS
  simp only [aop]
  cases (y.ev T).cells with
  | none => rfl
  | some cs =>
    dsimp only [Option.bind_some]
    split
    · cases wrPtr hp.bs (x.ev T) cs <;> rfl
    · rfl
theorem O_storeF {k : Nat} : O E ys Z q base pairs (⟨d, .storeF k x y, none, s⟩ :: l) T hp K = VS E ys Z q base pairs d ((y.ev T).cells.bind fun cs => if cs.length = k then (toDataL hp.bs cs).bind fun r => wrPtr r.2 (x.ev T) r.1 else none) l T hp.pend K := by
  rw [O_cons (by nofun) (by nofun) rfl]
  unfold VB VS
  simp only [aop]
  cases (y.ev T).cells with
  | none => rfl
  | some cs =>
    dsimp only [Option.bind_some]
    split
    · cases toDataL hp.bs cs with
      | none => rfl
      | some r => dsimp only [Option.bind_some]; cases wrPtr r.2 (x.ev T) r.1 <;> rfl
    · rfl
theorem O_faddr {off : Nat} : O E ys Z q base pairs (⟨d, .faddr off x, none, s⟩ :: l) T hp K = V E ys Z q base pairs d (faddrV off (x.ev T)) l T hp K := VV (by simp only [aop]; cases x.ev T <;> rfl) nofun nofun rfl
theorem O_fld {off k : Nat} {agg : Bool} : O E ys Z q base pairs (⟨d, .fld off k agg x, none, s⟩ :: l) T hp K = V E ys Z q base pairs d (fldV off k agg (x.ev T)) l T hp K :=
  VV (by
    simp only [aop]
    cases x.ev T with
    | agg cs => simp only [fldV]; cases piece cs off k <;> rfl
    | _ => rfl) nofun nofun rfl
theorem O_idx {k n : Nat} {agg : Bool} : O E ys Z q base pairs (⟨d, .idx k agg n x y, none, s⟩ :: l) T hp K = V E ys Z q base pairs d (idxV k agg n (y.ev T) (x.ev T)) l T hp K :=
  VV (by
    simp only [aop]
    cases y.ev T with
    | int k' m => cases x.ev T with
      | agg cs =>
        simp only [idxV]
        split
        · cases piece cs (m.toNat * k) k <;> rfl
        · rfl
      | _ => rfl
    | _ => cases x.ev T <;> rfl) nofun nofun rfl
theorem O_eqagg {neg : Bool} {ks : List Nat} : O E ys Z q base pairs (⟨d, .eqagg neg ks x y, none, s⟩ :: l) T hp K = V E ys Z q base pairs d (eqaggV neg ks (x.ev T) (y.ev T)) l T hp K :=
  VV (by
    simp only [aop]
    cases x.ev T with
    | agg a => cases y.ev T with
      | agg b => simp only [eqaggV]; cases eqCells ks a b <;> rfl
      | _ => rfl
    | _ => cases y.ev T <;> rfl) nofun nofun rfl
theorem O_iaddr {k : Nat} {arr : Option Nat} : O E ys Z q base pairs (⟨d, .iaddr k arr x y, none, s⟩ :: l) T hp K = V E ys Z q base pairs d (iaddrV hp.bs k arr (x.ev T) (y.ev T)) l T hp K :=
  VV (by
    simp only [aop]
    cases y.ev T with
    | int k' m =>
      simp only [iaddrV]
      split
      · cases arr with
        | some n =>
          dsimp only
          split
          · cases x.ev T <;> rfl
          · rfl
        | none => cases x.ev T with
          | ro rows => dsimp only; cases rows[m.toNat]? with
            | none => rfl
            | some r => dsimp only; split <;> rfl
          | clip rows => dsimp only; cases rows[m.toNat]? with
            | none => rfl
            | some r => dsimp only; split <;> rfl
          | refs rows => dsimp only; cases rows[m.toNat]? with
            | none => rfl
            | some r => dsimp only; split <;> rfl
          | lis id gen off len => dsimp only; split <;> rfl
          | _ => rfl
      · rfl
    | _ => rfl) nofun nofun rfl
theorem O_isnil {neg : Bool} : O E ys Z q base pairs (⟨d, .isnil neg x, none, s⟩ :: l) T hp K = V E ys Z q base pairs d (isnilV neg (x.ev T)) l T hp K :=
  VV (by
    simp only [aop, isnilV]
    cases lenOf (x.ev T) with
    | none => rfl
    | some n => cases n <;> rfl) nofun nofun rfl
theorem O_pnil {neg : Bool} : O E ys Z q base pairs (⟨d, .pnil neg x, none, s⟩ :: l) T hp K = V E ys Z q base pairs d (pnilV neg (x.ev T)) l T hp K := VV (by simp only [aop]; cases x.ev T <;> rfl) nofun nofun rfl
theorem O_nilck : O E ys Z q base pairs (⟨d, .nilck x, none, s⟩ :: l) T hp K = V E ys Z q base pairs d (nilckV (x.ev T)) l T hp K := VV (by simp only [aop]; cases x.ev T <;> rfl) nofun nofun rfl
theorem O_clo {f : FuncId} {caps : List Opd} : O E ys Z q base pairs (⟨d, .clo f caps, none, s⟩ :: l) T hp K = V E ys Z q base pairs d (cloV f (caps.map (·.ev T))) l T hp K :=
  VV (by simp only [aop, cloV]; split <;> rfl) nofun nofun rfl
theorem O_slice {k : Nat} {lo hi mx : Option Opd} : O E ys Z q base pairs (⟨d, .slice k x lo hi mx, none, s⟩ :: l) T hp K = V E ys Z q base pairs d (aslice T hp.bs k (x.ev T) lo hi mx) l T hp K := VV rfl nofun nofun rfl
theorem O_sslice {lo hi : Option Opd} : O E ys Z q base pairs (⟨d, .sslice x lo hi, none, s⟩ :: l) T hp K = V E ys Z q base pairs d (asslice T (x.ev T) lo hi) l T hp K := VV rfl nofun nofun rfl
theorem O_extr {i : Nat} : O E ys Z q base pairs (⟨d, .extr x i, none, s⟩ :: l) T hp K = V E ys Z q base pairs d (extrV i (x.ev T)) l T hp K :=
  VV (by
    simp only [aop]
    cases x.ev T with
    | tup vs => simp only [extrV]; cases vs[i]? with
      | none => rfl
      | some a => cases a <;> rfl
    | _ => rfl) nofun nofun rfl
theorem O_len : O E ys Z q base pairs (⟨d, .len x, none, s⟩ :: l) T hp K = V E ys Z q base pairs d ((lenOf (x.ev T)).map fun n : Nat => AV.int .i64 (n : Int)) l T hp K :=
  VV (by simp only [aop]; cases lenOf (x.ev T) <;> rfl) nofun nofun rfl
theorem O_slen : O E ys Z q base pairs (⟨d, .slen x, none, s⟩ :: l) T hp K = V E ys Z q base pairs d (slenV (x.ev T)) l T hp K := VV (by simp only [aop]; cases x.ev T <;> rfl) nofun nofun rfl
theorem O_lenc {n : Nat} : O E ys Z q base pairs (⟨d, .lenc n, none, s⟩ :: l) T hp K = V E ys Z q base pairs d (some (.int .i64 n)) l T hp K := VV rfl nofun nofun rfl
theorem O_min {zs : List Opd} : O E ys Z q base pairs (⟨d, .min x zs, none, s⟩ :: l) T hp K = V E ys Z q base pairs d (minV false (zs.map (·.ev T)) (x.ev T)) l T hp K := VV (by simp only [aop]; cases x.ev T <;> rfl) nofun nofun rfl
theorem O_max {zs : List Opd} : O E ys Z q base pairs (⟨d, .max x zs, none, s⟩ :: l) T hp K = V E ys Z q base pairs d (minV true (zs.map (·.ev T)) (x.ev T)) l T hp K := VV (by simp only [aop]; cases x.ev T <;> rfl) nofun nofun rfl
theorem O_sidx : O E ys Z q base pairs (⟨d, .sidx x y, none, s⟩ :: l) T hp K = V E ys Z q base pairs d (sidxV (y.ev T) (x.ev T)) l T hp K :=
  VV (by
    simp only [aop]
    cases y.ev T with
    | int k n => cases x.ev T with
      | str b =>
        simp only [sidxV]
        split
        · cases b[n.toNat]? <;> rfl
        · rfl
      | _ => rfl
    | _ => cases x.ev T <;> rfl) nofun nofun rfl
theorem O_buildRf {e : TypeId} {k n : Nat} {zero : List AV} {parts : List (Nat × Opd)} : O E ys Z q base pairs (⟨d, .buildRf e k zero n parts, none, s⟩ :: l) T hp K = V E ys Z q base pairs d ((fillRf T k parts (List.replicate n zero)).map .refs) l T hp K :=
  VV (by simp only [aop]; cases fillRf T k parts (List.replicate n zero) <;> rfl) nofun nofun rfl
def boxYV (a : AV) : Option AV := match a with
  | .yld d => some (.yp d)
  | _ => none
def loadYV (a : AV) : Option AV := match a with
  | .yp d => some (.yld d)
  | _ => none
theorem boxY_yld {n : Nat} : boxYV (.yld n) = some (.yp n) := rfl
theorem loadY_yp {n : Nat} : loadYV (.yp n) = some (.yld n) := rfl
theorem O_boxY : O E ys Z q base pairs (⟨d, .boxY x, none, s⟩ :: l) T hp K = V E ys Z q base pairs d (boxYV (x.ev T)) l T hp K :=
  VV (by simp only [aop]; cases x.ev T <;> rfl) nofun nofun rfl
theorem O_loadY : O E ys Z q base pairs (⟨d, .loadY x, none, s⟩ :: l) T hp K = V E ys Z q base pairs d (loadYV (x.ev T)) l T hp K :=
  VV (by simp only [aop]; cases x.ev T <;> rfl) nofun nofun rfl
theorem O_strof : O E ys Z q base pairs (⟨d, .strof x, none, s⟩ :: l) T hp K = V E ys Z q base pairs d ((rowsOf hp.bs (x.ev T)).bind fun rows => (bytesOf rows).map fun l => .str ⟨l.toArray⟩) l T hp K :=
  VV (by
    simp only [aop]
    cases rowsOf hp.bs (x.ev T) with
    | none => rfl
    | some rows => dsimp only [Option.bind_some]; cases bytesOf rows <;> rfl) nofun nofun rfl
theorem O_mk {e : TypeId} {k b : Nat} {zero : List AV} : O E ys Z q base pairs (⟨d, .mk e k b zero x y, none, s⟩ :: l) T hp K = VB E ys Z q base pairs d (aop (.mk e k b zero x y) (base + s) T hp.bs) l T hp.pend K := O_cons nofun nofun rfl
theorem O_sliceL {md k : Nat} {lo hi mx : Option Opd} : O E ys Z q base pairs (⟨d, .sliceL md k x lo hi mx, none, s⟩ :: l) T hp K = VB E ys Z q base pairs d (asliceL T hp.bs md k (x.ev T) lo hi mx) l T hp.pend K := O_cons nofun nofun rfl
theorem O_appIn {e k : Nat} : O E ys Z q base pairs (⟨d, .appIn e k x y, none, s⟩ :: l) T hp K = VB E ys Z q base pairs d ((rowsOf hp.bs (y.ev T)).bind fun zs => if headFits k zs then aappIn e k hp.bs (x.ev T) zs else none) l T hp.pend K := by
  refine (O_cons (op := .appIn e k x y) nofun nofun rfl).trans ?_
  simp only [aop]; cases rowsOf hp.bs (y.ev T) <;> rfl
theorem O_newl {e : TypeId} {k : Nat} : O E ys Z q base pairs (⟨d, .newl e k, none, s⟩ :: l) T hp K = VB E ys Z q base pairs d ((newAt hp.bs (base + s) (.lst 0 0 e k [])).map fun bs' => (.lis (base + s) 0 0 0, bs')) l T hp.pend K := O_cons nofun nofun rfl
theorem O_allocL {e : TypeId} {zero : List AV} {ls : List (Nat × TypeId × Nat)} : O E ys Z q base pairs (⟨d, .alloc e zero ls, none, s⟩ :: l) T hp K = VB E ys Z q base pairs d ((growLists (base + s + 1) ls zero hp.bs).bind fun p => (newAt p.2 (base + s) (.box 0 e p.1)).map fun bs' => (.ptr (base + s) 0 0 0, bs')) l T hp.pend K := by
  rw [O_cons (by nofun) (by nofun) rfl]
  simp only [aop]
  cases growLists (base + s + 1) ls zero hp.bs <;> rfl
theorem O_boxL {e : TypeId} {k : Nat} {ls : List (Nat × TypeId × Nat)} : O E ys Z q base pairs (⟨d, .box e k x ls, none, s⟩ :: l) T hp K = VB E ys Z q base pairs d ((x.ev T).cells.bind fun cs => if cs.length = k then (growLists (base + s + 1) ls cs hp.bs).bind fun p => (newAt p.2 (base + s) (.box 0 e p.1)).map fun bs' => (.ptr (base + s) 0 0 0, bs') else none) l T hp.pend K := by
  rw [O_cons (by nofun) (by nofun) rfl]
  simp only [aop]
  cases (x.ev T).cells with
  | none => rfl
  | some cs =>
    simp only [Option.bind_some]
    split
    · cases growLists (base + s + 1) ls cs hp.bs <;> rfl
    · rfl
theorem O_buildL {zero : List AV} {parts : List (Nat × Nat × Opd)} {ls : List (Nat × TypeId × Nat)} : O E ys Z q base pairs (⟨d, .build zero parts ls, none, s⟩ :: l) T hp K = VB E ys Z q base pairs d ((fillCells T parts zero).bind fun row => (growLists (base + s) ls row hp.bs).map fun p => (.agg p.1, p.2)) l T hp.pend K := by
  rw [O_cons (by nofun) (by nofun) rfl]
  simp only [aop]
  cases fillCells T parts zero with
  | none => rfl
  | some row => simp only [Option.bind_some]; cases growLists (base + s) ls row hp.bs <;> rfl
theorem O_buildSl {e : TypeId} {k n : Nat} {zero : List AV} {parts : List (Nat × Opd)} {g : Bool} : O E ys Z false base pairs (⟨d, .buildSl e k zero n parts g, none, s⟩ :: l) T hp K = VB E ys Z false base pairs d (aop (.buildSl e k zero n parts g) (base + s) T hp.bs) l T hp.pend K := by
  unfold O VB
  simp only [aops, ainstr, guardOf, aexec, Bool.false_and, Bool.false_eq_true, if_false]
  cases aop (.buildSl e k zero n parts g) (base + s) T hp.bs <;> rfl
theorem O_buildSlq {e : TypeId} {k n : Nat} {zero : List AV} {parts : List (Nat × Opd)} {g : Bool} (hq : quietOk T (.buildSl e k zero n parts g) = true) : O E ys Z q base pairs (⟨d, .buildSl e k zero n parts g, none, s⟩ :: l) T hp K = VB E ys Z q base pairs d (aop (.buildSl e k zero n parts g) (base + s) T hp.bs) l T hp.pend K := O_cons nofun nofun hq
theorem aop_buildSl {e : TypeId} {k n : Nat} {zero : List AV} {parts : List (Nat × Opd)} {grows : Bool} {bs : List Blk} : aop (.buildSl e k zero n parts grows) s T bs = (fillRows T k parts (List.replicate n zero) bs).bind fun p => if p.1.all dataL then (if grows then (newAt p.2 s (.lst 0 0 e k p.1)).map fun bs'' => (.lis s 0 0 n, bs'') else some (.clip p.1, p.2)) else none := by
  simp only [aop]
  cases fillRows T k parts (List.replicate n zero) bs <;> rfl
theorem O_buildSlF {e : TypeId} {k n : Nat} {zero : List AV} {parts : List (Nat × Opd)} : O E ys Z q base pairs (⟨d, .buildSlF e k zero n parts, none, s⟩ :: l) T hp K = VB E ys Z q base pairs d ((fillRows T k parts (List.replicate n zero) hp.bs).bind fun p => if p.1.all dataL then some (.clip p.1, p.2) else none) l T hp.pend K := by
  rw [O_cons (by nofun) (by nofun) rfl]
  simp only [aop]
  cases fillRows T k parts (List.replicate n zero) hp.bs <;> rfl
theorem O_slarr {k n : Nat} {lo hi : Option Opd} : O E ys Z q base pairs (⟨d, .slarr k n x lo hi, none, s⟩ :: l) T hp K = VB E ys Z q base pairs d (aop (.slarr k n x lo hi) (base + s) T hp.bs) l T hp.pend K := O_cons nofun nofun rfl
theorem O_append {e k b : Nat} : O E ys Z q base pairs (⟨d, .append e k b x y, none, s⟩ :: l) T hp K = VB E ys Z q base pairs d ((rowsOf hp.bs (y.ev T)).bind fun zs => if headFits k zs then aappend (base + s) e k b hp.bs (x.ev T) zs else none) l T hp.pend K := by
  rw [O_cons (by nofun) (by nofun) rfl]
  simp only [aop]
  cases rowsOf hp.bs (y.ev T) <;> rfl
theorem O_copy {k : Nat} : O E ys Z q base pairs (⟨d, .copy k x y, none, s⟩ :: l) T hp K = VB E ys Z q base pairs d (aop (.copy k x y) (base + s) T hp.bs) l T hp.pend K := O_cons nofun nofun rfl
theorem O_clear {zero : List AV} : O E ys Z q base pairs (⟨d, .clear zero x, none, s⟩ :: l) T hp K = VB E ys Z q base pairs d (aop (.clear zero x) (base + s) T hp.bs) l T hp.pend K := O_cons nofun nofun rfl
theorem O_callVk {f : FuncId} {args : List Opd} {keeps : Nat} (h2 : keeps ≠ 2) : O E ys Z q base pairs (⟨d, .callV f args keeps, none, s⟩ :: l) T hp K = CV E ys Z f ((args.map (·.ev T)).mapM (snap hp.bs)) (argIds (args.map (·.ev T))) (keeps != 0) q base pairs d (base + s) l T hp K := by
  unfold O CV
  simp only [aops, ainstr, guardOf, aexec]
  cases (args.map (·.ev T)).mapM (snap hp.bs) with
  | none => rfl
  | some vs =>
    simp only [Option.bind_some]
    cases LV E f vs with
    | none => rfl
    | some r =>
      simp only [Option.bind_some]
      unfold VB
      rw [if_neg (fun k => h2 k.1)]
      by_cases h1 : argIds (args.map (·.ev T)) = [] ∨ scalar r = true
      · rw [if_pos h1, if_pos h1]
        cases takeRes (keeps != 0) (base + s) r hp.bs <;> rfl
      · rw [if_neg h1, if_neg h1]
        cases q
        · simp only [Bool.false_eq_true, if_false]
          cases takeRes (keeps != 0) (base + s) r (lockAll (argIds (args.map (·.ev T))) hp.bs) <;> rfl
        · rfl
theorem O_callV0 {f : FuncId} {args : List Opd} : O E ys Z q base pairs (⟨d, .callV f args 0, none, s⟩ :: l) T hp K = CV E ys Z f ((args.map (·.ev T)).mapM (snap hp.bs)) (argIds (args.map (·.ev T))) false q base pairs d (base + s) l T hp K := O_callVk (by decide)
theorem O_callV1 {f : FuncId} {args : List Opd} : O E ys Z q base pairs (⟨d, .callV f args 1, none, s⟩ :: l) T hp K = CV E ys Z f ((args.map (·.ev T)).mapM (snap hp.bs)) (argIds (args.map (·.ev T))) true q base pairs d (base + s) l T hp K := O_callVk (by decide)
theorem O_callV2 {f : FuncId} {args : List Opd} : O E ys Z q base pairs (⟨d, .callV f args 2, none, s⟩ :: l) T hp K = CVX E ys Z f ((args.map (·.ev T)).mapM (snap hp.bs)) (argIds (args.map (·.ev T))) q base pairs d (base + s) l T hp K := by
  unfold O CVX CX
  simp only [aops, ainstr, guardOf, aexec]
  cases (args.map (·.ev T)).mapM (snap hp.bs) with
  | none => rfl
  | some vs =>
    simp only [Option.bind_some]
    cases LV E f vs with
    | none => rfl
    | some r =>
      simp only [Option.bind_some, CW]
      by_cases h0 : argIds (args.map (·.ev T)) = [] ∧ r.isFresh = true
      · rw [if_neg (fun k => k.2 h0), if_pos h0, if_pos (.inl h0.1), if_pos (.inl h0.1)]
        unfold VB
        rw [show ((2 : Nat) != 0) = true from rfl]
        cases takeRes true (base + s) r hp.bs <;> rfl
      · rw [if_pos ⟨trivial, h0⟩, if_neg h0]; rfl
theorem CVX_some {f : FuncId} {vs : List AV} {ids : List Nat} : CVX E ys Z f (some vs) ids q base pairs d s l T hp K = CX E ys Z (LV E f vs) ids q base pairs d s l T hp K := rfl
theorem CX_fresh {e k : Nat} {rows : List (List AV)} : CX E ys Z (some (.fresh e k rows)) [] q base pairs d s l T hp K = CW E ys Z (some (.fresh e k rows)) [] true q base pairs d s l T hp K := by
  unfold CX; simp [AV.isFresh]
theorem CX_aggf {e k : Nat} {rows : List (List AV)} : CX E ys Z (some (.agg [.fresh e k rows])) [] q base pairs d s l T hp K = CW E ys Z (some (.agg [.fresh e k rows])) [] true q base pairs d s l T hp K := by
  unfold CX; simp [AV.isFresh]
theorem CV_some {f : FuncId} {vs : List AV} {ids : List Nat} {keeps : Bool} : CV E ys Z f (some vs) ids keeps q base pairs d s l T hp K = CW E ys Z (LV E f vs) ids keeps q base pairs d s l T hp K := rfl
theorem CW_some {r : AV} {ids : List Nat} {keeps : Bool} : CW E ys Z (some r) ids keeps q base pairs d s l T hp K = VB E ys Z q base pairs d (if ids = [] ∨ scalar r then takeRes keeps s r hp.bs else if q then none else takeRes keeps s r (lockAll ids hp.bs)) l T hp.pend K := rfl
theorem CW_some_nil {r : AV} {keeps : Bool} : CW E ys Z (some r) [] keeps q base pairs d s l T hp K = VB E ys Z q base pairs d (takeRes keeps s r hp.bs) l T hp.pend K := by
  rw [CW_some, if_pos (Or.inl rfl)]
theorem O_callR {f : Opd} {args : List Opd} {keeps : Nat} : O E ys Z q base pairs (⟨d, .callR f args keeps, none, s⟩ :: l) T hp K = CR E ys Z (f.ev T) (args.map (·.ev T)) keeps q base pairs d l T hp K := by
  unfold O CR
  simp only [aops, ainstr, guardOf, aexec]
  cases f.ev T with
  | clo g caps =>
    dsimp only
    by_cases h2 : keeps = 2
    · rw [if_pos h2, if_pos h2]
      cases quietR (LR E ys) ys g (args.map (·.ev T) ++ caps) hp <;> rfl
    · rw [if_neg h2, if_neg h2]
      by_cases h3 : keeps = 3
      · rw [if_pos h3, if_pos h3]
        cases frameR (LR E ys) ys g (args.map (·.ev T) ++ caps) hp <;> rfl
      rw [if_neg h3, if_neg h3]
      by_cases h4 : keeps = 4
      · rw [if_pos h4, if_pos h4]
        cases frameS (LR E ys) ys g (args.map (·.ev T) ++ caps) hp <;> rfl
      rw [if_neg h4, if_neg h4]
      cases LR E ys g (args.map (·.ev T) ++ caps) hp with
      | none => rfl
      | some p =>
        obtain ⟨r, hp'⟩ := p
        simp only [Option.bind_some]
        cases shrink (keeps == 1) hp.bs.length r hp' <;> rfl
  | yld n =>
    dsimp only
    by_cases hn : 2 ≤ keeps ∨ (args.map (·.ev T)).any AV.isYld = true
    · rw [if_pos hn, if_pos hn]; rfl
    · rw [if_neg hn, if_neg hn]
      cases ys[n]? with
      | none => rfl
      | some h =>
        dsimp only
        cases h (args.map (·.ev T)) hp <;> rfl
  | _ => rfl
theorem CR_clo0 {g : FuncId} {caps args : List AV} : CR E ys Z (.clo g caps) args 0 q base pairs d l T hp K = VR E ys Z q base pairs d ((LR E ys g (args ++ caps) hp).bind fun p => (shrink false hp.bs.length p.1 p.2).map fun hp' => (p.1, hp')) l T K := rfl
theorem CR_clo1 {g : FuncId} {caps args : List AV} : CR E ys Z (.clo g caps) args 1 q base pairs d l T hp K = VR E ys Z q base pairs d ((LR E ys g (args ++ caps) hp).bind fun p => (shrink true hp.bs.length p.1 p.2).map fun hp' => (p.1, hp')) l T K := rfl
theorem CR_clo2 {g : FuncId} {caps args : List AV} : CR E [] Z (.clo g caps) args 2 q base pairs d l T hp K = VR E [] Z q base pairs d (if (args ++ caps).any AV.isYld then none else (LR E [] g (args ++ caps) ⟨hp.bs.map lockQ, []⟩).bind fun p => if (scalarQ p.1 || ptrQ hp.bs p.2.bs p.1) = true then some (p.1, hp) else none) l T K := by
  show VR E [] Z q base pairs d (quietR (LR E []) [] g (args ++ caps) hp) l T K = _
  unfold quietR
  simp only
  cases hc : (args ++ caps).any AV.isYld with
  | true => rfl
  | false =>
    simp only [Bool.false_eq_true, if_false]
    cases LR E [] g (args ++ caps) ⟨hp.bs.map lockQ, []⟩ <;> rfl
theorem CR_clo3 {g : FuncId} {caps args : List AV} : CR E [] Z (.clo g caps) args 3 q base pairs d l T hp K = VR E [] Z q base pairs d (frameR (LR E []) [] g (args ++ caps) hp) l T K := rfl
theorem CR_clo4 {g : FuncId} {caps args : List AV} : CR E [] Z (.clo g caps) args 4 q base pairs d l T hp K = VR E [] Z q base pairs d (frameS (LR E []) [] g (args ++ caps) hp) l T K := rfl
theorem frame0_lis {id gen off n g0 k : Nat} {e : TypeId} {rows : List (List AV)} {g : FuncId} {vs : List AV} (h : hp.bs[id]? = some (.lst 0 g0 e k rows)) {off1 n1 : Nat} {rows2 : List (List AV)} {lk1 k2 : Nat} {e2 : TypeId} {hp1 : Hp} (hc : LR E [] g (.lis id gen off n :: vs) ⟨(hp.bs.map lockQ).set id (.lst 0 g0 e k rows), []⟩ = some (.lis id g0 off1 n1, hp1)) (h1 : hp1.bs[id]? = some (.lst lk1 g0 e2 k2 rows2)) (h2 : (rows2.all fun r => r.all scalar1) = true) :
    frame0 (LR E []) [] g (.lis id gen off n :: vs) hp = some (.lis id g0 off1 n1, { hp with bs := hp.bs.set id (.lst 0 g0 e k rows2) }) := by
  unfold frame0
  simp only [h, hc, h1, h2, and_self, if_true]
theorem frameR_lis {id gen off n g0 k : Nat} {e : TypeId} {rows : List (List AV)} {g : FuncId} {vs : List AV} (h : hp.bs[id]? = some (.lst 0 g0 e k rows)) {off1 n1 : Nat} {rows2 : List (List AV)} {lk1 k2 : Nat} {e2 : TypeId} {hp1 : Hp} (hc : LR E [] g (.lis id gen off n :: vs) ⟨(hp.bs.map lockQ).set id (.lst 0 g0 e k rows), []⟩ = some (.lis id g0 off1 n1, hp1)) (h1 : hp1.bs[id]? = some (.lst lk1 g0 e2 k2 rows2)) (h2 : (rows2.all fun r => r.all scalar1) = true) (h3 : off1 + n1 ≤ rows2.length) :
    frameR (LR E []) [] g (.lis id gen off n :: vs) hp = some (.ro ((rows2.drop off1).take n1), { hp with bs := hp.bs.set id (.lst 2 g0 e k rows2) }) := by
  have hid := (List.getElem?_eq_some_iff.1 h).1
  unfold frameR
  rw [frame0_lis h hc h1 h2]
  simp only [toData, rowsOf, lockAt, List.getElem?_set_self hid, h3, and_self, if_true, Option.map_some, List.set_set]
theorem frameS_lis {id gen off n g0 k : Nat} {e : TypeId} {rows : List (List AV)} {g : FuncId} {vs : List AV} (h : hp.bs[id]? = some (.lst 0 g0 e k rows)) (h0 : vs.all scalar1 = true) {off1 n1 : Nat} {rows2 : List (List AV)} {lk1 k2 : Nat} {e2 : TypeId} {hp1 : Hp} (hc : LR E [] g (.lis id gen off n :: vs) ⟨(List.replicate hp.bs.length .dead).set id (.lst 0 g0 e k rows), []⟩ = some (.lis id g0 off1 n1, hp1)) (h1 : hp1.bs[id]? = some (.lst lk1 g0 e2 k2 rows2)) (h2 : (rows2.all fun r => r.all scalar1) = true) (h3 : off1 + n1 ≤ rows2.length) :
    frameS (LR E []) [] g (.lis id gen off n :: vs) hp = some (.ro ((rows2.drop off1).take n1), { hp with bs := hp.bs.set id (.lst 2 g0 e k rows2) }) := by
  have hid := (List.getElem?_eq_some_iff.1 h).1
  unfold frameS frame1
  simp only [h0, h, hc, h1, h2, and_self, if_true]
  simp only [toData, rowsOf, lockAt, List.getElem?_set_self hid, h3, and_self, if_true, Option.map_some, List.set_set]
end

/-! ### Values -/
theorem unfresh_bool {b : Bool} : unfresh (.bool b) = some (.bool b) := rfl
theorem unfresh_int {k : IntKind} {n : Int} : unfresh (.int k n) = some (.int k n) := rfl
theorem unfresh_str {b : ByteArray} : unfresh (.str b) = some (.str b) := rfl
theorem unfresh_nilp : unfresh .nilp = some .nilp := rfl
theorem unfresh_nilf : unfresh .nilf = some .nilf := rfl
theorem unfresh_ro {r : List (List AV)} : unfresh (.ro r) = some (.ro r) := rfl
theorem unfresh_clip {r : List (List AV)} : unfresh (.clip r) = some (.clip r) := rfl
theorem unfresh_lis {a b c d : Nat} : unfresh (.lis a b c d) = some (.lis a b c d) := rfl
theorem unfresh_ptr {a b c d : Nat} : unfresh (.ptr a b c d) = some (.ptr a b c d) := rfl
theorem unfresh_rp {r : List AV} {d : Nat} : unfresh (.rp r d) = some (.rp r d) := rfl
theorem unfresh_refs {r : List (List AV)} : unfresh (.refs r) = some (.refs r) := rfl
theorem unfresh_rq {r : List AV} {d : Nat} : unfresh (.rq r d) = some (.rq r d) := rfl
theorem unfresh_clo {f : FuncId} {cs : List AV} : unfresh (.clo f cs) = some (.clo f cs) := rfl
theorem unfresh_yld {d : Nat} : unfresh (.yld d) = some (.yld d) := rfl
theorem unfresh_yp {d : Nat} : unfresh (.yp d) = some (.yp d) := rfl
theorem unfresh_agg {cs : List AV} : unfresh (.agg cs) = some (.agg cs) := rfl
theorem unfresh_tup {cs : List AV} : unfresh (.tup cs) = some (.tup cs) := rfl
def resV (a : AV) : Option AV := match a with
  | .undef | .tup _ | .fresh _ _ _ | .yld _ | .yp _ => none
  | a => some a
theorem resV_bool {b : Bool} : resV (.bool b) = some (.bool b) := rfl
theorem resV_int {k : IntKind} {n : Int} : resV (.int k n) = some (.int k n) := rfl
theorem resV_str {b : ByteArray} : resV (.str b) = some (.str b) := rfl
theorem resV_ro {r : List (List AV)} : resV (.ro r) = some (.ro r) := rfl
theorem resV_clip {r : List (List AV)} : resV (.clip r) = some (.clip r) := rfl
theorem resV_lis {a b c d : Nat} : resV (.lis a b c d) = some (.lis a b c d) := rfl
theorem resV_ptr {a b c d : Nat} : resV (.ptr a b c d) = some (.ptr a b c d) := rfl
theorem resV_agg {cs : List AV} : resV (.agg cs) = some (.agg cs) := rfl
theorem resV_clo {f : FuncId} {cs : List AV} : resV (.clo f cs) = some (.clo f cs) := rfl
theorem ares_t {T : Tm} {bs : List Blk} {n : Nat} : ares T bs (.t n) = resV (T.get n) := rfl
theorem ares_cell {T : Tm} {bs : List Blk} {n k : Nat} {agg : Bool} : ares T bs (.cell n k agg) = (rdPtr bs (T.get n) k).bind (asVal agg) := by
  simp only [ares]; cases rdPtr bs (T.get n) k <;> rfl
theorem aresults0 {T : Tm} {bs : List Blk} : aresults [] T bs = some (.tup []) := rfl
theorem aresults1 {T : Tm} {bs : List Blk} {r : ARes} : aresults [r] T bs = ares T bs r := rfl
theorem mapO_nil {α β : Type} {f : α → Option β} : ([] : List α).mapM f = some [] := rfl
theorem mapO_cons {α β : Type} {f : α → Option β} {a : α} {l : List α} : (a :: l).mapM f = (f a).bind fun b => (l.mapM f).bind fun c => some (b :: c) := by
  rw [List.mapM_cons]; rfl
theorem aresults2 {T : Tm} {bs : List Blk} {r r' : ARes} {l : List ARes} : aresults (r :: r' :: l) T bs = ((r :: r' :: l).mapM (ares T bs)).map .tup := rfl
theorem ZV_normal {rs : List ARes} {fr : Bool} {T : Tm} {hp : Hp} : ZV rs fr .normal T hp = (aresults rs T hp.bs).bind (expRes fr hp.bs) := rfl
theorem ZV_ret {rs : List ARes} {fr : Bool} {T : Tm} {hp : Hp} : ZV rs fr .ret T hp = (aresults rs T hp.bs).bind (expRes fr hp.bs) := rfl
theorem ZR_normal {rs : List ARes} {T : Tm} {hp : Hp} : ZR rs .normal T hp = (aresults rs T hp.bs).map (·, hp) := rfl
theorem ZR_ret {rs : List ARes} {T : Tm} {hp : Hp} : ZR rs .ret T hp = (aresults rs T hp.bs).map (·, hp) := rfl
theorem expRes_bool {fr : Bool} {bs : List Blk} {b : Bool} : expRes fr bs (.bool b) = some (.bool b) := rfl
theorem expRes_int {fr : Bool} {bs : List Blk} {k : IntKind} {n : Int} : expRes fr bs (.int k n) = some (.int k n) := rfl
theorem expRes_str {fr : Bool} {bs : List Blk} {b : ByteArray} : expRes fr bs (.str b) = some (.str b) := rfl
theorem expRes_ro {fr : Bool} {bs : List Blk} {r : List (List AV)} : expRes fr bs (.ro r) = some (.ro r) := rfl
theorem expRes_clip {fr : Bool} {bs : List Blk} {r : List (List AV)} : expRes fr bs (.clip r) = some (.ro r) := rfl
theorem expRes_lis {fr : Bool} {bs : List Blk} {a b c d : Nat} : expRes fr bs (.lis a b c d) = expCell fr bs (.lis a b c d) := rfl
theorem expRes_agg {fr : Bool} {bs : List Blk} {cs : List AV} (h : dataL cs = true) : expRes fr bs (.agg cs) = some (.agg cs) := by
  simp only [expRes, if_pos h]
theorem expRes_tup {fr : Bool} {bs : List Blk} {vs : List AV} : expRes fr bs (.tup vs) = if fr ∧ ¬ (argIds vs).Nodup then none else (vs.mapM (expIn fr bs)).map .tup := rfl
theorem expIn_bool {fr : Bool} {bs : List Blk} {b : Bool} : expIn fr bs (.bool b) = some (.bool b) := rfl
theorem expIn_int {fr : Bool} {bs : List Blk} {k : IntKind} {n : Int} : expIn fr bs (.int k n) = some (.int k n) := rfl
theorem expIn_str {fr : Bool} {bs : List Blk} {b : ByteArray} : expIn fr bs (.str b) = some (.str b) := rfl
theorem expIn_ro {fr : Bool} {bs : List Blk} {r : List (List AV)} : expIn fr bs (.ro r) = some (.ro r) := rfl
theorem expIn_clip {fr : Bool} {bs : List Blk} {r : List (List AV)} : expIn fr bs (.clip r) = some (.ro r) := rfl
theorem expIn_lis {fr : Bool} {bs : List Blk} {a b c d : Nat} : expIn fr bs (.lis a b c d) = expCell fr bs (.lis a b c d) := rfl
theorem expIn_agg {fr : Bool} {bs : List Blk} {cs : List AV} (h : dataL cs = true) : expIn fr bs (.agg cs) = some (.agg cs) := by
  simp only [expIn, if_pos h]
theorem take_bool {k : Bool} {s : Nat} {bs : List Blk} {b : Bool} : takeRes k s (.bool b) bs = some (.bool b, bs) := rfl
theorem take_int {k : Bool} {s : Nat} {bs : List Blk} {i : IntKind} {n : Int} : takeRes k s (.int i n) bs = some (.int i n, bs) := rfl
theorem take_str {k : Bool} {s : Nat} {bs : List Blk} {b : ByteArray} : takeRes k s (.str b) bs = some (.str b, bs) := rfl
theorem take_ro {k : Bool} {s : Nat} {bs : List Blk} {r : List (List AV)} : takeRes k s (.ro r) bs = some (.ro r, bs) := rfl
theorem take_clip {k : Bool} {s : Nat} {bs : List Blk} {r : List (List AV)} : takeRes k s (.clip r) bs = some (.clip r, bs) := rfl
theorem take_clo {k : Bool} {s : Nat} {bs : List Blk} {f : FuncId} {r : List AV} : takeRes k s (.clo f r) bs = some (.clo f r, bs) := rfl
theorem take_agg {k : Bool} {s : Nat} {bs : List Blk} {cs : List AV} (h : dataL cs = true) : takeRes k s (.agg cs) bs = some (.agg cs, bs) := by
  simp only [takeRes, if_pos h]
theorem take_tup {k : Bool} {s : Nat} {bs : List Blk} {vs : List AV} : takeRes k s (.tup vs) bs = if freshIn vs then (takeL k s vs bs).map fun r => (.tup r.1, r.2) else some (.tup vs, bs) := rfl
theorem snap_lis {bs : List Blk} {a b c d : Nat} : snap bs (.lis a b c d) = (rowsOf bs (.lis a b c d)).map .ro := rfl
theorem snap_bool {bs : List Blk} {b : Bool} : snap bs (.bool b) = some (.bool b) := rfl
theorem snap_int {bs : List Blk} {i : IntKind} {n : Int} : snap bs (.int i n) = some (.int i n) := rfl
theorem snap_str {bs : List Blk} {b : ByteArray} : snap bs (.str b) = some (.str b) := rfl
theorem snap_ro {bs : List Blk} {r : List (List AV)} : snap bs (.ro r) = some (.ro r) := rfl
theorem snap_clip {bs : List Blk} {r : List (List AV)} : snap bs (.clip r) = some (.clip r) := rfl
theorem snap_rp {bs : List Blk} {r : List AV} {o : Nat} : snap bs (.rp r o) = some (.rp r o) := rfl
theorem snap_agg {bs : List Blk} {cs : List AV} (h : dataL cs = true) : snap bs (.agg cs) = some (.agg cs) := by
  simp only [snap, if_pos h]
theorem snap_clo {bs : List Blk} {f : FuncId} {cs : List AV} (h : dataL cs = true) : snap bs (.clo f cs) = some (.clo f cs) := by
  simp only [snap, if_pos h]
theorem get_cons {i j : Nat} {a : AV} {l : Tm} : Tm.get ((i, a) :: l) j = if i = j then a else Tm.get l j := rfl
theorem ev_t {T : Tm} {n : Nat} : Opd.ev T (.t n) = T.get n := rfl
theorem ev_c {T : Tm} {a : AV} : Opd.ev T (.c a) = a := rfl
theorem mask_eq {T : Tm} {l : List Nat} : T.mask l = l.map fun i => (i, T.get i) := rfl
theorem LV_R {E : Env} {f : FuncId} {args : List AV} {fn : AFunc} (h1 : E.prim f = none) (h2 : E.fn f = some fn) (h3 : args.length = fn.np) : LV E f args = R E [] (ZV fn.results fn.fresh) fn.body (params 0 args) ⟨[], []⟩ [] := by
  rw [LV_eq, h1, h2]
  dsimp only
  rw [if_pos h3]
  unfold R
  cases LC E [] fn.body (params 0 args) ⟨[], []⟩ with
  | none => rfl
  | some r =>
    obtain ⟨ex, T, hp⟩ := r
    cases ex with
    | exit i => rfl
    | _ => simp only [Option.bind_some, res, afin, ZV]; cases aresults fn.results T hp.bs <;> rfl
theorem LR_R {E : Env} {ys : List Hd} {f : FuncId} {args : List AV} {hp : Hp} {fn : AFunc} (h1 : E.prim f = none) (h2 : E.fn f = some fn) (h3 : args.length = fn.np) : LR E ys f args hp = R E ys (ZR fn.results) fn.body (params 0 args) hp [] := by
  rw [LR_eq, h1, h2]
  dsimp only
  rw [if_pos h3]
  unfold R
  cases LC E ys fn.body (params 0 args) hp with
  | none => rfl
  | some r =>
    obtain ⟨ex, T, hp⟩ := r
    cases ex with
    | exit i => rfl
    | _ => simp only [Option.bind_some, res, afin, ZR]
theorem LV_prim {E : Env} {f : FuncId} {args : List AV} {p : List AV → List Blk → Option (AV × List Blk)} (h1 : E.prim f = some p) : LV E f args = (p args []).bind fun r => expRes true r.2 r.1 := by
  rw [LV_eq, h1]
  dsimp only
  cases p args [] <;> rfl
theorem refs_int {m : Nat} {k : IntKind} {n : Int} : AV.refsLt m (.int k n) = true := rfl
theorem refs_bool {m : Nat} {n : Bool} : AV.refsLt m (.bool n) = true := rfl
theorem refs_str {m : Nat} {n : ByteArray} : AV.refsLt m (.str n) = true := rfl
theorem refs_ro {m : Nat} {n : List (List AV)} : AV.refsLt m (.ro n) = true := rfl
theorem refs_clip {m : Nat} {n : List (List AV)} : AV.refsLt m (.clip n) = true := rfl
theorem refs_nilf {m : Nat} : AV.refsLt m .nilf = true := rfl
theorem refs_nilp {m : Nat} : AV.refsLt m .nilp = true := rfl
theorem refs_rp {m : Nat} {n : List AV} {o : Nat} : AV.refsLt m (.rp n o) = true := rfl
theorem refs_refs {m : Nat} {n : List (List AV)} : AV.refsLt m (.refs n) = belowR m n := by unfold AV.refsLt; rfl
theorem refs_rq {m : Nat} {n : List AV} {o : Nat} : AV.refsLt m (.rq n o) = belowL m n := by unfold AV.refsLt; rfl
theorem belowR_nil {m : Nat} : belowR m [] = true := by unfold belowR; rfl
theorem belowR_cons {m : Nat} {a : List AV} {l : List (List AV)} : belowR m (a :: l) = (belowL m a && belowR m l) := by rw [belowR]
theorem refs_yld {m : Nat} {o : Nat} : AV.refsLt m (.yld o) = true := rfl
theorem refs_yp {m : Nat} {o : Nat} : AV.refsLt m (.yp o) = true := rfl
theorem refs_ptr {m a b c d : Nat} : AV.refsLt m (.ptr a b c d) = decide (a < m) := by unfold AV.refsLt; rfl
theorem refs_lis {m a b c d : Nat} : AV.refsLt m (.lis a b c d) = decide (a < m) := by unfold AV.refsLt; rfl
theorem refs_clo {m : Nat} {f : FuncId} {cs : List AV} : AV.refsLt m (.clo f cs) = belowL m cs := by unfold AV.refsLt; rfl
theorem refs_agg {m : Nat} {cs : List AV} : AV.refsLt m (.agg cs) = belowL m cs := by unfold AV.refsLt; rfl
theorem refs_tup {m : Nat} {cs : List AV} : AV.refsLt m (.tup cs) = belowL m cs := by unfold AV.refsLt; rfl
theorem below_nil {m : Nat} : belowL m [] = true := by unfold belowL; rfl
theorem below_cons {m : Nat} {a : AV} {l : List AV} : belowL m (a :: l) = (a.refsLt m && belowL m l) := by rw [belowL]
theorem bref_dead {m : Nat} : Blk.refsLt m .dead = true := rfl
theorem bref_box {m lk : Nat} {e : TypeId} {r : List AV} : Blk.refsLt m (.box lk e r) = belowL m r := rfl
theorem bref_lst {m lk g k : Nat} {e : TypeId} {r : List (List AV)} : Blk.refsLt m (.lst lk g e k r) = true := rfl
theorem ball_nil {m : Nat} : belowAll m [] = true := rfl
theorem ball_cons {m : Nat} {b : Blk} {l : List Blk} : belowAll m (b :: l) = (b.refsLt m && belowAll m l) := rfl
theorem piece_hd {a : AV} {l : List AV} : piece (a :: l) 0 1 = some [a] := by
  unfold piece; rw [if_pos (by simp)]; rfl
theorem expRes_aggm {fr : Bool} {bs : List Blk} {cs : List AV} : expRes fr bs (.agg cs) = if dataL cs = true then some (.agg cs) else if fr = true ∧ ¬ (mutIds cs).Nodup then none else (cs.mapM (expCell fr bs)).map .agg := rfl
theorem ovr_hd {a b : AV} {l : List AV} : ovr (a :: l) 0 [b] = some (b :: l) := by
  unfold ovr; rw [if_pos (by simp)]; simp
theorem data_nil : dataL [] = true := rfl
theorem data_cons {a : AV} {l : List AV} : dataL (a :: l) = (a.isData && dataL l) := by simp only [dataL, List.all_cons]
theorem rd_rq {bs : List Blk} {r : List AV} {k off : Nat} : rdPtr bs (.rq r off) k = piece r off k := rfl
theorem rd_rp {bs : List Blk} {r : List AV} {k off : Nat} : rdPtr bs (.rp r off) k = piece r off k := rfl
section
variable {β : Type} {E : Env} {ys : List Hd} {Z : AExit → Tm → Hp → Option β} {T : Tm} {hp : Hp} {K : List Fr} {base : Nat} {q : Bool} {pairs : List (Opd × Opd × Nat)} {d : Option Nat} {s : Nat} {l : List AInstr}
theorem Ci_cases {t : Bool} {a b : ACode} {r : Option β} (h1 : t = true → R E ys Z a T hp K = r) (h2 : t = false → R E ys Z b T hp K = r) : Ci E ys Z t a b T hp K = r := by
  cases t
  · exact h2 rfl
  · exact h1 rfl
theorem Gi_cases {t : Bool} {op : AOp} {r : Option β} (h1 : t = true → O E ys Z q base pairs (⟨d, op, none, s⟩ :: l) T hp K = r) (h2 : t = false → O E ys Z q base pairs l (putD T d (.tup [])) hp K = r) : Gi E ys Z t q base pairs d op s l T hp K = r := by
  cases t
  · exact h2 rfl
  · exact h1 rfl
theorem Gj_cases {t : Bool} {op : AOp} {r : Option β} (h2 : t = true → O E ys Z q base pairs l (putD T d (.tup [])) hp K = r) (h1 : t = false → O E ys Z q base pairs (⟨d, op, none, s⟩ :: l) T hp K = r) : Gj E ys Z t q base pairs d op s l T hp K = r := by
  cases t
  · exact h1 rfl
  · exact h2 rfl
theorem W_in {m : Nat} {keep : List Nat} {c : ACode} {M : Tm} (h1 : belowL m (M.map (·.2)) = true) (h2 : belowAll m hp.bs = true) : W E ys Z m keep c M hp K = R E ys Z c M hp (.loop m keep c :: K) := by
  unfold W; rw [if_pos ⟨h1, h2⟩]
theorem W_rec {ι : Type} {m : Nat} {keep : List Nat} {c : ACode} (M : ι → Tm) (H : ι → Hp) (r : ι → Option β) (μ : ι → Nat)
    (hb : ∀ i, belowL m ((M i).map (·.2)) = true ∧ belowAll m (H i).bs = true)
    (step : ∀ i, (∀ j, μ j < μ i → W E ys Z m keep c (M j) (H j) K = r j) → R E ys Z c (M i) (H i) (.loop m keep c :: K) = r i) (i : ι) : W E ys Z m keep c (M i) (H i) K = r i := by
  have key : ∀ n i, μ i ≤ n → W E ys Z m keep c (M i) (H i) K = r i := by
    intro n
    induction n with
    | zero =>
      intro i hi
      rw [W_in (hb i).1 (hb i).2]
      exact step i fun j hj => absurd hj (by omega)
    | succ n ih =>
      intro i hi
      rw [W_in (hb i).1 (hb i).2]
      exact step i fun j hj => ih j (by omega)
  exact key _ i (Nat.le_refl _)
theorem W_go {m : Nat} {keep : List Nat} {c : ACode} {M : Tm} {bs : List Blk} {pend : List (Option AExit)} (h : (belowL m (M.map (·.2)) && belowAll m bs) = true) : W E ys Z m keep c M ⟨bs, pend⟩ K = R E ys Z c M ⟨bs, pend⟩ (.loop m keep c :: K) := by
  rw [Bool.and_eq_true] at h
  exact W_in h.1 h.2
end
end Go.Proofs.YtgajekpigkknnaaDoor.A

/- The machine's steps at loops over functions; blocks behind others. No condition. -/
namespace Go.Proofs.YtgajekpigkknnaaDoor.A
open Go

/-- What a loop's body ends in, told to the iterator. -/
def ZH (orig : Hp) (d : Nat) (ex : AExit) (_ : Tm) (hp' : Hp) : Option (Bool × Hp) := match ex with
  | .normal => (shrink false orig.bs.length .undef hp').map fun h' => (true, { h' with pend := h'.pend ++ none :: orig.pend.drop (d + 1) })
  | ex => (shrink false orig.bs.length .undef hp').map fun h' => (false, { h' with pend := h'.pend ++ some ex :: orig.pend.drop (d + 1) })
noncomputable def ZA (E : Env) (ys : List Hd) (orig : Hp) (d : Nat) (body : ACode) (ex : AExit) (T : Tm) (hp : Hp) : Option (Bool × Hp) := match ex with
  | .normal => R E ys (ZH orig d) body T hp []
  | _ => none
theorem handler_run {E : Env} {ys : List Hd} {d : Nat} {T : Tm} {ps : List Nat} {assign body : ACode} {args : List AV} {bs : List Blk} {pend : List (Option AExit)} (hp : pend[d]? = some none) (hl : args.length = ps.length) :
    handlerOf (LC E ys) d T ps assign body args ⟨bs, pend⟩ = R E ys (ZA E ys ⟨bs, pend⟩ d body) assign (setAll T ps args) ⟨bs, pend.take d⟩ [] := by
  simp only [handlerOf, hp, hl, if_true, R]
  cases LC E ys assign (setAll T ps args) ⟨bs, pend.take d⟩ with
  | none => rfl
  | some r =>
    obtain ⟨ex, T1, hp1⟩ := r
    cases ex with
    | normal =>
      simp only [Option.bind_some, res, ZA, R]
      cases LC E ys body T1 hp1 with
      | none => rfl
      | some r =>
        obtain ⟨ex, T2, hp2⟩ := r
        cases ex <;> simp only [Option.bind_some, res, ZH]
    | exit i => simp only [Option.bind_some, res, ZA]
    | ret => simp only [Option.bind_some, res, ZA]
section
variable {β : Type} {E : Env} {ys : List Hd} {Z : AExit → Tm → Hp → Option β} {T : Tm} {hp : Hp} {K : List Fr}
/-- Behind a loop over a function. -/
noncomputable def RG (E : Env) (ys : List Hd) (Z : AExit → Tm → Hp → Option β) (m : Nat) (ex : Option (Option AExit)) (bs : List Blk) (pend : List (Option AExit)) (T : Tm) (K : List Fr) : Option β := match ex with
  | some none => (shrink false m .undef ⟨bs, pend⟩).bind fun h => res E ys Z K .normal T h
  | some (some ex) => (shrink false m .undef ⟨bs, pend⟩).bind fun h => res E ys Z K ex T h
  | none => none
theorem R_range {f : Opd} {ps : List Nat} {assign body : ACode} {g : FuncId} {caps : List AV} {bs : List Blk} {pend : List (Option AExit)} (hf : f.ev T = .clo g caps) (hg : E.prim g = none) :
    R E ys Z (.range f ps assign body) T ⟨bs, pend⟩ K = (LR E (ys ++ [handlerOf (LC E ys) ys.length T ps assign body]) g (.yld ys.length :: caps) ⟨bs, pend ++ [none]⟩).bind fun p =>
      RG E ys Z bs.length p.2.pend[ys.length]? p.2.bs (p.2.pend.take ys.length) T K := by
  rw [R, LC_range]
  unfold rangeOf
  rw [hf]
  simp only [hg, Option.isSome_none, Bool.false_eq_true, if_false]
  cases LR E (ys ++ [handlerOf (LC E ys) ys.length T ps assign body]) g (.yld ys.length :: caps) ⟨bs, pend ++ [none]⟩ with
  | none => rfl
  | some p =>
    obtain ⟨r, hp'⟩ := p
    simp only [Option.bind_some, RG]
    cases hp'.pend[ys.length]? with
    | none => rfl
    | some x => cases x with
      | none => simp only; cases shrink false bs.length .undef ⟨hp'.bs, hp'.pend.take ys.length⟩ <;> rfl
      | some ex => simp only; cases shrink false bs.length .undef ⟨hp'.bs, hp'.pend.take ys.length⟩ <;> rfl
theorem CR_yld' {base : Nat} {q : Bool} {pairs : List (Opd × Opd × Nat)} {d : Option Nat} {l : List AInstr} {n : Nat} {args : List AV} {keeps : Nat} {h : Hd} (hy : ys[n]? = some h) (ha : args.any AV.isYld = false) (hk : keeps < 2) :
    CR E ys Z (.yld n) args keeps q base pairs d l T hp K = VR E ys Z q base pairs d ((h args hp).map fun p => (.bool p.1, p.2)) l T K := by
  unfold CR
  simp only
  rw [if_neg (by rw [ha]; simp; omega), hy]
theorem W_recP {ι : Type} {m : Nat} {keep : List Nat} {c : ACode} (Q : ι → Option β → Prop) (M : ι → Tm) (H : ι → Hp) (μ : ι → Nat)
    (hb : ∀ i, belowL m ((M i).map (·.2)) = true ∧ belowAll m (H i).bs = true)
    (step : ∀ i, (∀ j, μ j < μ i → Q j (W E ys Z m keep c (M j) (H j) K)) → Q i (R E ys Z c (M i) (H i) (.loop m keep c :: K))) (i : ι) : Q i (W E ys Z m keep c (M i) (H i) K) := by
  have key : ∀ n i, μ i ≤ n → Q i (W E ys Z m keep c (M i) (H i) K) := by
    intro n
    induction n with
    | zero =>
      intro i hi
      rw [W_in (hb i).1 (hb i).2]
      exact step i fun j hj => absurd hj (by omega)
    | succ n ih =>
      intro i hi
      rw [W_in (hb i).1 (hb i).2]
      exact step i fun j hj => ih j (by omega)
  exact key _ i (Nat.le_refl _)
theorem W_recP2 {ι : Type} {m : Nat} {keep : List Nat} {c : ACode} (Q : ι → Option β → Prop) (M : ι → Tm) (H : ι → Hp) (μ : ι → Nat)
    (hb : ∀ i, belowL m ((M i).map (·.2)) = true ∧ belowAll m (H i).bs = true)
    (step : ∀ i, (∀ j, μ j < μ i → Q j (W E ys Z m keep c (M j) (H j) K)) → Q i (R E ys Z c (M i) (H i) (.loop m keep c :: K))) (i : ι) {M' : Tm} {H' : Hp} (e1 : M' = M i) (e2 : H' = H i) : Q i (W E ys Z m keep c M' H' K) := by
  subst e1; subst e2; exact W_recP Q M H μ hb step i
theorem take_at {α : Type} {l r : List α} {m : Nat} (h : l.length = m) : (l ++ r).take m = l := by rw [← h, List.take_left]
theorem W_rec2 {ι : Type} {m : Nat} {keep : List Nat} {c : ACode} (M : ι → Tm) (H : ι → Hp) (r : ι → Option β) (μ : ι → Nat)
    (hb : ∀ i, belowL m ((M i).map (·.2)) = true ∧ belowAll m (H i).bs = true)
    (step : ∀ i, (∀ j, μ j < μ i → W E ys Z m keep c (M j) (H j) K = r j) → R E ys Z c (M i) (H i) (.loop m keep c :: K) = r i) (i : ι) {M' : Tm} {H' : Hp} (e1 : M' = M i) (e2 : H' = H i) : W E ys Z m keep c M' H' K = r i := by
  subst e1; subst e2; exact W_rec M H r μ hb step i
end

mutual
theorem AV.refsLt_mono {m n : Nat} (h : m ≤ n) : ∀ (a : AV), a.refsLt m = true → a.refsLt n = true
  | .lis .., k => by rw [refs_lis, decide_eq_true_eq] at *; omega
  | .ptr .., k => by rw [refs_ptr, decide_eq_true_eq] at *; omega
  | .clo _ cs, k => by rw [refs_clo] at *; exact belowL_mono h cs k
  | .agg cs, k => by rw [refs_agg] at *; exact belowL_mono h cs k
  | .tup cs, k => by rw [refs_tup] at *; exact belowL_mono h cs k
  | .refs rs, k => by rw [refs_refs] at *; exact belowR_mono h rs k
  | .rq cs _, k => by rw [refs_rq] at *; exact belowL_mono h cs k
  | .undef, _ | .bool _, _ | .int _ _, _ | .str _, _ | .nilp, _ | .nilf, _ | .ro _, _ | .clip _, _ | .fresh _ _ _, _ | .rp _ _, _ | .yld _, _ | .yp _, _ => rfl
theorem belowL_mono {m n : Nat} (h : m ≤ n) : ∀ (l : List AV), belowL m l = true → belowL n l = true
  | [], _ => below_nil
  | a :: l, k => by
    rw [below_cons, Bool.and_eq_true] at *
    exact ⟨AV.refsLt_mono h a k.1, belowL_mono h l k.2⟩
theorem belowR_mono {m n : Nat} (h : m ≤ n) : ∀ (l : List (List AV)), belowR m l = true → belowR n l = true
  | [], _ => belowR_nil
  | a :: l, k => by
    rw [belowR_cons, Bool.and_eq_true] at *
    exact ⟨belowL_mono h a k.1, belowR_mono h l k.2⟩
end
theorem Blk.refsLt_mono {m n : Nat} (h : m ≤ n) (b : Blk) (k : b.refsLt m = true) : b.refsLt n = true := by
  cases b with
  | dead => rfl
  | box lk e r => exact belowL_mono h r k
  | lst => rfl
theorem belowAll_mono {m n : Nat} (h : m ≤ n) {l : List Blk} (k : belowAll m l = true) : belowAll n l = true := by
  unfold belowAll at *
  rw [List.all_eq_true] at *
  exact fun b hb => Blk.refsLt_mono h b (k b hb)
theorem ball_app {m : Nat} {l r : List Blk} : belowAll m (l ++ r) = (belowAll m l && belowAll m r) := by simp [belowAll]
theorem shrink_app {m : Nat} {a : AV} {l r : List Blk} {pend : List (Option AExit)} (h : l.length = m) (h1 : a.refsLt m = true) (h2 : belowAll m l = true) : shrink false m a ⟨l ++ r, pend⟩ = some ⟨l, pend⟩ := by
  simp only [shrink, Bool.false_eq_true, if_false]
  rw [show (l ++ r).take m = l by rw [← h, List.take_left], if_pos ⟨h1, h2⟩]
theorem shrink_id {m : Nat} {a : AV} {l : List Blk} {pend : List (Option AExit)} (h : l.length = m) (h1 : a.refsLt m = true) (h2 : belowAll m l = true) : shrink false m a ⟨l, pend⟩ = some ⟨l, pend⟩ := by
  have := shrink_app (r := []) (pend := pend) h h1 h2
  rw [List.append_nil] at this; exact this
theorem shrink_true {m : Nat} {a : AV} {hp : Hp} : shrink true m a hp = some hp := rfl
theorem shrink_lit {m : Nat} {a : AV} {bs : List Blk} {pend : List (Option AExit)} : shrink false m a ⟨bs, pend⟩ = if (a.refsLt m && belowAll m (bs.take m)) = true then some ⟨bs.take m, pend⟩ else none := by
  simp only [shrink, Bool.false_eq_true, if_false, Bool.and_eq_true]
theorem refs_undef {m : Nat} : AV.refsLt m .undef = true := rfl
theorem get_at {α : Type} {l r : List α} {m : Nat} (h : l.length = m) : (l ++ r)[m]? = r[0]? := by rw [← h, List.getElem?_append_right (Nat.le_refl _), Nat.sub_self]
theorem set_at {α : Type} {l r : List α} {m : Nat} {x : α} (h : l.length = m) : (l ++ r).set m x = l ++ r.set 0 x := by rw [← h, List.set_append_right _ _ (Nat.le_refl _), Nat.sub_self]
theorem get_add {α : Type} {l r : List α} {m i : Nat} (h : l.length = m) : (l ++ r)[m + i]? = r[i]? := by rw [← h, List.getElem?_append_right (Nat.le_add_right _ _), Nat.add_sub_cancel_left]
theorem set_add {α : Type} {l r : List α} {m i : Nat} {x : α} (h : l.length = m) : (l ++ r).set (m + i) x = l ++ r.set i x := by rw [← h, List.set_append_right _ _ (Nat.le_add_right _ _), Nat.add_sub_cancel_left]
theorem take_add {α : Type} {l r : List α} {m i : Nat} (h : l.length = m) : (l ++ r).take (m + i) = l ++ r.take i := by rw [← h, List.take_length_add_append]
theorem get_lt {α : Type} {l r : List α} {i : Nat} {x : α} (h : l[i]? = some x) : (l ++ r)[i]? = some x := by
  rw [List.getElem?_append_left (List.getElem?_eq_some_iff.1 h).1]; exact h
theorem ZA_normal {E : Env} {ys : List Hd} {orig : Hp} {d : Nat} {body : ACode} {T : Tm} {hp : Hp} : ZA E ys orig d body .normal T hp = R E ys (ZH orig d) body T hp [] := rfl
theorem ZH_normal {orig : Hp} {d : Nat} {T : Tm} {hp : Hp} : ZH orig d .normal T hp = (shrink false orig.bs.length .undef hp).map fun h' => (true, { h' with pend := h'.pend ++ none :: orig.pend.drop (d + 1) }) := rfl
theorem ZH_ret {orig : Hp} {d : Nat} {T : Tm} {hp : Hp} : ZH orig d .ret T hp = (shrink false orig.bs.length .undef hp).map fun h' => (false, { h' with pend := h'.pend ++ some .ret :: orig.pend.drop (d + 1) }) := rfl
theorem ZH_exit {orig : Hp} {d i : Nat} {T : Tm} {hp : Hp} : ZH orig d (.exit i) T hp = (shrink false orig.bs.length .undef hp).map fun h' => (false, { h' with pend := h'.pend ++ some (.exit i) :: orig.pend.drop (d + 1) }) := rfl
end Go.Proofs.YtgajekpigkknnaaDoor.A
namespace Go.Proofs.YtgajekpigkknnaaDoor.A
open Go
theorem take_fresh_t {s : Nat} {bs : List Blk} {e : TypeId} {k : Nat} {rows : List (List AV)} : takeRes true s (.fresh e k rows) bs = (newAt bs s (.lst 0 0 e k rows)).map fun bs' => (.lis s 0 0 rows.length, bs') := rfl
theorem take_fresh_f {s : Nat} {bs : List Blk} {e : TypeId} {k : Nat} {rows : List (List AV)} : takeRes false s (.fresh e k rows) bs = some (.ro rows, bs) := rfl
theorem takeL_nil {k : Bool} {s : Nat} {bs : List Blk} : takeL k s [] bs = some ([], bs) := rfl
theorem takeL_fresh_t {s : Nat} {bs : List Blk} {e : TypeId} {k : Nat} {rows : List (List AV)} {l : List AV} : takeL true s (.fresh e k rows :: l) bs = (newAt bs s (.lst 0 0 e k rows)).bind fun bs' => (takeL true (s + 1) l bs').map fun r => (.lis s 0 0 rows.length :: r.1, r.2) := by
  rw [takeL]; simp only [if_true]; cases newAt bs s (.lst 0 0 e k rows) <;> rfl
theorem takeL_fresh_f {s : Nat} {bs : List Blk} {e : TypeId} {k : Nat} {rows : List (List AV)} {l : List AV} : takeL false s (.fresh e k rows :: l) bs = (takeL false s l bs).map fun r => (.ro rows :: r.1, r.2) := by
  rw [takeL]; simp only [Bool.false_eq_true, if_false]
theorem takeL_int {b : Bool} {s : Nat} {bs : List Blk} {k : IntKind} {n : Int} {l : List AV} : takeL b s (.int k n :: l) bs = (takeL b s l bs).map fun r => (.int k n :: r.1, r.2) := by rw [takeL]; nofun
theorem takeL_bool {b : Bool} {s : Nat} {bs : List Blk} {n : Bool} {l : List AV} : takeL b s (.bool n :: l) bs = (takeL b s l bs).map fun r => (.bool n :: r.1, r.2) := by rw [takeL]; nofun
theorem takeL_agg {b : Bool} {s : Nat} {bs : List Blk} {cs : List AV} {l : List AV} : takeL b s (.agg cs :: l) bs = (takeL b s l bs).map fun r => (.agg cs :: r.1, r.2) := by rw [takeL]; nofun
theorem takeL_ro {b : Bool} {s : Nat} {bs : List Blk} {cs : List (List AV)} {l : List AV} : takeL b s (.ro cs :: l) bs = (takeL b s l bs).map fun r => (.ro cs :: r.1, r.2) := by rw [takeL]; nofun
/-- A slice that reads as rows, also when blocks lie behind. -/
structure SlV (bs : List Blk) (k : Nat) (v : AV) (rows : List (List AV)) : Prop where
  len : lenOf v = some rows.length
  low : v.refsLt bs.length = true
  uf : unfresh v = some v
  yl : v.isYld = false
  get : ∀ ext i, i < rows.length → ∃ p, iaddrV (bs ++ ext) k none v (.int .i64 (i : Int)) = some p ∧ ∀ ext', rdPtr (bs ++ ext') p k = rows[i]?
theorem SlV.ro {bs : List Blk} {k : Nat} {rows : List (List AV)} (h : ∀ r ∈ rows, r.length = k) : SlV bs k (.ro rows) rows := by
  refine ⟨rfl, rfl, rfl, rfl, fun ext i hi => ⟨.rp rows[i] 0, ?_, fun ext' => ?_⟩⟩
  · have := h rows[i] (List.getElem_mem hi)
    simp [iaddrV, List.getElem?_eq_getElem hi, this]
  · rw [rd_rp, List.getElem?_eq_getElem hi]
    have := h rows[i] (List.getElem_mem hi)
    unfold piece; rw [if_pos (by omega), ← this]; simp
theorem SlV.lis {bs : List Blk} {k id g lk n : Nat} {e : TypeId} {rows : List (List AV)} (hb : bs[id]? = some (.lst lk g e k rows)) (hn : rows.length = n) (h : ∀ r ∈ rows, r.length = k) : SlV bs k (.lis id g 0 n) rows := by
  have hid := (List.getElem?_eq_some_iff.1 hb).1
  subst hn
  refine ⟨rfl, by rw [refs_lis]; exact decide_eq_true hid, rfl, rfl, fun ext i hi => ⟨.ptr id g (0 + i) 0, ?_, fun ext' => ?_⟩⟩
  · simp [iaddrV, lisFits, get_lt hb, hi]
  · rw [List.getElem?_eq_getElem hi]
    have := h rows[i] (List.getElem_mem hi)
    simp only [rdPtr, get_lt hb, if_true, Nat.zero_add, List.getElem?_eq_getElem hi]
    unfold piece; rw [if_pos (by omega), ← this]; simp
/-- A function value that tells whether something holds, whatever lies behind. -/
def PredG {α : Type} (E : Env) (enc : α → List AV) (g : FuncId) (caps : List AV) (P : α → Bool) (bs : List Blk) : Prop := ∀ ys pend ext x, ∃ ext', LR E ys g (.agg (enc x) :: caps) ⟨bs ++ ext, pend⟩ = some (.bool (P x), ⟨(bs ++ ext) ++ ext', pend⟩)
def idxR {α : Type} (P : α → Bool) : List α → Nat → Int
  | [], _ => -1
  | x :: l, k => if P x then (k : Int) else idxR P l (k + 1)
theorem idxR_none {α : Type} {P : α → Bool} : ∀ {l : List α} {k : Nat}, l.any P = false → idxR P l k = -1
  | [], _, _ => rfl
  | x :: l, k, h => by
    simp only [List.any_cons, Bool.or_eq_false_iff] at h
    simp only [idxR, h.1, Bool.false_eq_true, if_false, idxR_none h.2]
theorem idxR_some {α : Type} {P : α → Bool} : ∀ {l : List α} {k : Nat}, l.any P = true → ∃ i : Nat, idxR P l k = ((k + i : Nat) : Int) ∧ ∃ h : i < l.length, P l[i] = true ∧ (l.take i).any P = false
  | [], _, h => by simp at h
  | x :: l, k, h => by
    cases hx : P x with
    | true => exact ⟨0, by simp [idxR, hx], by simp, by simpa using hx, rfl⟩
    | false =>
      simp only [List.any_cons, hx, Bool.false_or] at h
      obtain ⟨i, h1, h2, h3, h4⟩ := idxR_some (k := k + 1) h
      exact ⟨i + 1, by simp only [idxR, hx, Bool.false_eq_true, if_false, h1]; congr 1; omega, by simpa using h2, by simpa using h3, by simpa [hx] using h4⟩
theorem setK_self {α : Type} {l : List α} {i : Nat} {x : α} (h : i < l.length) (r : List α) : (l.set i x ++ r)[i]? = some x := get_lt (by simp [h])
theorem setK_in {α : Type} {l r : List α} {i : Nat} {x : α} (h : i < l.length) : (l ++ r).set i x = l.set i x ++ r := List.set_append_left _ _ h
end Go.Proofs.YtgajekpigkknnaaDoor.A

/- The machine's rewriting set, as one. No condition. -/
namespace Go.Proofs.YtgajekpigkknnaaDoor.A
open Go
theorem RB : (((((((type_of% (@k_nil) ∧ (type_of% (@k_code) ∧ type_of% (@k_code_e))) ∧ ((type_of% (@k_code_r) ∧ type_of% (@k_blk)) ∧ (type_of% (@k_blk_e) ∧ type_of% (@k_blk_r)))) ∧ (((type_of% (@k_loop_e) ∧ type_of% (@k_loop_r)) ∧ (type_of% (@R_skip) ∧ type_of% (@R_exit))) ∧ ((type_of% (@R_ret) ∧ type_of% (@R_seq)) ∧ (type_of% (@R_block) ∧ type_of% (@R_loop))))) ∧ ((((type_of% (@R_cond) ∧ type_of% (@Cd_bool)) ∧ (type_of% (@Ci_true) ∧ type_of% (@Ci_false))) ∧ ((type_of% (@R_region) ∧ type_of% (@O_nil)) ∧ (type_of% (@Gd_bool) ∧ type_of% (@Gd_bool_f)))) ∧ (((type_of% (@Gj_true) ∧ type_of% (@Gj_false)) ∧ (type_of% (@Gd_tup) ∧ type_of% (@Gi_true))) ∧ ((type_of% (@Gi_false) ∧ type_of% (@V_some)) ∧ (type_of% (@VB_some) ∧ type_of% (@VS_some)))))) ∧ ((((type_of% (@VR_some) ∧ (type_of% (@putD_some) ∧ type_of% (@putD_none))) ∧ ((type_of% (@O_mv) ∧ type_of% (@O_pick)) ∧ (type_of% (@O_bin) ∧ type_of% (@O_eqb)))) ∧ (((type_of% (@O_not) ∧ type_of% (@O_neg)) ∧ (type_of% (@O_conv) ∧ type_of% (@O_load))) ∧ ((type_of% (@O_store) ∧ type_of% (@O_storeF)) ∧ (type_of% (@O_boxY) ∧ type_of% (@O_loadY))))) ∧ ((((type_of% (@boxY_yld) ∧ type_of% (@loadY_yp)) ∧ (type_of% (@unfresh_yp) ∧ type_of% (@O_buildSlF))) ∧ ((type_of% (@O_faddr) ∧ type_of% (@O_fld)) ∧ (type_of% (@O_idx) ∧ type_of% (@O_eqagg)))) ∧ (((type_of% (@O_iaddr) ∧ type_of% (@O_isnil)) ∧ (type_of% (@O_nilck) ∧ type_of% (@O_pnil))) ∧ ((type_of% (@O_clo) ∧ type_of% (@O_slice)) ∧ (type_of% (@O_sslice) ∧ type_of% (@O_extr))))))) ∧ (((((type_of% (@O_len) ∧ (type_of% (@O_slen) ∧ type_of% (@O_lenc))) ∧ ((type_of% (@O_min) ∧ type_of% (@O_max)) ∧ (type_of% (@O_sidx) ∧ type_of% (@O_newl)))) ∧ (((type_of% (@O_allocL) ∧ type_of% (@O_boxL)) ∧ (type_of% (@O_buildL) ∧ type_of% (@O_buildSl))) ∧ ((type_of% (@O_slarr) ∧ type_of% (@O_append)) ∧ (type_of% (@O_copy) ∧ type_of% (@O_clear))))) ∧ ((((type_of% (@O_callV0) ∧ type_of% (@O_callV1)) ∧ (type_of% (@O_callV2) ∧ type_of% (@CV_some))) ∧ ((type_of% (@CVX_some) ∧ type_of% (@CX_fresh)) ∧ (type_of% (@CX_aggf) ∧ type_of% (@CW_some_nil)))) ∧ (((type_of% (@O_callR) ∧ type_of% (@unfresh_bool)) ∧ (type_of% (@unfresh_int) ∧ type_of% (@unfresh_str))) ∧ ((type_of% (@unfresh_nilp) ∧ type_of% (@unfresh_nilf)) ∧ (type_of% (@unfresh_ro) ∧ type_of% (@unfresh_clip)))))) ∧ (((((type_of% (@unfresh_lis) ∧ type_of% (@unfresh_ptr)) ∧ (type_of% (@unfresh_rp) ∧ type_of% (@unfresh_clo))) ∧ ((type_of% (@unfresh_yld) ∧ type_of% (@unfresh_agg)) ∧ (type_of% (@unfresh_tup) ∧ type_of% (@resV_bool)))) ∧ (((type_of% (@resV_int) ∧ type_of% (@resV_str)) ∧ (type_of% (@resV_ro) ∧ type_of% (@resV_clip))) ∧ ((type_of% (@resV_lis) ∧ type_of% (@resV_ptr)) ∧ (type_of% (@resV_agg) ∧ type_of% (@resV_clo))))) ∧ ((((type_of% (@ares_t) ∧ type_of% (@ares_cell)) ∧ (type_of% (@aresults0) ∧ type_of% (@aresults1))) ∧ ((type_of% (@mapO_nil) ∧ type_of% (@mapO_cons)) ∧ (type_of% (@aresults2) ∧ type_of% (@ZV_normal)))) ∧ (((type_of% (@ZV_ret) ∧ type_of% (@ZR_normal)) ∧ (type_of% (@ZR_ret) ∧ type_of% (@expRes_bool))) ∧ ((type_of% (@expRes_int) ∧ type_of% (@expRes_str)) ∧ (type_of% (@expRes_ro) ∧ type_of% (@expRes_clip)))))))) ∧ ((((((type_of% (@expRes_lis) ∧ (type_of% (@expRes_agg) ∧ type_of% (@expIn_bool))) ∧ ((type_of% (@expIn_int) ∧ type_of% (@expIn_str)) ∧ (type_of% (@expIn_ro) ∧ type_of% (@expIn_clip)))) ∧ (((type_of% (@expIn_lis) ∧ type_of% (@expIn_agg)) ∧ (type_of% (@take_bool) ∧ type_of% (@take_int))) ∧ ((type_of% (@take_str) ∧ type_of% (@take_ro)) ∧ (type_of% (@take_clip) ∧ type_of% (@take_clo))))) ∧ ((((type_of% (@take_agg) ∧ type_of% (@snap_lis)) ∧ (type_of% (@snap_bool) ∧ type_of% (@snap_int))) ∧ ((type_of% (@snap_str) ∧ type_of% (@snap_ro)) ∧ (type_of% (@snap_clip) ∧ type_of% (@snap_rp)))) ∧ (((type_of% (@snap_agg) ∧ type_of% (@snap_clo)) ∧ (type_of% (@get_cons) ∧ type_of% (@ev_t))) ∧ ((type_of% (@ev_c) ∧ type_of% (@mask_eq)) ∧ (type_of% (@rd_rp) ∧ type_of% (@O_guard)))))) ∧ ((((type_of% (@O_nil_q) ∧ (type_of% (@expRes_tup) ∧ type_of% (@take_tup))) ∧ ((type_of% (@CR_clo0) ∧ type_of% (@CR_clo1)) ∧ (type_of% (@CR_clo2) ∧ type_of% (@CR_clo3)))) ∧ (((type_of% (@CR_clo4) ∧ type_of% (@k_loop)) ∧ (type_of% (@List.map_cons.{0, 0}) ∧ type_of% (@List.map_nil.{0, 0}))) ∧ ((type_of% (@List.replicate_succ.{0}) ∧ type_of% (@List.replicate_zero.{0})) ∧ (type_of% (@List.cons_append.{0}) ∧ type_of% (@List.nil_append.{0}))))) ∧ ((((type_of% (@List.append_nil.{0}) ∧ type_of% (@List.length_cons.{0})) ∧ (type_of% (@List.length_nil.{0}) ∧ type_of% (@List.getElem?_cons_zero.{0}))) ∧ ((type_of% (@List.getElem?_cons_succ.{0}) ∧ type_of% (@List.set_cons_zero.{0})) ∧ (type_of% (@List.set_cons_succ.{0}) ∧ type_of% (@List.any_cons.{0})))) ∧ (((type_of% (@List.any_nil.{0}) ∧ type_of% (@List.all_cons.{0})) ∧ (type_of% (@List.all_nil.{0}) ∧ type_of% (@List.take_succ_cons.{0}))) ∧ ((type_of% (@List.take_zero.{0}) ∧ type_of% (@List.drop_succ_cons.{0})) ∧ (type_of% (@List.drop_zero.{0}) ∧ type_of% (@Bool.false_or))))))) ∧ (((((type_of% (@Bool.or_false) ∧ (type_of% (@Bool.and_true) ∧ type_of% (@Bool.true_and))) ∧ ((type_of% (@Bool.not_true) ∧ type_of% (@Bool.not_false)) ∧ (type_of% (@Bool.and_self) ∧ type_of% (@Bool.false_eq_true)))) ∧ (((type_of% (@Bool.and_false) ∧ type_of% (@Bool.false_and)) ∧ (type_of% (@Bool.not_not) ∧ type_of% (@beq_self_eq_true.{0}))) ∧ ((type_of% (@Nat.zero_add) ∧ type_of% (@Nat.add_zero)) ∧ (type_of% (@Nat.sub_zero) ∧ type_of% (@piece_hd))))) ∧ ((((type_of% (@Option.bind_some.{0, 0}) ∧ type_of% (@Option.bind_none.{0, 0})) ∧ (type_of% (@Option.map_some.{0, 0}) ∧ type_of% (@Option.map_none.{0, 0}))) ∧ ((type_of% (@and_self) ∧ type_of% (@and_true)) ∧ (type_of% (@true_and) ∧ type_of% (@if_true.{1})))) ∧ (((type_of% (@if_false.{1}) ∧ type_of% (@decide_true)) ∧ (type_of% (@decide_false) ∧ type_of% (@or_true))) ∧ ((type_of% (@true_or) ∧ type_of% (@ite_true.{1})) ∧ (type_of% (@ite_false.{1}) ∧ type_of% (@ne_eq.{1})))))) ∧ (((((type_of% (@not_false_eq_true) ∧ type_of% (@not_true_eq_false)) ∧ (type_of% (@Int.toNat_natCast) ∧ type_of% (@Nat.mul_one))) ∧ ((type_of% (@Nat.one_mul) ∧ type_of% (@Int.cast_ofNat_Int)) ∧ (type_of% (@Int.zero_add) ∧ type_of% (@IntWalk.i64_in)))) ∧ (((type_of% (@IntWalk.u8_in) ∧ type_of% (@IntWalk.u64_in)) ∧ (type_of% (@data_nil) ∧ type_of% (@data_cons))) ∧ ((type_of% (@ovr_hd) ∧ type_of% (@Int.natCast_nonneg)) ∧ (type_of% (@Nat.zero_le) ∧ type_of% (@Nat.le_refl))))) ∧ ((((type_of% (@false_and) ∧ type_of% (@false_or)) ∧ (type_of% (@or_false) ∧ type_of% (@Bool.true_or))) ∧ ((type_of% (@O_buildRf) ∧ type_of% (@O_strof)) ∧ (type_of% (@O_mk) ∧ type_of% (@O_sliceL)))) ∧ (((type_of% (@O_appIn) ∧ type_of% (@refs_refs)) ∧ (type_of% (@refs_rq) ∧ type_of% (@belowR_nil))) ∧ ((type_of% (@belowR_cons) ∧ type_of% (@unfresh_refs)) ∧ (type_of% (@unfresh_rq) ∧ type_of% (@rd_rq))))))))) := ⟨⟨⟨⟨⟨⟨⟨@k_nil, ⟨@k_code, @k_code_e⟩⟩, ⟨⟨@k_code_r, @k_blk⟩, ⟨@k_blk_e, @k_blk_r⟩⟩⟩, ⟨⟨⟨@k_loop_e, @k_loop_r⟩, ⟨@R_skip, @R_exit⟩⟩, ⟨⟨@R_ret, @R_seq⟩, ⟨@R_block, @R_loop⟩⟩⟩⟩, ⟨⟨⟨⟨@R_cond, @Cd_bool⟩, ⟨@Ci_true, @Ci_false⟩⟩, ⟨⟨@R_region, @O_nil⟩, ⟨@Gd_bool, @Gd_bool_f⟩⟩⟩, ⟨⟨⟨@Gj_true, @Gj_false⟩, ⟨@Gd_tup, @Gi_true⟩⟩, ⟨⟨@Gi_false, @V_some⟩, ⟨@VB_some, @VS_some⟩⟩⟩⟩⟩, ⟨⟨⟨⟨@VR_some, ⟨@putD_some, @putD_none⟩⟩, ⟨⟨@O_mv, @O_pick⟩, ⟨@O_bin, @O_eqb⟩⟩⟩, ⟨⟨⟨@O_not, @O_neg⟩, ⟨@O_conv, @O_load⟩⟩, ⟨⟨@O_store, @O_storeF⟩, ⟨@O_boxY, @O_loadY⟩⟩⟩⟩, ⟨⟨⟨⟨@boxY_yld, @loadY_yp⟩, ⟨@unfresh_yp, @O_buildSlF⟩⟩, ⟨⟨@O_faddr, @O_fld⟩, ⟨@O_idx, @O_eqagg⟩⟩⟩, ⟨⟨⟨@O_iaddr, @O_isnil⟩, ⟨@O_nilck, @O_pnil⟩⟩, ⟨⟨@O_clo, @O_slice⟩, ⟨@O_sslice, @O_extr⟩⟩⟩⟩⟩⟩, ⟨⟨⟨⟨⟨@O_len, ⟨@O_slen, @O_lenc⟩⟩, ⟨⟨@O_min, @O_max⟩, ⟨@O_sidx, @O_newl⟩⟩⟩, ⟨⟨⟨@O_allocL, @O_boxL⟩, ⟨@O_buildL, @O_buildSl⟩⟩, ⟨⟨@O_slarr, @O_append⟩, ⟨@O_copy, @O_clear⟩⟩⟩⟩, ⟨⟨⟨⟨@O_callV0, @O_callV1⟩, ⟨@O_callV2, @CV_some⟩⟩, ⟨⟨@CVX_some, @CX_fresh⟩, ⟨@CX_aggf, @CW_some_nil⟩⟩⟩, ⟨⟨⟨@O_callR, @unfresh_bool⟩, ⟨@unfresh_int, @unfresh_str⟩⟩, ⟨⟨@unfresh_nilp, @unfresh_nilf⟩, ⟨@unfresh_ro, @unfresh_clip⟩⟩⟩⟩⟩, ⟨⟨⟨⟨⟨@unfresh_lis, @unfresh_ptr⟩, ⟨@unfresh_rp, @unfresh_clo⟩⟩, ⟨⟨@unfresh_yld, @unfresh_agg⟩, ⟨@unfresh_tup, @resV_bool⟩⟩⟩, ⟨⟨⟨@resV_int, @resV_str⟩, ⟨@resV_ro, @resV_clip⟩⟩, ⟨⟨@resV_lis, @resV_ptr⟩, ⟨@resV_agg, @resV_clo⟩⟩⟩⟩, ⟨⟨⟨⟨@ares_t, @ares_cell⟩, ⟨@aresults0, @aresults1⟩⟩, ⟨⟨@mapO_nil, @mapO_cons⟩, ⟨@aresults2, @ZV_normal⟩⟩⟩, ⟨⟨⟨@ZV_ret, @ZR_normal⟩, ⟨@ZR_ret, @expRes_bool⟩⟩, ⟨⟨@expRes_int, @expRes_str⟩, ⟨@expRes_ro, @expRes_clip⟩⟩⟩⟩⟩⟩⟩, ⟨⟨⟨⟨⟨⟨@expRes_lis, ⟨@expRes_agg, @expIn_bool⟩⟩, ⟨⟨@expIn_int, @expIn_str⟩, ⟨@expIn_ro, @expIn_clip⟩⟩⟩, ⟨⟨⟨@expIn_lis, @expIn_agg⟩, ⟨@take_bool, @take_int⟩⟩, ⟨⟨@take_str, @take_ro⟩, ⟨@take_clip, @take_clo⟩⟩⟩⟩, ⟨⟨⟨⟨@take_agg, @snap_lis⟩, ⟨@snap_bool, @snap_int⟩⟩, ⟨⟨@snap_str, @snap_ro⟩, ⟨@snap_clip, @snap_rp⟩⟩⟩, ⟨⟨⟨@snap_agg, @snap_clo⟩, ⟨@get_cons, @ev_t⟩⟩, ⟨⟨@ev_c, @mask_eq⟩, ⟨@rd_rp, @O_guard⟩⟩⟩⟩⟩, ⟨⟨⟨⟨@O_nil_q, ⟨@expRes_tup, @take_tup⟩⟩, ⟨⟨@CR_clo0, @CR_clo1⟩, ⟨@CR_clo2, @CR_clo3⟩⟩⟩, ⟨⟨⟨@CR_clo4, @k_loop⟩, ⟨@List.map_cons.{0, 0}, @List.map_nil.{0, 0}⟩⟩, ⟨⟨@List.replicate_succ.{0}, @List.replicate_zero.{0}⟩, ⟨@List.cons_append.{0}, @List.nil_append.{0}⟩⟩⟩⟩, ⟨⟨⟨⟨@List.append_nil.{0}, @List.length_cons.{0}⟩, ⟨@List.length_nil.{0}, @List.getElem?_cons_zero.{0}⟩⟩, ⟨⟨@List.getElem?_cons_succ.{0}, @List.set_cons_zero.{0}⟩, ⟨@List.set_cons_succ.{0}, @List.any_cons.{0}⟩⟩⟩, ⟨⟨⟨@List.any_nil.{0}, @List.all_cons.{0}⟩, ⟨@List.all_nil.{0}, @List.take_succ_cons.{0}⟩⟩, ⟨⟨@List.take_zero.{0}, @List.drop_succ_cons.{0}⟩, ⟨@List.drop_zero.{0}, @Bool.false_or⟩⟩⟩⟩⟩⟩, ⟨⟨⟨⟨⟨@Bool.or_false, ⟨@Bool.and_true, @Bool.true_and⟩⟩, ⟨⟨@Bool.not_true, @Bool.not_false⟩, ⟨@Bool.and_self, @Bool.false_eq_true⟩⟩⟩, ⟨⟨⟨@Bool.and_false, @Bool.false_and⟩, ⟨@Bool.not_not, @beq_self_eq_true.{0}⟩⟩, ⟨⟨@Nat.zero_add, @Nat.add_zero⟩, ⟨@Nat.sub_zero, @piece_hd⟩⟩⟩⟩, ⟨⟨⟨⟨@Option.bind_some.{0, 0}, @Option.bind_none.{0, 0}⟩, ⟨@Option.map_some.{0, 0}, @Option.map_none.{0, 0}⟩⟩, ⟨⟨@and_self, @and_true⟩, ⟨@true_and, @if_true.{1}⟩⟩⟩, ⟨⟨⟨@if_false.{1}, @decide_true⟩, ⟨@decide_false, @or_true⟩⟩, ⟨⟨@true_or, @ite_true.{1}⟩, ⟨@ite_false.{1}, @ne_eq.{1}⟩⟩⟩⟩⟩, ⟨⟨⟨⟨⟨@not_false_eq_true, @not_true_eq_false⟩, ⟨@Int.toNat_natCast, @Nat.mul_one⟩⟩, ⟨⟨@Nat.one_mul, @Int.cast_ofNat_Int⟩, ⟨@Int.zero_add, @IntWalk.i64_in⟩⟩⟩, ⟨⟨⟨@IntWalk.u8_in, @IntWalk.u64_in⟩, ⟨@data_nil, @data_cons⟩⟩, ⟨⟨@ovr_hd, @Int.natCast_nonneg⟩, ⟨@Nat.zero_le, @Nat.le_refl⟩⟩⟩⟩, ⟨⟨⟨⟨@false_and, @false_or⟩, ⟨@or_false, @Bool.true_or⟩⟩, ⟨⟨@O_buildRf, @O_strof⟩, ⟨@O_mk, @O_sliceL⟩⟩⟩, ⟨⟨⟨@O_appIn, @refs_refs⟩, ⟨@refs_rq, @belowR_nil⟩⟩, ⟨⟨@belowR_cons, @unfresh_refs⟩, ⟨@unfresh_rq, @rd_rq⟩⟩⟩⟩⟩⟩⟩⟩
theorem R7B : ((((type_of% (@get_at) ∧ type_of% (@set_at)) ∧ (type_of% (@get_add) ∧ (type_of% (@set_add) ∧ type_of% (@ZA_normal)))) ∧ ((type_of% (@ZH_normal) ∧ type_of% (@ZH_ret)) ∧ (type_of% (@ZH_exit) ∧ (type_of% (@shrink_true) ∧ type_of% (@refs_undef))))) ∧ (((type_of% (@refs_bool) ∧ type_of% (@refs_int)) ∧ (type_of% (@take_fresh_t) ∧ (type_of% (@take_fresh_f) ∧ type_of% (@takeL_nil)))) ∧ ((type_of% (@takeL_fresh_t) ∧ (type_of% (@takeL_fresh_f) ∧ type_of% (@takeL_int))) ∧ (type_of% (@takeL_bool) ∧ (type_of% (@takeL_agg) ∧ type_of% (@takeL_ro)))))) := ⟨⟨⟨⟨@get_at, @set_at⟩, ⟨@get_add, ⟨@set_add, @ZA_normal⟩⟩⟩, ⟨⟨@ZH_normal, @ZH_ret⟩, ⟨@ZH_exit, ⟨@shrink_true, @refs_undef⟩⟩⟩⟩, ⟨⟨⟨@refs_bool, @refs_int⟩, ⟨@take_fresh_t, ⟨@take_fresh_f, @takeL_nil⟩⟩⟩, ⟨⟨@takeL_fresh_t, ⟨@takeL_fresh_f, @takeL_int⟩⟩, ⟨@takeL_bool, ⟨@takeL_agg, @takeL_ro⟩⟩⟩⟩⟩
end Go.Proofs.YtgajekpigkknnaaDoor.A
