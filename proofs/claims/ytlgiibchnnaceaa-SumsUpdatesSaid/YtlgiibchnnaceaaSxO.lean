/- Sx, part 3: what an operation makes of values by terms. Conditions: none. -/
import Derived.Test.YtlgiibchnnaceaaSxV
set_option linter.unusedVariables false
set_option linter.unusedSimpArgs false
namespace Go.Proofs.Ytlgiibchnnaceaa.Sx
open Go Go.RowKit

/-- What an operation leaves: its value, the blocks that it makes, turns or gives up, the next free name. -/
structure Res where
  val : V
  eff : List (Nat × Option MB)
  nb : Nat
  deriving Repr
abbrev Bs := List (Nat × MB)
structure Ctx where
  P : Program
  call : Facts → FuncId → List V → Bs → Nat → O Res

def V.c (x : C) : V := .w (.c x)
def rv (nb : Nat) (v : V) : O Res := .ret ⟨v, [], nb⟩
def noV : V := .u

/-! Types. -/
def aggT (P : Program) (t : TypeId) : Option Bool :=
  match P.underlying t with
  | some (.struct _) => some true
  | some (.array _ _) => some true
  | some _ => some false
  | none => none
def sizeT (P : Program) (t : TypeId) : Option Nat := (P.info? t).map (·.size)
def bytesT (P : Program) (t : TypeId) : Option Nat := (P.info? t).map (·.bytes)
def constC : Value → Option C
  | .int k z => some (.i k (.num z))
  | .bool p => some (.b (.bol p))
  | .pointer none => some .pn
  | .slice none 0 0 => some .sn
  | .nilFunc => some .nf
  | _ => none
def constCs : List Value → Option (List C)
  | [] => some []
  | v :: vs => match constC v with
    | some c => match constCs vs with
      | some cs => some (c :: cs)
      | none => none
    | none => none
def constV (v : Value) : V := match constC v with
  | some c => .c c
  | none => .u
def zeroC (P : Program) (t : TypeId) : Option (List C) :=
  match P.info? t with
  | some i => match i.zero with
    | some z => constCs z.cells.toList
    | none => none
  | none => none
/-- Kinds and terms of cells that are all whole numbers. -/
def intsT : List C → Option (List IntKind × T)
  | [] => some ([], .nil)
  | .i k t :: cs => match intsT cs with
    | some (ks, l) => some (k :: ks, .cons t l)
    | none => none
  | _ => none
/-- Do kinds come again and again? -/
def cyc (ks : List IntKind) : Nat → List IntKind → Bool
  | _, [] => true
  | i, k :: l => Nat.beq (knum k) (knum (ks.getD (i % ks.length) .u8)) && cyc ks (i + 1) l
/-- Kinds of an element's cells, all whole numbers. -/
def elemK (P : Program) (e : TypeId) : Option (List IntKind) :=
  match zeroC P e with
  | some cs => match intsT cs with
    | some (k :: ks, _) => some (k :: ks)
    | _ => none
  | none => none
def putL {α : Type} (xs : List α) (off : Nat) (ys : List α) : List α := xs.take off ++ (ys ++ xs.drop (off + ys.length))
def fillC (place : Nat → Option (Nat × Nat)) (cells : List C) : List (Nat × List C) → Option (List C)
  | [] => some cells
  | (i, v) :: rest =>
    match place i with
    | none => none
    | some (off, size) => if v.length = size then (if off + v.length ≤ cells.length then fillC place (putL cells off v) rest else none) else none
def placesT (P : Program) (t : TypeId) : Option (Nat → Option (Nat × Nat)) :=
  match P.underlying t with
  | some (.struct fields) => if fields.toList.all (fun f => (sizeT P f.type).isSome) then some (fun i => (fields[i]?).map fun f => (f.offset, P.cellsOf f.type)) else none
  | some (.array _ e) => match sizeT P e with
    | some s => some (fun i => some (i * s, s))
    | none => none
  | _ => none
def V.cells? : V → Option (List C)
  | .w x => some x.cells
  | _ => none
def partsV : List (Nat × Operand) → List V → Option (List (Nat × List C))
  | [], [] => some []
  | (i, _) :: ps, v :: vs => match v.cells? with
    | some cs => match partsV ps vs with
      | some r => some ((i, cs) :: r)
      | none => none
    | none => none
  | _, _ => none

/-! Cells of blocks. -/
def getLit (xs : List C) (off n : Nat) : O (List C) := if off + n ≤ xs.length then .ret ((xs.drop off).take n) else .fail 10
/-- The leading cells that are whole numbers of kind k. -/
def headI (k : IntKind) : List C → T × Nat
  | .i j t :: cs => if Nat.beq (knum j) (knum k) then (.cons t (headI k cs).1, (headI k cs).2 + 1) else (.nil, 0)
  | _ => (.nil, 0)
def chain {α : Type} (e : T) (f : Nat → O α) : Nat → Nat → O α
  | 0, _ => .fail 11
  | n + 1, c => splT (mkEq e (.num (.ofNat c))) (f c) (chain e f n (c + 1))
def rowCells (ks : List IntKind) (l idx : T) : Nat → Nat → List C
  | 0, _ => []
  | n + 1, i => .i (ks.getD (i % ks.length) .u8) (mkRd l (mkAdd idx (.num (.ofNat i)))) :: rowCells ks l idx n (i + 1)
def getRow (ks : List IntKind) (l : T) (e : T) (st r n : Nat) : O (List C) :=
  if ks.length = 0 then .fail 12 else if st % ks.length = 0 then
    let idx := mkMul e (.num (.ofNat st))
    chkT (mkLe (.num 0) e) (chkT (mkLe (mkAdd idx (.num (.ofNat (r + n)))) (mkLen l)) (.ret (rowCells ks l idx n r)))
  else .fail 13
def getCells (b : Blk) (e : T) (st r n : Nat) : O (List C) :=
  match b with
  | .row ks l => getRow ks l e st r n
  | .cells xs =>
    match e with
    | .num (.ofNat z) => getLit xs (r + z * st) n
    | .num (.negSucc _) => .fail 14
    | e =>
      if st = 0 then .fail 15 else
      match xs.drop r, st, n with
      | .i k t :: cs, 1, 1 =>
        let h := headI k (.i k t :: cs)
        chkT (mkLe (.num 0) e) (chkT (mkLt e (.num (.ofNat h.2))) (.ret [.i k (mkRd h.1 e)]))
      | _, _, _ => chkT (mkLe (.num 0) e) (chain e (fun c => getLit xs (r + c * st) n) ((xs.length - r) / st + 1) 0)
def putLit (xs : List C) (off : Nat) (ys : List C) : O Blk := if off + ys.length ≤ xs.length then .ret (.cells (putL xs off ys)) else .fail 16
def setRow (ks : List IntKind) (l idx : T) : Nat → List C → Option T
  | _, [] => some l
  | i, .i k t :: cs => if Nat.beq (knum k) (knum (ks.getD (i % ks.length) .u8)) then setRow ks (mkSet l (mkAdd idx (.num (.ofNat i))) t) idx (i + 1) cs else none
  | _, _ => none
def putCells (b : Blk) (e : T) (st r : Nat) (ys : List C) : O Blk :=
  match b with
  | .row ks l =>
    if ks.length = 0 then .fail 17 else if st % ks.length = 0 then
      let idx := mkMul e (.num (.ofNat st))
      chkT (mkLe (.num 0) e) (chkT (mkLe (mkAdd idx (.num (.ofNat (r + ys.length)))) (mkLen l)) (ofOpt 18 ((setRow ks l idx r ys).map (.row ks))))
    else .fail 19
  | .cells xs =>
    match e with
    | .num (.ofNat z) => putLit xs (r + z * st) ys
    | .num (.negSucc _) => .fail 20
    | e => if st = 0 then .fail 21 else chkT (mkLe (.num 0) e) (chain e (fun c => putLit xs (r + c * st) ys) ((xs.length - r) / st + 1) 0)
/-- A slice's elements as a row of whole numbers. -/
def sliceT (b : Blk) (st r : Nat) (o len : T) : O (List IntKind × T) :=
  match b with
  | .row ks l => if Nat.beq ks.length st && Nat.ble 1 st then
      (if Nat.beq r 0 then chkT (mkLe (mkMul (mkAdd o len) (.num (.ofNat st))) (mkLen l)) (.ret (ks, mkTake (mkMul len (.num (.ofNat st))) (mkDrop (mkMul o (.num (.ofNat st))) l)))
      else if Nat.beq st 1 then chkT (mkLe (mkAdd (mkAdd o (.num (.ofNat r))) len) (mkLen l)) (.ret (ks, mkTake len (mkDrop (mkAdd o (.num (.ofNat r))) l))) else .fail 22) else .fail 23
  | .cells xs => match o, len with
    | .num (.ofNat o), .num (.ofNat n) => if r + (o + n) * st ≤ xs.length then
        (match intsT ((xs.drop (r + o * st)).take (n * st)) with
        | some (ks, l) => if cyc (ks.take st) 0 ks then .ret (ks.take st, l) else .fail 24
        | none => .fail 25) else .fail 26
    | _, _ => .fail 27

/-! The operations. -/
def opPick (nb : Nat) : V → V → V → O Res
  | .w (.c (.b t)), a, b => splT t (rv nb a) (rv nb b)
  | _, _, _ => .fail 30
def newBlk (nb : Nat) (b : Blk) : List (Nat × Option MB) := [(nb, some ⟨true, b⟩)]
def ptrTo (nb : Nat) : V := .c (.p nb (.num 0) 0 0)
def opAlloc (P : Program) (e : TypeId) (nb : Nat) : O Res :=
  match zeroC P e with
  | some cs => .ret ⟨ptrTo nb, newBlk nb (.cells cs), nb + 1⟩
  | none => .fail 31
def opBox (nb : Nat) (x : V) : O Res :=
  match x.cells? with
  | some cs => .ret ⟨ptrTo nb, newBlk nb (.cells cs), nb + 1⟩
  | none => .fail 32
def opBuild (P : Program) (t : TypeId) (ps : List (Nat × Operand)) (vs : List V) (nb : Nat) : O Res :=
  match zeroC P t with
  | none => .fail 33
  | some z => match partsV ps vs with
    | none => .fail 34
    | some parts => match placesT P t with
      | some place => match fillC place z parts with
        | some cs => rv nb (.w (.g cs))
        | none => .fail 35
      | none => .fail 36
def rowOrCells (st : Nat) (cs : List C) : Blk :=
  match intsT cs with
  | some (k :: ks, l) => if cyc ((k :: ks).take st) 0 (k :: ks) then .row ((k :: ks).take st) l else .cells cs
  | _ => .cells cs
def copies {α : Type} (xs : List α) : Nat → List α
  | 0 => []
  | n + 1 => xs ++ copies xs n
def opBuildSlice (P : Program) (t : TypeId) (len : Nat) (ps : List (Nat × Operand)) (vs : List V) (nb : Nat) : O Res :=
  match P.underlying t with
  | some (.slice e) => match sizeT P e with
    | none => .fail 37
    | some st => if 0 < st then (if len * st ≤ 16777216 then (match zeroC P e with
      | none => .fail 38
      | some z => if z.length = st then (match partsV ps vs with
        | none => .fail 39
        | some parts => match fillC (fun i => some (i * st, st)) (copies z len) parts with
          | some cs => .ret ⟨.c (.s nb st 0 (.num 0) (.num (.ofNat len))), newBlk nb (rowOrCells st cs), nb + 1⟩
          | none => .fail 40) else .fail 41) else .fail 42) else .fail 43
  | _ => .fail 44
def wrapW (agg : Bool) (cs : List C) : O V :=
  if agg then .ret (.w (.g cs)) else match cs with
    | [c] => .ret (.c c)
    | _ => .fail 45
def opLoad (P : Program) (t : TypeId) (bs : Bs) (nb : Nat) : V → O Res
  | .w (.c (.p j e st r)) => match look bs j with
    | none => .fail 46
    | some m => match aggT P t with
      | none => .fail 47
      | some agg => match (if agg then sizeT P t else some 1) with
        | none => .fail 48
        | some n => (getCells m.k e st r n).bind fun cs => (wrapW agg cs).bind fun v => rv nb v
  | _ => .fail 49
def opStore (P : Program) (t : TypeId) (bs : Bs) (nb : Nat) : V → V → O Res
  | .w (.c (.p j e st r)), x => match look bs j with
    | none => .fail 50
    | some m => if m.rw then (match x.cells? with
      | none => .fail 51
      | some cs => match sizeT P t with
        | none => .fail 52
        | some n => if n = cs.length then (putCells m.k e st r cs).bind fun b => .ret ⟨.u, [(j, some ⟨true, b⟩)], nb⟩ else .fail 53) else .fail 54
  | _, _ => .fail 55
def opNilCheck (nb : Nat) : V → O Res
  | .w (.c (.p j e st r)) => rv nb (.c (.p j e st r))
  | .w (.c (.fn f)) => rv nb (.c (.fn f))
  | _ => .fail 56
def flatFs (P : Program) (fl : TypeId → Option (List IntKind)) : List Field → Nat → Option (List IntKind)
  | [], _ => some []
  | f :: fs, off => if f.name = "_" then none else if Nat.beq f.offset off then
      (match fl f.type with
      | some ks => if sizeT P f.type = some ks.length then (match flatFs P fl fs (off + ks.length) with
        | some r => some (ks ++ r)
        | none => none) else none
      | none => none) else none
/-- The kinds of a type's cells, if all are whole numbers in fields and arrays. -/
def flatK (P : Program) : Nat → TypeId → Option (List IntKind)
  | 0, _ => none
  | d + 1, t =>
    match P.underlying t with
    | some (.int k) => some [k]
    | some (.struct fs) => if P.stoodInHeld t then none else flatFs P (flatK P d) fs.toList 0
    | some (.array n e) => match flatK P d e with
      | some ks => if sizeT P e = some ks.length then some (copies ks n) else none
      | none => none
    | _ => none
def opEq (P : Program) (t : TypeId) : V → V → O T
  | .w (.c (.b x)), .w (.c (.b y)) => match P.underlying t with
    | some .bool => .ret (mkBeq x y)
    | _ => .fail 60
  | .w (.c (.p ..)), .w (.c .pn) => match P.underlying t with
    | some (.pointer _) => .ret (.bol false)
    | _ => .fail 61
  | .w (.c .pn), .w (.c (.p ..)) => match P.underlying t with
    | some (.pointer _) => .ret (.bol false)
    | _ => .fail 61
  | .w (.c .pn), .w (.c .pn) => match P.underlying t with
    | some (.pointer _) => .ret (.bol true)
    | _ => .fail 62
  | .w (.g xs), .w (.g ys) => match flatK P 8 t, intsT xs, intsT ys with
    | some ks, some (k1, l1), some (k2, l2) =>
      if kbeqL ks k1 && kbeqL ks k2 && !P.eqGuardType P.depth t then (match aggT P t with
        | some true => .ret (mkLeq l1 l2)
        | _ => .fail 59) else .fail 63
    | _, _, _ => .fail 64
  | _, _ => .fail 65
def boolR (nb : Nat) (t : T) : O Res := rv nb (.c (.b t))
def intR (nb : Nat) (k : IntKind) (t : T) : O Res := rv nb (.c (.i k t))
def shiftN (k : IntKind) (z : Nat) : Nat := if z ≤ k.bits then z else k.bits
def opBin (P : Program) (op : BinOp) (t : TypeId) (nb : Nat) (x y : V) : O Res :=
  match x, y with
  | .w (.c (.i k a)), .w (.c (.i j b)) =>
    match op with
    | .shl => match b with
      | .num (.ofNat z) => intR nb k (mkWr k (mkMul a (.num (2 ^ shiftN k z))))
      | _ => .fail 66
    | .shr => match b with
      | .num (.ofNat z) => intR nb k (mkFdiv a (.num (2 ^ shiftN k z)))
      | _ => .fail 67
    | op =>
      if Nat.beq (knum k) (knum j) then
        match op with
        | .add => intR nb k (mkWr k (mkAdd a b))
        | .sub => intR nb k (mkWr k (mkSub a b))
        | .mul => intR nb k (mkWr k (mkMul a b))
        | .quo => chkT (mkNot (mkEq b (.num 0))) (intR nb k (mkWr k (mkQuo a b)))
        | .rem => chkT (mkNot (mkEq b (.num 0))) (intR nb k (mkRem a b))
        | .and => intR nb k (mkBits .and k a b)
        | .or => intR nb k (mkBits .or k a b)
        | .xor => intR nb k (mkBits .xor k a b)
        | .andNot => intR nb k (mkBits .andNot k a b)
        | .eql => boolR nb (mkEq a b)
        | .neq => boolR nb (mkNot (mkEq a b))
        | .lss => boolR nb (mkLt a b)
        | .leq => boolR nb (mkLe a b)
        | .gtr => boolR nb (mkLt b a)
        | .geq => boolR nb (mkLe b a)
        | _ => .fail 68
      else .fail 69
  | x, y => match op with
    | .eql => (opEq P t x y).bind fun r => boolR nb r
    | .neq => (opEq P t x y).bind fun r => boolR nb (mkNot r)
    | _ => .fail 70
def opUn (op : UnOp) (nb : Nat) : V → O Res
  | .w (.c (.b t)) => match op with
    | .not => boolR nb (mkNot t)
    | _ => .fail 71
  | .w (.c (.i k t)) => match op with
    | .neg => intR nb k (mkWr k (mkSub (.num 0) t))
    | .xor => intR nb k (mkBits .xor k (.num (if k.signed then -1 else k.max)) t)
    | _ => .fail 72
  | _ => .fail 73
def opConvert (P : Program) (src dst : TypeId) (nb : Nat) : V → O Res
  | .w (.c (.i _ t)) => match P.underlying src, P.underlying dst with
    | some _, some (.int k) => intR nb k (mkWr k t)
    | _, _ => .fail 74
  | _ => .fail 75
def opArrayAt (P : Program) (arr : TypeId) (nb : Nat) : V → O Res
  | .w (.c (.s j st r o len)) => match P.underlying arr with
    | some (.array n _) => if 0 < n then chkT (mkLe (.num (.ofNat n)) len) (rv nb (.c (.p j o st r))) else .fail 76
    | _ => .fail 77
  | _ => .fail 78
def opMakeSlice (P : Program) (t : TypeId) (nb : Nat) : V → V → O Res
  | .w (.c (.i _ len)), .w (.c (.i _ cap)) => match P.underlying t with
    | some (.slice e) => match P.info? e with
      | none => .fail 79
      | some i => if 0 < i.size then (match zeroC P e with
        | none => .fail 80
        | some z => if z.length = i.size then (if len.beq cap then
          chkT (mkLe (.num 0) len) (chkT (mkLe (mkMul len (.num (.ofNat i.bytes))) (.num 140737488355328)) (chkT (mkLe len (.num 140737488355328))
            (match len with
            | .num (.ofNat n) => if Nat.ble n 64 then .ret ⟨.c (.s nb i.size 0 (.num 0) len), newBlk nb (rowOrCells i.size (copies z n)), nb + 1⟩ else (match intsT z with
              | some (ks, l) => if ks.length = 0 then .fail 157 else .ret ⟨.c (.s nb i.size 0 (.num 0) len), newBlk nb (.row ks (.c2 .rep len l)), nb + 1⟩
              | none => .fail 158)
            | len => match intsT z with
              | some (ks, l) => if ks.length = 0 then .fail 81 else .ret ⟨.c (.s nb i.size 0 (.num 0) len), newBlk nb (.row ks (mkRep len l)), nb + 1⟩
              | none => .fail 82))) else .fail 83) else .fail 84) else .fail 85
    | _ => .fail 86
  | _, _ => .fail 87
def boundT : Option V → T → Option T
  | none, d => some d
  | some (.w (.c (.i _ t))), _ => some t
  | _, _ => none
/-- A pointer's cells as the first cells of a slice: where it begins. -/
def baseOf (e : T) (st r : Nat) : Option Nat := match e with
  | .num (.ofNat z) => some (r + z * st)
  | _ => if st = 0 then some r else none
def opSlice (P : Program) (t : TypeId) (bs : Bs) (nb : Nat) (x : V) (lo hi mx : Option V) : O Res :=
  match P.underlying t with
  | some (.slice e) => match sizeT P e with
    | none => .fail 88
    | some sz => match x with
      | .w (.c (.s j st r o len)) => if Nat.beq sz st then (match mx with
        | none => match boundT hi len, boundT lo (.num 0) with
          | some h, some l => chkT (mkLe (.num 0) l) (chkT (mkLe l h) (chkT (mkLe h len) (rv nb (.c (.s j st r (mkAdd o l) (mkSub h l))))))
          | _, _ => .fail 89
        | some m => match boundT (some m) (.num 0), boundT hi (.num 1), boundT lo (.num 0) with
          | some (.num (.ofNat 0)), some (.num (.ofNat 0)), some (.num (.ofNat 0)) => rv nb (.c .sz)
          | some mT, some hT, some lT => if hi.isSome then chkT (mkLe (.num 0) lT) (chkT (mkLe lT hT) (chkT (mkLe hT mT) (chkT (mkLe mT len) (rv nb (.c (.s j st r (mkAdd o lT) (mkSub hT lT))))))) else .fail 167
          | _, _, _ => .fail 90) else .fail 91
      | .w (.c .sn) => match mx with
        | none => match boundT hi (.num 0), boundT lo (.num 0) with
          | some (.num (.ofNat 0)), some (.num (.ofNat 0)) => rv nb (.c .sn)
          | _, _ => .fail 92
        | some m => match boundT (some m) (.num 0), boundT hi (.num 1), boundT lo (.num 0) with
          | some (.num (.ofNat 0)), some (.num (.ofNat 0)), some (.num (.ofNat 0)) => rv nb (.c .sz)
          | _, _, _ => .fail 93
      | _ => .fail 94
  | some (.array n e) => match sizeT P e with
    | none => .fail 95
    | some sz => match x with
      | .w (.c (.p j pe st r)) => match mx, baseOf pe st r, look bs j with
        | none, some base, some ⟨_, .cells xs⟩ => if base + n * sz ≤ xs.length then match boundT hi (.num (.ofNat n)), boundT lo (.num 0) with
          | some h, some l => chkT (mkLe (.num 0) l) (chkT (mkLe l h) (chkT (mkLe h (.num (.ofNat n))) (rv nb (.c (.s j sz base l (mkSub h l))))))
          | _, _ => .fail 96 else .fail 155
        | _, _, _ => .fail 97
      | _ => .fail 98
  | _ => .fail 99
def opFieldAddr (P : Program) (t : TypeId) (f : Nat) (nb : Nat) : V → O Res
  | .w (.c (.p j e st r)) => match P.underlying t with
    | some (.struct fields) => match fields[f]? with
      | some fd => match sizeT P fd.type with
        | some n => if 0 < n then rv nb (.c (.p j e st (r + fd.offset))) else .fail 100
        | none => .fail 101
      | none => .fail 102
    | _ => .fail 103
  | _ => .fail 104
def partC (P : Program) (t : TypeId) (cs : List C) (off : Nat) : O V :=
  match aggT P t with
  | none => .fail 105
  | some agg => match (if agg then sizeT P t else some 1) with
    | none => .fail 106
    | some n => (getLit cs off n).bind fun r => wrapW agg r
def opField (P : Program) (t : TypeId) (f : Nat) (nb : Nat) : V → O Res
  | .w (.g cs) => match P.underlying t with
    | some (.struct fields) => match fields[f]? with
      | some fd => (partC P fd.type cs fd.offset).bind fun v => rv nb v
      | none => .fail 107
    | _ => .fail 108
  | _ => .fail 109
def opIndexAddr (P : Program) (t : TypeId) (nb : Nat) (x i : V) : O Res :=
  match i with
  | .w (.c (.i _ ix)) => match P.underlying t with
    | some (.slice e) => match sizeT P e, x with
      | some sz, .w (.c (.s j st r o len)) => if Nat.beq sz st then chkT (mkLe (.num 0) ix) (chkT (mkLt ix len) (rv nb (.c (.p j (mkAdd o ix) st r)))) else .fail 110
      | _, _ => .fail 111
    | some (.array n e) => match sizeT P e, x with
      | some sz, .w (.c (.p j pe st r)) => match ix with
        | .num (.ofNat z) => if z < n then rv nb (.c (.p j pe st (r + z * sz))) else .fail 112
        | ix => match baseOf pe st r with
          | some base => chkT (mkLe (.num 0) ix) (chkT (mkLt ix (.num (.ofNat n))) (rv nb (.c (.p j ix sz base))))
          | none => .fail 113
      | _, _ => .fail 114
    | _ => .fail 115
  | _ => .fail 116
def opIndex (P : Program) (t : TypeId) (nb : Nat) (x i : V) : O Res :=
  match x, i with
  | .w (.g cs), .w (.c (.i _ ix)) => match P.underlying t with
    | some (.array n e) => match sizeT P e with
      | none => .fail 117
      | some sz => match ix with
        | .num (.ofNat z) => if z < n then (partC P e cs (z * sz)).bind fun v => rv nb v else .fail 118
        | .num (.negSucc _) => .fail 119
        | ix => chkT (mkLe (.num 0) ix) (chkT (mkLt ix (.num (.ofNat n))) (chain ix (fun c => (partC P e cs (c * sz)).bind fun v => rv nb v) n 0))
    | _ => .fail 120
  | _, _ => .fail 121
def opExtract (i : Nat) (nb : Nat) : V → O Res
  | .t xs => match xs[i]? with
    | some x => rv nb (.w x)
    | none => .fail 122
  | _ => .fail 123
def opLen (P : Program) (at_ : Array TypeId) (nb : Nat) : List V → O Res
  | [x] => match at_[0]? with
    | none => .fail 124
    | some t => match P.underlying t with
      | some (.array n _) => intR nb .i64 (.num (.ofNat n))
      | some (.slice _) => match x with
        | .w (.c (.s j st r o len)) => intR nb .i64 len
        | .w (.c .sn) => intR nb .i64 (.num 0)
        | .w (.c .sz) => intR nb .i64 (.num 0)
        | _ => .fail 125
      | _ => .fail 126
  | _ => .fail 127
/-- A source's elements: kinds and row. -/
def srcT (st : Nat) (bs : Bs) : V → O (List IntKind × T × T)
  | .w (.c (.s j st' r o len)) => if Nat.beq st st' then
      (match look bs j with
      | some m => (sliceT m.k st r o len).bind fun (ks, l) => .ret (ks, l, len)
      | none => .fail 128) else .fail 129
  | .w (.c .sn) => .ret ([], .nil, .num 0)
  | .w (.c .sz) => .ret ([], .nil, .num 0)
  | _ => .fail 130
def kindsOk (want ks : List IntKind) : Bool := match ks with
  | [] => true
  | ks => kbeqL want ks
def appNew (ks : List IntKind) (st bytes : Nat) (nb : Nat) (lx n : T) : O Res :=
  chkT (mkLe (mkMul n (.num (.ofNat bytes))) (.num 140737488355328)) (.ret ⟨.c (.s nb st 0 (.num 0) n), newBlk nb (.row ks lx), nb + 1⟩)
def opAppend (P : Program) (at_ : Array TypeId) (bs : Bs) (nb : Nat) : List V → O Res
  | [s, x] => match at_.toList with
    | [t, tx] => match P.underlying t, P.underlying tx with
      | some (.slice e), some (.slice _) => match P.info? e, elemK P e with
        | some i, some ks => if Nat.beq ks.length i.size && Nat.ble 1 i.bytes then (srcT i.size bs x).bind fun (kx, lx, n) =>
            (if kindsOk ks kx then (match s with
            | .w (.c (.s j st r o len)) => (match look bs j with
              | some m => if m.rw && Nat.beq r 0 && o.beq (.num 0) && Nat.beq st i.size && !Nat.beq j nb then (sliceT m.k i.size 0 (.num 0) len).bind fun (kd, ld) =>
                  (if kindsOk ks kd then
                    chkT (mkLe (mkMul (mkAdd len n) (.num (.ofNat i.bytes))) (.num 140737488355328))
                      (.ret ⟨.c (.s nb i.size 0 (.num 0) (mkAdd len n)), [(nb, some ⟨true, .row ks (mkApp ld lx)⟩), (j, none)], nb + 1⟩) else .fail 131) else .fail 132
              | none => .fail 133)
            | .w (.c .sn) => appNew ks i.size i.bytes nb lx n
            | .w (.c .sz) => appNew ks i.size i.bytes nb lx n
            | _ => .fail 134) else .fail 135) else .fail 136
        | _, _ => .fail 137
      | _, _ => .fail 138
    | _ => .fail 139
  | _ => .fail 140
/-- copy: the number of elements, then the new row. -/
def opCopy (P : Program) (at_ : Array TypeId) (bs : Bs) (nb : Nat) : List V → O Res
  | [d, x] => match at_[0]? with
    | none => .fail 141
    | some t => match P.underlying t with
      | some (.slice e) => match sizeT P e with
        | none => .fail 142
        | some sz => match d with
          | .w (.c (.s j st r o len)) => (match look bs j with
            | none => .fail 143
            | some m => (srcT sz bs x).bind fun (kx, lx, n) => match m with
                | ⟨true, .row ks l⟩ => if Nat.beq ks.length 1 && Nat.beq st 1 && Nat.beq sz 1 && kindsOk ks kx then
                    splT (mkLe n len)
                      (chkT (mkLe (mkAdd (mkAdd o (.num (.ofNat r))) n) (mkLen l)) (.ret ⟨.c (.i .i64 n), [(j, some ⟨true, .row ks (mkSpl l (mkAdd o (.num (.ofNat r))) lx)⟩)], nb⟩))
                      (chkT (mkLe (mkAdd (mkAdd o (.num (.ofNat r))) len) (mkLen l)) (.ret ⟨.c (.i .i64 len), [(j, some ⟨true, .row ks (mkSpl l (mkAdd o (.num (.ofNat r))) (mkTake len lx))⟩)], nb⟩))
                    else .fail 144
                | _ => .fail 145)
          | .w (.c .sn) => if Nat.ble 1 sz then (srcT sz bs x).bind fun _ => intR nb .i64 (.num 0) else .fail 146
          | _ => .fail 147
      | _ => .fail 148
  | _ => .fail 149
/-- clear: the slice's elements become zeros. -/
def opClear (P : Program) (at_ : Array TypeId) (bs : Bs) (nb : Nat) : List V → O Res
  | [d] => match at_[0]? with
    | none => .fail 159
    | some t => match P.underlying t with
      | some (.slice e) => match zeroC P e with
        | some [.i k (.num (.ofNat 0))] => match d with
          | .w (.c (.s j st r o len)) => (match look bs j with
            | some ⟨true, .row [k'] l⟩ => if Nat.beq (knum k) (knum k') && Nat.beq st 1 then
                chkT (mkLe (mkAdd (mkAdd o (.num (.ofNat r))) len) (mkLen l)) (.ret ⟨.u, [(j, some ⟨true, .row [k'] (mkSpl l (mkAdd o (.num (.ofNat r))) (mkRep len (.cons (.num 0) .nil)))⟩)], nb⟩) else .fail 160
            | _ => .fail 161)
          | .w (.c .sn) => .ret ⟨.u, [], nb⟩
          | _ => .fail 162
        | _ => .fail 163
      | _ => .fail 164
  | _ => .fail 165
def opMax (isMax : Bool) (nb : Nat) : List V → O Res
  | [.w (.c (.i k a)), .w (.c (.i j b))] => if Nat.beq (knum k) (knum j) then intR nb k (.c2 (if isMax then .mx else .mn) a b) else .fail 150
  | _ => .fail 151
/-- A function of the program's own, with a body. -/
def enterOk (P : Program) (f : FuncId) : Bool := match P.funcs[f]? with
  | some fn => !(fn.name == "runtime.NumGoroutine") && fn.body.isSome
  | none => false
def opCall (X : Ctx) (fa : Facts) (bs : Bs) (nb : Nat) : List V → O Res
  | .w (.c (.fn f)) :: args => if enterOk X.P f then X.call fa f args bs nb else .fail 156
  | _ => .fail 152
def optV (b : Bool) (vs : List V) : Option V × List V := match b, vs with
  | true, v :: r => (some v, r)
  | _, vs => (none, vs)
def opCore (X : Ctx) (fa : Facts) (op : Op) (bs : Bs) (nb : Nat) (vs : List V) : O Res :=
  match op, vs with
  | .move _, [x] => rv nb x
  | .assign _, [x] => rv nb x
  | .pick _ _ _, [c, a, b] => opPick nb c a b
  | .alloc e, [] => opAlloc X.P e nb
  | .box _ _, [x] => opBox nb x
  | .build t ps, vs => opBuild X.P t ps.toList vs nb
  | .buildSlice t len ps, vs => opBuildSlice X.P t len ps.toList vs nb
  | .load t _, [x] => opLoad X.P t bs nb x
  | .store t _ _, [a, x] => opStore X.P t bs nb a x
  | .nilCheck _, [x] => opNilCheck nb x
  | .binOp op t _ _ _, [x, y] => opBin X.P op t nb x y
  | .unOp op _ _, [x] => opUn op nb x
  | .convert src dst _, [x] => opConvert X.P src dst nb x
  | .sliceToArrayPointer arr _, [x] => opArrayAt X.P arr nb x
  | .makeSlice t _ _, [l, c] => opMakeSlice X.P t nb l c
  | .slice t _ lo hi mx, x :: r =>
    let (l, r) := optV lo.isSome r
    let (h, r) := optV hi.isSome r
    let (m, _) := optV mx.isSome r
    opSlice X.P t bs nb x l h m
  | .fieldAddr t _ f, [x] => opFieldAddr X.P t f nb x
  | .field t _ f, [x] => opField X.P t f nb x
  | .indexAddr t _ _, [x, i] => opIndexAddr X.P t nb x i
  | .index t _ _, [x, i] => opIndex X.P t nb x i
  | .extract _ i, [x] => opExtract i nb x
  | .call c, vs => match c.callee with
    | .value _ => opCall X fa bs nb vs
    | .builtin .len => opLen X.P c.argTypes nb vs
    | .builtin .append => opAppend X.P c.argTypes bs nb vs
    | .builtin .copy => opCopy X.P c.argTypes bs nb vs
    | .builtin .clear => opClear X.P c.argTypes bs nb vs
    | .builtin .max => opMax true nb vs
    | .builtin .min => opMax false nb vs
    | _ => .fail 153
  | _, _ => .fail 154
end Go.Proofs.Ytlgiibchnnaceaa.Sx
