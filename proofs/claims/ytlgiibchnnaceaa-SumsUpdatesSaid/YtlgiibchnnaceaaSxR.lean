/- Sx, part 4: regions, code and functions by terms. Conditions: none. -/
import Derived.Test.YtlgiibchnnaceaaSxO
set_option linter.unusedVariables false
set_option linter.unusedSimpArgs false
namespace Go.Proofs.Ytlgiibchnnaceaa.Sx
open Go Go.RowKit

structure St where
  tm : List (Nat × V)
  me : List (Nat × Option MB)
  nb : Nat
  nv : Nat
  fa : Facts
  deriving Repr

def O.run {α β : Type} : Facts → O α → (Facts → α → O β) → O β
  | fa, .ret a, k => k fa a
  | fa, .split t x y, k =>
    let t' := nrmB fa t
    match decF fa t' with
    | some true => O.run fa x k
    | some false => O.run fa y k
    | none => .split t' (O.run (addF t' true fa) x k) (O.run (addF t' false fa) y k)
  | fa, .chk t x, k =>
    let t' := nrmB fa t
    match decF fa t' with
    | some true => O.run fa x k
    | _ => .chk t' (O.run (addF t' true fa) x k)
  | _, .fail n, _ => .fail n

/-! Values made plain. -/
def nrmC (fa : Facts) : C → C
  | .i k t => .i k (nrmI fa t)
  | .b t => .b (nrmB fa t)
  | .p j e st r => .p j (nrmS fa e) st r
  | .s j st r o l => .s j st r (nrmS fa o) (nrmS fa l)
  | c => c
def nrmV (fa : Facts) : V → V
  | .w (.c x) => .w (.c (nrmC fa x))
  | v => v

/-! Names. -/
def C.nm : C → List Nat
  | .p j _ _ _ => [j]
  | .s j _ _ _ _ => [j]
  | _ => []
def namesL : List C → List Nat
  | [] => []
  | x :: xs => x.nm ++ namesL xs
def W.nm : W → List Nat
  | .c x => x.nm
  | .g xs => namesL xs
def namesWs : List W → List Nat
  | [] => []
  | x :: xs => x.nm ++ namesWs xs
def V.nm : V → List Nat
  | .w x => x.nm
  | .t xs => namesWs xs
  | .u => []
def namesVs : List V → List Nat
  | [] => []
  | x :: xs => x.nm ++ namesVs xs
def Blk.nm : Blk → List Nat
  | .cells xs => namesL xs
  | .row _ _ => []
def hasN : List Nat → Nat → Bool
  | [], _ => false
  | k :: l, t => Nat.beq k t || hasN l t
/-- Each name once. -/
def onceN : List Nat → List Nat → List Nat
  | [], acc => acc
  | k :: l, acc => if hasN acc k then onceN l acc else onceN l (k :: acc)
def fetch (me : Nat → Option MB) : List Nat → Bs
  | [] => []
  | j :: l => match me j with
    | some m => (j, m) :: fetch me l
    | none => fetch me l
def namesBs : Bs → List Nat
  | [] => []
  | (_, m) :: l => m.k.nm ++ namesBs l
def isCall : Op → Bool
  | .call c => match c.callee with
    | .value _ => true
    | _ => false
  | _ => false
def footN (call : Bool) (me : Nat → Option MB) (vs : List V) : List Nat :=
  let n1 := onceN (namesVs vs) []
  if call then
    let n2 := onceN (namesBs (fetch me n1)) n1
    onceN (namesBs (fetch me n2)) n2
  else n1
def opdV (tm : List (Nat × V)) : Operand → V
  | .tmp t => match look tm t with
    | some v => v
    | none => .u
  | .const v => constV v
  | .func f => .c (.fn f)
  | .global _ => .u
def opdVs (tm : List (Nat × V)) : List Operand → List V
  | [] => []
  | x :: xs => opdV tm x :: opdVs tm xs

/-! What an operation leaves, and what it looks at: slots (sr) and blocks (br). -/
structure Item where
  dst : Option Nat
  val : V
  eff : List (Nat × Option MB)
  nb : Nat
  nb' : Nat
  sr : List Nat
  br : List Nat
  deriving Repr
def keys {α : Type} : List (Nat × α) → List Nat
  | [] => []
  | (k, _) :: l => k :: keys l
def slotsOf : List Operand → List Nat
  | [] => []
  | .tmp t :: l => t :: slotsOf l
  | _ :: l => slotsOf l
def guardSlot (ops : Array Oper) (o : Oper) : Option Nat := match o.guard with
  | some (j, _) => (ops[j]?).bind (·.dst)
  | none => none
def bind1 (d : Option Nat) (v : V) : List (Nat × V) := match d with
  | some d => [(d, v)]
  | none => []
def St.put (S : St) (it : Item) (fa : Facts) : St :=
  { S with tm := bind1 it.dst it.val ++ S.tm, me := it.eff ++ S.me, nb := it.nb', fa := fa }
def dstOk : Option Nat → Nat → Bool
  | some d, n => Nat.ble (d + 1) n
  | none, _ => true
def evRun (X : Ctx) (ops : Array Oper) (o : Oper) (S : St) (fa : Facts) : O (Item × Facts) :=
  let xs := o.op.operands.toList
  let vs := opdVs S.tm xs
  let ns := footN (isCall o.op) (lookM S.me) vs
  O.run fa (opCore X fa o.op (fetch (lookM S.me) ns) S.nb vs) fun fa r =>
    if Nat.ble S.nb r.nb then .ret (⟨o.dst, nrmV fa r.val, r.eff, S.nb, r.nb, (guardSlot ops o).toList ++ slotsOf xs, ns⟩, fa) else .fail 204
def evOp (X : Ctx) (ops : Array Oper) (n : Nat) (o : Oper) (S : St) : O (Item × Facts) :=
  if dstOk o.dst n then
    match o.guard with
    | none => evRun X ops o S S.fa
    | some (_, want) => match guardSlot ops o with
      | none => .fail 200
      | some d => match look S.tm d with
        | some (.w (.c (.b t))) => O.run S.fa (splT t (.ret true) (.ret false)) fun fa p => if bbeq p want then evRun X ops o S fa else .ret (⟨o.dst, .u, [], S.nb, S.nb, [d], []⟩, fa)
        | _ => .fail 201
  else .fail 202
def evOps (X : Ctx) (ops : Array Oper) (n : Nat) : List Oper → St → O (St × List Item)
  | [], S => .ret (S, [])
  | o :: os, S => (evOp X ops n o S).bind fun (it, fa) => (evOps X ops n os (S.put it fa)).bind fun (S', its) => .ret (S', it :: its)
def hasO (l : List Nat) : Option Nat → Bool
  | some k => hasN l k
  | none => false
def interL : List Nat → List Nat → Bool
  | [], _ => false
  | k :: l, m => hasN m k || interL l m
/-- Is the order of two operations of weight? -/
def clash (a b : Item) : Bool :=
  hasO b.sr a.dst || hasO a.sr b.dst || hasO b.dst.toList a.dst || interL (keys a.eff) b.br || interL (keys b.eff) a.br || interL (keys a.eff) (keys b.eff)
/-- The operations that stand ahead of each, through any number of edges. -/
def aheadOf (acc : List (List Nat)) : List Edge → List Nat → List Nat
  | [], r => r
  | e :: es, r => if Region.binds .any e then aheadOf acc es (onceN (e.on :: acc.getD e.on []) r) else aheadOf acc es r
def aheads : List Oper → List (List Nat) → List (List Nat)
  | [], acc => acc
  | o :: os, acc => aheads os (acc ++ [aheadOf acc o.after.toList []])
def freeOf (r : Item) (ah : List Nat) : List Item → Nat → Bool
  | [], _ => true
  | q :: qs, i => (hasN ah i || !clash q r) && freeOf r ah qs (i + 1)
def indep (ahs : List (List Nat)) : List Item → List Item → Bool
  | [], _ => true
  | r :: rs, done => freeOf r (ahs.getD done.length []) done 0 && indep ahs rs (done ++ [r])
def evRegion (X : Ctx) (ops : Array Oper) (draw : Bool) (n : Nat) (S : St) : O St :=
  (evOps X ops n ops.toList S).bind fun (S', its) =>
    if draw then (if X.P.follows .mixedOrders && (ops.toList.zipIdx.all fun x => x.1.after.all fun e => !Region.binds .any e || Nat.ble (e.on + 1) x.2) && indep (aheads ops.toList []) its [] then .ret S' else .fail 203) else .ret S'

end Go.Proofs.Ytlgiibchnnaceaa.Sx
