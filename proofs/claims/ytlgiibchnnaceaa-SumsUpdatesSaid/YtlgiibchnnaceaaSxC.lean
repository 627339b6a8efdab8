/- Sx, part 13: code and functions by terms: loops by unrolling or by what holds at their head. Conditions: none. -/
import Derived.Test.YtlgiibchnnaceaaSxR
set_option linter.unusedVariables false
set_option linter.unusedSimpArgs false
namespace Go.Proofs.Ytlgiibchnnaceaa.Sx
open Go Go.RowKit

/-! Terms for variables. -/
def nthS : List T → Nat → T
  | [], _ => .nil
  | t :: _, 0 => t
  | _ :: l, i + 1 => nthS l i
def lenN {α : Type} : List α → Nat
  | [] => 0
  | _ :: l => lenN l + 1
/-- The variables b, b + 1, .. (as many as σ has) are put for. -/
def T.sub (b : Nat) (σ : List T) : T → T
  | .var i => if Nat.ble b i && Nat.ble (i + 1) (b + lenN σ) then nthS σ (i - b) else .var i
  | .num z => .num z
  | .bol p => .bol p
  | .nil => .nil
  | .cons x l => .cons (x.sub b σ) (l.sub b σ)
  | .wr k x => .wr k (x.sub b σ)
  | .bits o k x y => .bits o k (x.sub b σ) (y.sub b σ)
  | .c1 o x => .c1 o (x.sub b σ)
  | .c2 o x y => .c2 o (x.sub b σ) (y.sub b σ)
  | .ite c x y => .ite (c.sub b σ) (x.sub b σ) (y.sub b σ)
  | .set l i x => .set (l.sub b σ) (i.sub b σ) (x.sub b σ)
  | .spl l i s => .spl (l.sub b σ) (i.sub b σ) (s.sub b σ)
  | .fn f x y z => .fn f (x.sub b σ) (y.sub b σ) (z.sub b σ)
/-- All variables are below n. -/
def T.lo (n : Nat) : T → Bool
  | .var i => Nat.ble (i + 1) n
  | .num _ => true
  | .bol _ => true
  | .nil => true
  | .cons x l => x.lo n && l.lo n
  | .wr _ x => x.lo n
  | .bits _ _ x y => x.lo n && y.lo n
  | .c1 _ x => x.lo n
  | .c2 _ x y => x.lo n && y.lo n
  | .ite c x y => c.lo n && (x.lo n && y.lo n)
  | .set l i x => l.lo n && (i.lo n && x.lo n)
  | .spl l i s => l.lo n && (i.lo n && s.lo n)
  | .fn _ x y z => x.lo n && (y.lo n && z.lo n)
def C.lo (n : Nat) : C → Bool
  | .i _ t => t.lo n
  | .b t => t.lo n
  | .p _ e _ _ => e.lo n
  | .s _ _ _ o l => o.lo n && l.lo n
  | _ => true
def loL (n : Nat) : List C → Bool
  | [] => true
  | x :: xs => x.lo n && loL n xs
def W.lo (n : Nat) : W → Bool
  | .c x => x.lo n
  | .g xs => loL n xs
def loWs (n : Nat) : List W → Bool
  | [] => true
  | x :: xs => x.lo n && loWs n xs
def V.lo (n : Nat) : V → Bool
  | .w x => x.lo n
  | .t xs => loWs n xs
  | .u => true
def Blk.lo (n : Nat) : Blk → Bool
  | .cells xs => loL n xs
  | .row _ l => l.lo n
def loTm (n : Nat) : List (Nat × V) → Bool
  | [] => true
  | (_, v) :: l => v.lo n && loTm n l
def loMe (n : Nat) : List (Nat × Option MB) → Bool
  | [] => true
  | (_, some m) :: l => m.k.lo n && loMe n l
  | (_, none) :: l => loMe n l
def loMbs (n : Nat) : List MB → Bool
  | [] => true
  | m :: l => m.k.lo n && loMbs n l
def loFa (n : Nat) : Facts → Bool
  | [] => true
  | (t, _) :: l => t.lo n && loFa n l

/-! What holds at a loop's head: slots and old blocks by patterns over new variables; new blocks. -/
structure Head where
  tm : List (Nat × V)
  old : List (Nat × Option MB)
  new : List MB
  n : Nat
  fa : Facts := []
inductive Ann where
  | unroll (k : Nat)
  | inv (id : Nat) (H : Head)
def newE (j : Nat) : List MB → List (Nat × Option MB)
  | [] => []
  | m :: l => (j, some m) :: newE (j + 1) l
def Head.st (H : Head) (S : St) : St := { S with tm := H.tm ++ S.tm, me := H.old ++ (newE S.nb H.new ++ S.me), nb := S.nb + lenN H.new, nv := S.nv + H.n, fa := H.fa ++ S.fa }

/-! Which terms and which blocks stand for the variables and the new blocks: looked for here, checked behind. -/
structure Mt where
  b : Nat
  nb : Nat
  σ : List (Nat × T)
  π : List (Nat × Option Nat)
def Mt.bindT (m : Mt) : T → T → Mt
  | .var i, t => if Nat.ble m.b i && !hasK m.σ i then { m with σ := (i, t) :: m.σ } else m
  | _, _ => m
def Mt.bindN (m : Mt) (j : Nat) (x : Option Nat) : Mt := if Nat.ble m.nb j && !hasK m.π j then { m with π := (j, x) :: m.π } else m
def mtC (m : Mt) : C → C → Mt
  | .i _ p, .i _ t => m.bindT p t
  | .b p, .b t => m.bindT p t
  | .p j e _ _, .p j' e' _ _ => (m.bindN j (some j')).bindT e e'
  | .s j _ _ o l, .s j' _ _ o' l' => ((m.bindN j (some j')).bindT o o').bindT l l'
  | .s j _ _ o l, .sn => ((m.bindN j none).bindT o (.num 0)).bindT l (.num 0)
  | .s j _ _ o l, .sz => ((m.bindN j none).bindT o (.num 0)).bindT l (.num 0)
  | _, _ => m
def mtL (m : Mt) : List C → List C → Mt
  | x :: xs, y :: ys => mtL (mtC m x y) xs ys
  | _, _ => m
def mtW (m : Mt) : W → W → Mt
  | .c x, .c y => mtC m x y
  | .g xs, .g ys => mtL m xs ys
  | _, _ => m
def mtV (m : Mt) : V → V → Mt
  | .w x, .w y => mtW m x y
  | _, _ => m
def mtB (m : Mt) : Blk → Blk → Mt
  | .cells xs, .cells ys => mtL m xs ys
  | .row _ p, .row _ t => m.bindT p t
  | _, _ => m
def mtTm (m : Mt) (tm : List (Nat × V)) : List (Nat × V) → Mt
  | [] => m
  | (t, v) :: l => match look tm t with
    | some x => mtTm (mtV m v x) tm l
    | none => mtTm m tm l
def mtOld (m : Mt) (me : List (Nat × Option MB)) : List (Nat × Option MB) → Mt
  | [] => m
  | (j, some p) :: l => match lookM me j with
    | some x => mtOld (mtB m p.k x.k) me l
    | none => mtOld m me l
  | (_, none) :: l => mtOld m me l
def mtNew (m : Mt) (me : List (Nat × Option MB)) : Nat → List MB → Mt
  | _, [] => m
  | j, p :: l => match look m.π j with
    | some (some j') => match lookM me j' with
      | some x => mtNew (mtB m p.k x.k) me (j + 1) l
      | none => mtNew m me (j + 1) l
    | some none => (match p.k with
      | .row _ t => mtNew (m.bindT t .nil) me (j + 1) l
      | _ => mtNew m me (j + 1) l)
    | none => mtNew m me (j + 1) l
def finT (m : Mt) : Nat → Nat → List T
  | _, 0 => []
  | i, n + 1 => (match look m.σ i with
    | some t => t
    | none => .nil) :: finT m (i + 1) n
def finN (m : Mt) : Nat → Nat → List (Option Nat)
  | _, 0 => []
  | j, n + 1 => (match look m.π j with
    | some x => x
    | none => none) :: finN m (j + 1) n
def matchH (H : Head) (b nb : Nat) (S : St) : List T × List (Option Nat) :=
  let m := mtNew (mtOld (mtTm ⟨b, nb, [], []⟩ S.tm H.tm) S.me H.old) S.me nb H.new
  (finT m b H.n, finN m nb (lenN H.new))

/-! The check: the pattern p, with terms put for its variables, is x. -/
def nthO : List (Option Nat) → Nat → Option (Option Nat)
  | [], _ => none
  | x :: _, 0 => some x
  | _ :: l, i + 1 => nthO l i
/-- For which name a pattern's name stands; some none: for nothing's block. -/
def nmOf (nb : Nat) (π : List (Option Nat)) (j : Nat) : Option (Option Nat) := if Nat.ble nb j then nthO π (j - nb) else some (some j)
def isN (x : Option (Option Nat)) (j : Nat) : Bool := match x with
  | some (some i) => Nat.beq i j
  | _ => false
def isPh (x : Option (Option Nat)) : Bool := match x with
  | some none => true
  | _ => false
structure Sb where
  b : Nat
  σ : List T
  nb : Nat
  π : List (Option Nat)
def Sb.eqT (s : Sb) (p t : T) : Bool := (p.sub s.b s.σ).beq t
def Sb.eqN (s : Sb) (p t : T) : Bool := ((p.sub s.b s.σ).tidy .i).beq t
def okC (s : Sb) : C → C → Bool
  | .i k p, .i k' t => Nat.beq (knum k) (knum k') && s.eqT p t
  | .b p, .b t => s.eqT p t
  | .p j e st r, .p j' e' st' r' => isN (nmOf s.nb s.π j) j' && (s.eqT e e' && (Nat.beq st st' && Nat.beq r r'))
  | .pn, .pn => true
  | .s j st r o l, .s j' st' r' o' l' => isN (nmOf s.nb s.π j) j' && (s.eqT o o' && (s.eqT l l' && (Nat.beq st st' && Nat.beq r r')))
  | .s j _ r o l, .sn => isPh (nmOf s.nb s.π j) && (s.eqN o (.num 0) && (s.eqN l (.num 0) && Nat.beq r 0))
  | .s j _ r o l, .sz => isPh (nmOf s.nb s.π j) && (s.eqN o (.num 0) && (s.eqN l (.num 0) && Nat.beq r 0))
  | .sn, .sn => true
  | .sz, .sz => true
  | .fn f, .fn g => Nat.beq f g
  | .nf, .nf => true
  | _, _ => false
def okL (s : Sb) : List C → List C → Bool
  | [], [] => true
  | x :: xs, y :: ys => okC s x y && okL s xs ys
  | _, _ => false
def okW (s : Sb) : W → W → Bool
  | .c x, .c y => okC s x y
  | .g xs, .g ys => okL s xs ys
  | _, _ => false
def okWs (s : Sb) : List W → List W → Bool
  | [], [] => true
  | x :: xs, y :: ys => okW s x y && okWs s xs ys
  | _, _ => false
def okV (s : Sb) : V → V → Bool
  | .u, _ => true
  | .w x, .w y => okW s x y
  | .t xs, .t ys => okWs s xs ys
  | _, _ => false
def okB (s : Sb) : Blk → Blk → Bool
  | .cells xs, .cells ys => okL s xs ys
  | .row ks p, .row ks' t => kbeqL ks ks' && s.eqT p t
  | _, _ => false
def okM (s : Sb) (m x : MB) : Bool := (!m.rw || x.rw) && okB s m.k x.k
def okTm (s : Sb) (tm : List (Nat × V)) : List (Nat × V) → Bool
  | [] => true
  | (t, v) :: l => (match v with
    | .u => true
    | v => match look tm t with
      | some x => okV s v x
      | none => false) && okTm s tm l
def okOld (s : Sb) (me : List (Nat × Option MB)) : List (Nat × Option MB) → Bool
  | [] => true
  | (j, some m) :: l => (match lookM me j with
    | some x => okM s m x
    | none => false) && (Nat.ble (j + 1) s.nb && okOld s me l)
  | (j, none) :: l => Nat.ble (j + 1) s.nb && okOld s me l
def isNil : T → Bool
  | .nil => true
  | _ => false
def okPh (s : Sb) : Blk → Bool
  | .row (_ :: _) p => s.eqT p .nil
  | .cells [] => true
  | _ => false
def okNew (s : Sb) (me : List (Nat × Option MB)) (old : List (Nat × Option MB)) : List MB → List (Option Nat) → List Nat → Bool
  | [], [], _ => true
  | m :: l, some j :: π, seen => (match lookM me j with
    | some x => okM s m x
    | none => false) && ((Nat.ble s.nb j || (match look old j with
      | some none => true
      | _ => false)) && (!hasN seen j && okNew s me old l π (j :: seen)))
  | m :: l, none :: π, seen => okPh s m.k && okNew s me old l π seen
  | _, _, _ => false
/-- Slots and blocks that a round has turned are told of at the head. -/
def keysIn {α β : Type} (l : List (Nat × α)) : List (Nat × β) → Bool
  | [] => true
  | (k, _) :: r => hasK l k && keysIn l r
def keysOld (nb : Nat) (l : List (Nat × Option MB)) : List (Nat × Option MB) → Bool
  | [] => true
  | (k, _) :: r => (Nat.ble nb k || hasK l k) && keysOld nb l r
/-- All old blocks that the head turns are the run's own. -/
def ownOld (me : List (Nat × Option MB)) : List (Nat × Option MB) → Bool
  | [] => true
  | (j, _) :: l => (match lookM me j with
    | some x => x.rw
    | none => false) && ownOld me l
def okHead (H : Head) (b nb : Nat) (σ : List T) (π : List (Option Nat)) (S : St) : Bool :=
  let s : Sb := ⟨b, σ, nb, π⟩
  Nat.beq (lenN σ) H.n && (okTm s S.tm H.tm && (okOld s S.me H.old && okNew s S.me H.old H.new π []))
/-- What is to be so at the loop's beginning. -/
def okStart (H : Head) (S : St) : Bool :=
  Nat.ble 1 H.n && (loTm S.nv S.tm && (loMe S.nv S.me && (loFa S.nv S.fa && (loTm (S.nv + H.n) H.tm && (loMe (S.nv + H.n) H.old && (loMbs (S.nv + H.n) H.new && ownOld S.me H.old))))))
def takeN {α : Type} : Nat → List α → List α
  | 0, _ => []
  | _, [] => []
  | n + 1, x :: l => x :: takeN n l
/-- .. and at a round's end: S0 is the head's state. -/
def okRound (H : Head) (nb : Nat) (S0 S : St) : Bool :=
  keysIn H.tm (takeN (lenN S.tm - lenN S0.tm) S.tm) && keysOld nb H.old (takeN (lenN S.me - lenN S0.me) S.me)

/-! Slots that code writes. -/
def writesOps : List Oper → List (Nat × V)
  | [] => []
  | o :: l => match o.dst with
    | some d => (d, .u) :: writesOps l
    | none => writesOps l
def writes : Code → List (Nat × V)
  | .region _ ops _ => writesOps ops.toList
  | .seq a b => writes a ++ writes b
  | .cond _ a b => writes a ++ writes b
  | .block _ a => writes a
  | .loop a => writes a
  | _ => []
def firstId : Code → Nat
  | .region i _ _ => i
  | .seq a _ => firstId a
  | .cond _ a _ => firstId a
  | .block _ a => firstId a
  | .loop a => firstId a
  | _ => 0

/-! Code. -/
inductive M (α : Type) where
  | ret (a : α)
  | split (t : T) (x y : M α)
  | chk (t : T) (x : M α)
  | fail (n : Nat)
  | loop (id base n : Nat) (σ : List T) (fs : Facts) (x : M α)
  | back (id base : Nat) (σ : List T)
  deriving Repr
def M.bind {α β : Type} : M α → (α → M β) → M β
  | .ret a, f => f a
  | .split t x y, f => .split t (x.bind f) (y.bind f)
  | .chk t x, f => .chk t (x.bind f)
  | .fail n, _ => .fail n
  | .loop i b n σ fs x, f => .loop i b n σ fs (x.bind f)
  | .back i b σ, _ => .back i b σ
def M.lift {α : Type} : O α → M α
  | .ret a => .ret a
  | .split t x y => .split t (M.lift x) (M.lift y)
  | .chk t x => .chk t (M.lift x)
  | .fail n => .fail n
def M.toO {α : Type} : M α → O α
  | .ret a => .ret a
  | .split t x y => .split t (M.toO x) (M.toO y)
  | .chk t x => .chk t (M.toO x)
  | .fail n => .fail n
  | .loop .. => .fail 210
  | .back .. => .fail 211
inductive Ex where
  | norm
  | exit (i : Nat)
  | ret
  deriving Repr
/-- Round after round, till one does not come to its end. -/
def M.iter (f : St → M (Ex × St)) : Nat → St → M (Ex × St)
  | 0, _ => .fail 219
  | k + 1, S => (f S).bind fun r => match r.1 with
    | .norm => M.iter f k r.2
    | _ => .ret r
def backTo (H : Head) (id b nb : Nat) (S0 : St) (r : Ex × St) : M (Ex × St) :=
  match r.1 with
  | .norm =>
    let m := matchH H b nb r.2
    if okHead H b nb m.1 m.2 r.2 && okRound H nb S0 r.2 then .back id b m.1 else .fail 218
  | _ => .ret r
def evCode (X : Ctx) (L : Nat → St → Ann) (n : Nat) : Code → St → M (Ex × St)
  | .skip, S => .ret (.norm, S)
  | .label _, S => .ret (.norm, S)
  | .ret, S => .ret (.ret, S)
  | .exit i, S => .ret (.exit i, S)
  | .region _ ops draw, S => (M.lift (evRegion X ops draw n S)).bind fun S => .ret (.norm, S)
  | .seq a b, S => (evCode X L n a S).bind fun r => match r.1 with
    | .norm => evCode X L n b r.2
    | _ => .ret r
  | .cond c a b, S => match opdV S.tm c with
    | .w (.c (.b t)) => match decF S.fa (nrmB S.fa t) with
      | some true => evCode X L n a S
      | some false => evCode X L n b S
      | none => .split (nrmB S.fa t) (evCode X L n a { S with fa := addF (nrmB S.fa t) true S.fa }) (evCode X L n b { S with fa := addF (nrmB S.fa t) false S.fa })
    | _ => .fail 220
  | .block i a, S => (evCode X L n a S).bind fun r => match r.1 with
    | .exit j => if Nat.beq j i then .ret (.norm, r.2) else .ret r
    | _ => .ret r
  | .loop c, S => match L (firstId c) S with
    | .unroll k => M.iter (evCode X L n c) k S
    | .inv id H0 =>
      let H : Head := { H0 with tm := H0.tm ++ writes c }
      let m := matchH H S.nv S.nb S
      if okHead H S.nv S.nb m.1 m.2 S && okStart H S then
        let S0 := H.st S
        .loop id S.nv H.n m.1 H.fa ((evCode X L n c S0).bind (backTo H id S.nv S.nb S0))
      else .fail 217
  | .rangeFunc .., _ => .fail 222
  | .scope _, _ => .fail 223
  | .goto _, _ => .fail 224
  | .refuse _, _ => .fail 225
def initTm : List V → Nat → List (Nat × V)
  | [], _ => []
  | v :: vs, i => (i, v) :: initTm vs (i + 1)
def resW (P : Program) (S : St) : List ResultVar → O (List W)
  | [] => .ret []
  | .tmp t :: rs => match look S.tm t with
    | some (.w x) => (resW P S rs).bind fun r => .ret (x :: r)
    | _ => .fail 230
  | .cell a t :: rs => match look S.tm a with
    | some v => (opLoad P t (fetch (lookM S.me) (onceN v.nm [])) 0 v).bind fun r => match r.val with
      | .w x => (resW P S rs).bind fun r => .ret (x :: r)
      | _ => .fail 231
    | none => .fail 232
def resV (P : Program) (S : St) (rs : List ResultVar) : O V :=
  (resW P S rs).bind fun ws => match ws with
    | [x] => .ret (.w x)
    | ws => .ret (.t ws)
def someMe : Bs → List (Nat × Option MB)
  | [] => []
  | (j, m) :: l => (j, some m) :: someMe l
/-- A function's run from its arguments: its result and what it has turned. -/
abbrev Anns := FuncId → Nat → St → Ann
def keysLow {α : Type} (nb : Nat) : List (Nat × α) → Bool
  | [] => true
  | (k, _) :: l => Nat.ble (k + 1) nb && keysLow nb l
def allLow (nb : Nat) : List Nat → Bool
  | [] => true
  | k :: l => Nat.ble (k + 1) nb && allLow nb l
def evFun (X : Ctx) (A : Anns) (f : FuncId) (vs : List V) (bs : Bs) (nb : Nat) (nv : Nat) (fa : Facts) : M (V × St) :=
  match X.P.funcs[f]? with
  | none => .fail 240
  | some fn => match fn.body with
    | none => .fail 241
    | some c =>
      if Nat.ble (lenN vs) fn.ntmps then
      (evCode X (A f) fn.ntmps c ⟨initTm vs 0, someMe bs, nb, nv, fa⟩).bind fun r => match r.1 with
        | .exit _ => .fail 242
        | _ => (M.lift (resV X.P r.2 fn.results.toList)).bind fun v => .ret (v, r.2)
      else .fail 243
/-- Of what was turned: the old blocks' last state, and the new blocks that can still be come to. -/
def firsts (old : Nat) : List (Nat × Option MB) → List Nat → List (Nat × Option MB)
  | [], _ => []
  | (k, m) :: l, seen => if hasN seen k then firsts old l seen else (k, m) :: firsts old l (k :: seen)
def keepE (ns : List Nat) (nb hi : Nat) : List (Nat × Option MB) → List (Nat × Option MB)
  | [] => []
  | (k, m) :: l => if Nat.ble nb k && !hasN ns k || Nat.ble hi k then keepE ns nb hi l else (k, m) :: keepE ns nb hi l
def oldOf (nb : Nat) : List (Nat × Option MB) → List Nat
  | [] => []
  | (k, some m) :: l => if Nat.ble nb k then oldOf nb l else m.k.nm ++ oldOf nb l
  | (_, none) :: l => oldOf nb l
def effOf (v : V) (S : St) (n0 nb0 : Nat) : List (Nat × Option MB) :=
  let d := firsts nb0 (takeN (lenN S.me - n0) S.me) []
  let n1 := onceN (v.nm ++ oldOf nb0 d) []
  let n2 := onceN (namesBs (fetch (lookM S.me) n1)) n1
  let n3 := onceN (namesBs (fetch (lookM S.me) n2)) n2
  keepE n3 nb0 S.nb d
def callIn (X : Ctx) (A : Anns) (fa : Facts) (f : FuncId) (vs : List V) (bs : Bs) (nb : Nat) : O Res :=
  if allLow nb (namesVs vs) && (keysLow nb bs && allLow nb (namesBs bs)) then
    (evFun X A f vs bs nb 0 fa).toO.bind fun (v, S) => .ret ⟨v, effOf v S (lenN bs) nb, S.nb⟩
  else .fail 244
abbrev Con := Facts → List V → Bs → Nat → O Res
def findCon : List (Nat × Con) → FuncId → Option Con
  | [], _ => none
  | (k, c) :: l, f => if Nat.beq k f then some c else findCon l f
def ctxN (P : Program) (A : Anns) (cons : List (Nat × Con)) : Nat → Ctx
  | 0 => ⟨P, fun fa f vs bs nb => match findCon cons f with
    | some c => c fa vs bs nb
    | none => .fail 250⟩
  | d + 1 => ⟨P, fun fa f vs bs nb => match findCon cons f with
    | some c => c fa vs bs nb
    | none => callIn (ctxN P A cons d) A fa f vs bs nb⟩
/-- A function's tree: results and what it has turned. -/
def funTree (X : Ctx) (A : Anns) (f : FuncId) (vs : List V) (bs : Bs) (nv : Nat) (fa : Facts) : M (V × St) :=
  (evFun X A f vs bs (lenN bs) nv fa).bind fun r => .ret (r.1, { r.2 with me := effOf r.1 r.2 (lenN bs) (lenN bs), tm := [], fa := [] })
end Go.Proofs.Ytlgiibchnnaceaa.Sx
