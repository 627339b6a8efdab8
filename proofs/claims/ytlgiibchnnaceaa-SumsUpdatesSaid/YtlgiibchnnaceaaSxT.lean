/- Sx, part 1: terms over whole numbers, Bools and rows of whole numbers, with what they stand for. Conditions: none. -/
import Derived.WalkKit
set_option linter.unusedVariables false
set_option linter.unusedSimpArgs false
namespace Go.Proofs.Ytlgiibchnnaceaa.Sx
open Go

/-- What a term stands for: a whole number, a Bool, a row of whole numbers. -/
inductive D where
  | i (z : Int)
  | b (p : Bool)
  | l (xs : List Int)
  deriving Inhabited
def D.int : D → Int | .i z => z | _ => 0
def D.bool : D → Bool | .b p => p | _ => false
def D.list : D → List Int | .l xs => xs | _ => []
@[simp] theorem D.int_i (z : Int) : (D.i z).int = z := rfl
@[simp] theorem D.bool_b (p : Bool) : (D.b p).bool = p := rfl
@[simp] theorem D.list_l (xs : List Int) : (D.l xs).list = xs := rfl

inductive U1 where | len | not | kin (ks : List IntKind)
  deriving Repr
inductive K3 where | i | b | l
inductive O2 where
  | add | sub | mul | quo | rem | fdiv | eq | lt | le | beq | and | or | rd | take | drop | app | rep | leq | mx | mn
  deriving Repr
def O2.num : O2 → Nat
  | .add => 0 | .sub => 1 | .mul => 2 | .quo => 3 | .rem => 4 | .fdiv => 5 | .eq => 6 | .lt => 7 | .le => 8 | .beq => 9 | .and => 10 | .or => 11
  | .rd => 12 | .take => 13 | .drop => 14 | .app => 15 | .rep => 16 | .leq => 17 | .mx => 18 | .mn => 19
inductive Bo where | and | or | xor | andNot
  deriving Repr
def Bo.num : Bo → Nat | .and => 0 | .or => 1 | .xor => 2 | .andNot => 3
def Bo.op : Bo → BinOp | .and => .and | .or => .or | .xor => .xor | .andNot => .andNot
def knum : IntKind → Nat | .i8 => 0 | .i16 => 1 | .i32 => 2 | .i64 => 3 | .u8 => 4 | .u16 => 5 | .u32 => 6 | .u64 => 7

theorem O2.num_inj {a b : O2} (h : a.num = b.num) : a = b := by cases a <;> cases b <;> first | rfl | (simp [O2.num] at h)
theorem Bo.num_inj {a b : Bo} (h : a.num = b.num) : a = b := by cases a <;> cases b <;> first | rfl | (simp [Bo.num] at h)
theorem knum_inj {a b : IntKind} (h : knum a = knum b) : a = b := by cases a <;> cases b <;> first | rfl | (simp [knum] at h)

def kbeqL : List IntKind → List IntKind → Bool
  | [], [] => true
  | a :: l, b :: m => Nat.beq (knum a) (knum b) && kbeqL l m
  | _, _ => false
theorem kbeqL_is : ∀ {a b : List IntKind}, kbeqL a b = true → a = b
  | [], [], _ => rfl
  | [], _ :: _, h => by simp [kbeqL] at h
  | _ :: _, [], h => by simp [kbeqL] at h
  | x :: a, y :: b, h => by
    simp only [kbeqL, Bool.and_eq_true] at h
    rw [knum_inj (Nat.eq_of_beq_eq_true h.1), kbeqL_is h.2]
def U1.beq : U1 → U1 → Bool
  | .len, .len => true
  | .not, .not => true
  | .kin a, .kin b => kbeqL a b
  | _, _ => false
theorem U1.beq_eq {a b : U1} (h : a.beq b = true) : a = b := by
  cases a <;> cases b <;> first | rfl | (simp [U1.beq] at h; done) | (rw [kbeqL_is h])
def kmin : IntKind → Int
  | .i8 => -128 | .i16 => -32768 | .i32 => -2147483648 | .i64 => -9223372036854775808 | _ => 0
def kmax : IntKind → Int
  | .i8 => 127 | .i16 => 32767 | .i32 => 2147483647 | .i64 => 9223372036854775807 | .u8 => 255 | .u16 => 65535 | .u32 => 4294967295 | .u64 => 18446744073709551615
/-- The kind of the cell at a place, where kinds come again and again. -/
def kAt (ks : List IntKind) (i : Nat) : IntKind := ks.getD (i % ks.length) .u8
def inKinds (ks : List IntKind) : Nat → List Int → Bool
  | _, [] => true
  | i, z :: l => (decide (kmin (kAt ks i) ≤ z) && decide (z ≤ kmax (kAt ks i))) && inKinds ks (i + 1) l
theorem inKinds_iff {ks : List IntKind} : ∀ {i : Nat} {l : List Int}, inKinds ks i l = true ↔ ∀ (j : Nat) (z : Int), l[j]? = some z → kmin (kAt ks (i + j)) ≤ z ∧ z ≤ kmax (kAt ks (i + j))
  | i, [] => by simp [inKinds]
  | i, z :: l => by
    simp only [inKinds, Bool.and_eq_true, decide_eq_true_eq, inKinds_iff (i := i + 1) (l := l)]
    constructor
    · rintro ⟨h1, h2⟩ j y hj
      cases j with
      | zero => simp only [List.getElem?_cons_zero, Option.some.injEq] at hj; subst hj; exact h1
      | succ j =>
        simp only [List.getElem?_cons_succ] at hj
        have := h2 j y hj
        rw [show i + 1 + j = i + (j + 1) from by omega] at this
        exact this
    · intro h
      refine ⟨h 0 z rfl, fun j y hj => ?_⟩
      have := h (j + 1) y (by simpa using hj)
      rw [show i + (j + 1) = i + 1 + j from by omega] at this
      exact this

inductive T where
  | var (i : Nat)
  | num (z : Int)
  | bol (p : Bool)
  | nil
  | cons (x l : T)
  | wr (k : IntKind) (x : T)
  | bits (o : Bo) (k : IntKind) (x y : T)
  | c1 (o : U1) (x : T)
  | c2 (o : O2) (x y : T)
  | ite (c x y : T)
  | set (l i x : T)
  | spl (l i s : T)
  | fn (f : Nat) (x y z : T)
  deriving Repr, Inhabited

abbrev Env := Nat → D
abbrev Sig := Nat → D → D → D → D

def U1.den : U1 → D → D
  | .len, x => .i x.list.length
  | .not, x => .b !x.bool
  | .kin ks, x => .b (inKinds ks 0 x.list)
def O2.den : O2 → D → D → D
  | .add, x, y => .i (x.int + y.int)
  | .sub, x, y => .i (x.int - y.int)
  | .mul, x, y => .i (x.int * y.int)
  | .quo, x, y => .i (x.int.tdiv y.int)
  | .rem, x, y => .i (x.int.tmod y.int)
  | .fdiv, x, y => .i (x.int.fdiv y.int)
  | .eq, x, y => .b (x.int == y.int)
  | .lt, x, y => .b (decide (x.int < y.int))
  | .le, x, y => .b (decide (x.int ≤ y.int))
  | .beq, x, y => .b (x.bool == y.bool)
  | .and, x, y => .b (x.bool && y.bool)
  | .or, x, y => .b (x.bool || y.bool)
  | .rd, l, i => .i (l.list.getD i.int.toNat 0)
  | .take, i, l => .l (l.list.take i.int.toNat)
  | .drop, i, l => .l (l.list.drop i.int.toNat)
  | .app, x, y => .l (x.list ++ y.list)
  | .rep, i, l => .l (List.replicate i.int.toNat l.list).flatten
  | .leq, x, y => .b (decide (x.list = y.list))
  | .mx, x, y => .i (max x.int y.int)
  | .mn, x, y => .i (min x.int y.int)
def setL (l : List Int) (i : Int) (x : Int) : List Int := l.set i.toNat x
def splL (l : List Int) (i : Int) (s : List Int) : List Int := l.take i.toNat ++ s ++ l.drop (i.toNat + s.length)

def T.den (Φ : Sig) (ρ : Env) : T → D
  | .var i => ρ i
  | .num z => .i z
  | .bol p => .b p
  | .nil => .l []
  | .cons x l => .l ((x.den Φ ρ).int :: (l.den Φ ρ).list)
  | .wr k x => .i (k.wrap (x.den Φ ρ).int)
  | .bits o k x y => .i (Go.bits o.op k (x.den Φ ρ).int (y.den Φ ρ).int)
  | .c1 o x => o.den (x.den Φ ρ)
  | .c2 o x y => o.den (x.den Φ ρ) (y.den Φ ρ)
  | .ite c x y => if (c.den Φ ρ).bool then x.den Φ ρ else y.den Φ ρ
  | .set l i x => .l (setL (l.den Φ ρ).list (i.den Φ ρ).int (x.den Φ ρ).int)
  | .spl l i s => .l (splL (l.den Φ ρ).list (i.den Φ ρ).int (s.den Φ ρ).list)
  | .fn f x y z => Φ f (x.den Φ ρ) (y.den Φ ρ) (z.den Φ ρ)

/-- Equality of integer literals, by the kernel's quick numbers. -/
def zbeq : Int → Int → Bool
  | .ofNat a, .ofNat b => Nat.beq a b
  | .negSucc a, .negSucc b => Nat.beq a b
  | _, _ => false
theorem zbeq_eq {a b : Int} (h : zbeq a b = true) : a = b := by
  cases a <;> cases b <;> first | (cases h; done) | (rw [Nat.eq_of_beq_eq_true h])
theorem zbeq_self (a : Int) : zbeq a a = true := by cases a <;> exact Nat.beq_refl _
theorem zbeq_iff {a b : Int} : zbeq a b = true ↔ a = b := ⟨zbeq_eq, fun h => h ▸ zbeq_self a⟩
theorem zbeq_eq_beq (a b : Int) : zbeq a b = (a == b) := by
  by_cases h : a = b
  · subst h; rw [zbeq_self]; simp
  · have h1 : zbeq a b = false := by
      cases e : zbeq a b with
      | false => rfl
      | true => exact absurd (zbeq_eq e) h
    rw [h1]; simp [h]

def bbeq : Bool → Bool → Bool
  | true, true => true
  | false, false => true
  | _, _ => false
theorem bbeq_eq {a b : Bool} (h : bbeq a b = true) : a = b := by cases a <;> cases b <;> first | rfl | cases h

def T.beq : T → T → Bool
  | .var i, .var j => Nat.beq i j
  | .num x, .num y => zbeq x y
  | .bol p, .bol q => bbeq p q
  | .nil, .nil => true
  | .cons x l, .cons y m => x.beq y && l.beq m
  | .wr k x, .wr j y => Nat.beq (knum k) (knum j) && x.beq y
  | .bits o k x y, .bits o' k' x' y' => Nat.beq o.num o'.num && (Nat.beq (knum k) (knum k') && (x.beq x' && y.beq y'))
  | .c1 o x, .c1 o' x' => o.beq o' && x.beq x'
  | .c2 o x y, .c2 o' x' y' => Nat.beq o.num o'.num && (x.beq x' && y.beq y')
  | .ite c x y, .ite c' x' y' => c.beq c' && (x.beq x' && y.beq y')
  | .set c x y, .set c' x' y' => c.beq c' && (x.beq x' && y.beq y')
  | .spl c x y, .spl c' x' y' => c.beq c' && (x.beq x' && y.beq y')
  | .fn f x y z, .fn f' x' y' z' => Nat.beq f f' && (x.beq x' && (y.beq y' && z.beq z'))
  | _, _ => false
theorem T.beq_eq : ∀ {a b : T}, a.beq b = true → a = b := by
  intro a
  induction a with
  | var i => intro b h; cases b <;> first | (cases h; done) | (rw [Nat.eq_of_beq_eq_true h])
  | num x => intro b h; cases b <;> first | (cases h; done) | (rw [zbeq_eq h])
  | bol p => intro b h; cases b <;> first | (cases h; done) | (rw [bbeq_eq h])
  | nil => intro b h; cases b <;> first | (cases h; done) | rfl
  | cons x l ih1 ih2 =>
    intro b h; cases b <;> first | (cases h; done) | skip
    simp only [T.beq, Bool.and_eq_true] at h
    rw [ih1 h.1, ih2 h.2]
  | wr k x ih =>
    intro b h; cases b <;> first | (cases h; done) | skip
    simp only [T.beq, Bool.and_eq_true] at h
    rw [knum_inj (Nat.eq_of_beq_eq_true h.1), ih h.2]
  | bits o k x y ih1 ih2 =>
    intro b h; cases b <;> first | (cases h; done) | skip
    simp only [T.beq, Bool.and_eq_true] at h
    rw [Bo.num_inj (Nat.eq_of_beq_eq_true h.1), knum_inj (Nat.eq_of_beq_eq_true h.2.1), ih1 h.2.2.1, ih2 h.2.2.2]
  | c1 o x ih =>
    intro b h; cases b <;> first | (cases h; done) | skip
    simp only [T.beq, Bool.and_eq_true] at h
    rw [U1.beq_eq h.1, ih h.2]
  | c2 o x y ih1 ih2 =>
    intro b h; cases b <;> first | (cases h; done) | skip
    simp only [T.beq, Bool.and_eq_true] at h
    rw [O2.num_inj (Nat.eq_of_beq_eq_true h.1), ih1 h.2.1, ih2 h.2.2]
  | ite c x y ih0 ih1 ih2 =>
    intro b h; cases b <;> first | (cases h; done) | skip
    simp only [T.beq, Bool.and_eq_true] at h
    rw [ih0 h.1, ih1 h.2.1, ih2 h.2.2]
  | set c x y ih0 ih1 ih2 =>
    intro b h; cases b <;> first | (cases h; done) | skip
    simp only [T.beq, Bool.and_eq_true] at h
    rw [ih0 h.1, ih1 h.2.1, ih2 h.2.2]
  | spl c x y ih0 ih1 ih2 =>
    intro b h; cases b <;> first | (cases h; done) | skip
    simp only [T.beq, Bool.and_eq_true] at h
    rw [ih0 h.1, ih1 h.2.1, ih2 h.2.2]
  | fn f x y z ih0 ih1 ih2 =>
    intro b h; cases b <;> first | (cases h; done) | skip
    simp only [T.beq, Bool.and_eq_true] at h
    rw [Nat.eq_of_beq_eq_true h.1, ih0 h.2.1, ih1 h.2.2.1, ih2 h.2.2.2]

/-! Making terms: literals are reckoned at once. -/
def mkAdd : T → T → T
  | .num x, .num y => .num (x + y)
  | .num 0, y => y
  | x, .num 0 => x
  | .c2 .add x (.num a), .num b => .c2 .add x (.num (a + b))
  | x, y => .c2 .add x y
def mkSub : T → T → T
  | .num x, .num y => .num (x - y)
  | x, .num 0 => x
  | .c2 .sub x (.num a), .num b => .c2 .sub x (.num (a + b))
  | x, y => .c2 .sub x y
def mkMul : T → T → T
  | .num x, .num y => .num (x * y)
  | x, .num 1 => x
  | .num x, y => .c2 .mul y (.num x)
  | x, y => .c2 .mul x y
def mkQuo : T → T → T
  | .num x, .num y => .num (x.tdiv y)
  | x, y => .c2 .quo x y
def mkRem : T → T → T
  | .num x, .num y => .num (x.tmod y)
  | x, y => .c2 .rem x y
def mkFdiv : T → T → T
  | .num x, .num y => .num (x.fdiv y)
  | x, y => .c2 .fdiv x y
def zlt (x y : Int) : Bool := decide (x < y)
def zle (x y : Int) : Bool := decide (x ≤ y)
def mkEq : T → T → T
  | .num x, .num y => .bol (zbeq x y)
  | x, y => .c2 .eq x y
def zltb : Int → Int → Bool
  | .ofNat a, .ofNat b => Nat.blt a b
  | .negSucc a, .negSucc b => Nat.blt b a
  | .negSucc _, .ofNat _ => true
  | .ofNat _, .negSucc _ => false
def zleb : Int → Int → Bool
  | .ofNat a, .ofNat b => Nat.ble a b
  | .negSucc a, .negSucc b => Nat.ble b a
  | .negSucc _, .ofNat _ => true
  | .ofNat _, .negSucc _ => false
def mkLt : T → T → T
  | .num x, .num y => .bol (zltb x y)
  | .num a, .c2 .sub x (.num c) => .c2 .lt (.num (a + c)) x
  | .num a, .c2 .add x (.num c) => .c2 .lt (.num (a - c)) x
  | .c2 .sub x (.num c), .num a => .c2 .lt x (.num (a + c))
  | .c2 .add x (.num c), .num a => .c2 .lt x (.num (a - c))
  | x, y => .c2 .lt x y
def mkLe : T → T → T
  | .num x, .num y => .bol (zleb x y)
  | .num a, .c2 .sub x (.num c) => .c2 .le (.num (a + c)) x
  | .num a, .c2 .add x (.num c) => .c2 .le (.num (a - c)) x
  | .c2 .sub x (.num c), .num a => .c2 .le x (.num (a + c))
  | .c2 .add x (.num c), .num a => .c2 .le x (.num (a - c))
  | x, y => if x.beq y then .bol true else .c2 .le x y
def mkNot : T → T
  | .bol p => .bol !p
  | .c1 .not x => x
  | x => .c1 .not x
def mkBeq : T → T → T
  | .bol p, .bol q => .bol (p == q)
  | .bol true, y => y
  | x, .bol true => x
  | .bol false, y => mkNot y
  | x, .bol false => mkNot x
  | x, y => .c2 .beq x y
def mkAnd : T → T → T
  | .bol true, y => y
  | .bol false, _ => .bol false
  | x, .bol true => x
  | x, y => .c2 .and x y
def mkWr (k : IntKind) : T → T
  | .num z => .num (k.wrap z)
  | x => .wr k x
def mkBits (o : Bo) (k : IntKind) : T → T → T
  | .num x, .num y => .num (Go.bits o.op k x y)
  | x, y => .bits o k x y
def mkLen : T → T
  | .nil => .num 0
  | .cons _ l => match mkLen l with
    | .num z => .num (z + 1)
    | t => .c2 .add t (.num 1)
  | x => .c1 .len x
def nthT : T → Nat → Option T
  | .cons x _, 0 => some x
  | .cons _ l, i + 1 => nthT l i
  | _, _ => none
def mkRd (l : T) : T → T
  | .num (.ofNat i) => match nthT l i with
    | some x => x
    | none => .c2 .rd l (.num (.ofNat i))
  | i => .c2 .rd l i
def dropT : T → Nat → Option T
  | l, 0 => some l
  | .cons _ l, i + 1 => dropT l i
  | _, _ + 1 => none
def takeT : T → Nat → Option T
  | _, 0 => some .nil
  | .cons x l, i + 1 => (takeT l i).map (.cons x)
  | _, _ + 1 => none
def mkDrop : T → T → T
  | .num (.ofNat i), l => match dropT l i with
    | some x => x
    | none => .c2 .drop (.num (.ofNat i)) l
  | i, l => .c2 .drop i l
def mkTake : T → T → T
  | .num (.ofNat i), l => match takeT l i with
    | some x => x
    | none => .c2 .take (.num (.ofNat i)) l
  | .c1 .len x, l => if x.beq l then l else .c2 .take (.c1 .len x) l
  | i, l => .c2 .take i l
def mkApp : T → T → T
  | .nil, y => y
  | .cons x l, y => .cons x (mkApp l y)
  | x, .nil => x
  | x, y => .c2 .app x y
def setT : T → Nat → T → Option T
  | .cons _ l, 0, v => some (.cons v l)
  | .cons x l, i + 1, v => (setT l i v).map (.cons x)
  | _, _, _ => none
def mkSet (l i v : T) : T := match i with
  | .num (.ofNat n) => match setT l n v with
    | some x => x
    | none => .set l i v
  | _ => .set l i v
def lenT : T → Option Nat
  | .nil => some 0
  | .cons _ l => (lenT l).map (· + 1)
  | _ => none
def mkSpl (l i s : T) : T := match i with
  | .num (.ofNat n) => match lenT s with
    | some k => match takeT l n, dropT l (n + k) with
      | some a, some b => mkApp a (mkApp s b)
      | _, _ => .spl l i s
    | none => .spl l i s
  | _ => .spl l i s
def litL : List Int → T
  | [] => .nil
  | z :: l => .cons (.num z) (litL l)
/-- n times the literal row l. -/
def repLit : Nat → T → T
  | 0, _ => .nil
  | n + 1, l => mkApp l (repLit n l)
def mkRep (n l : T) : T := match n with
  | .num (.ofNat k) => repLit k l
  | _ => .c2 .rep n l
/-- Equal rows: element by element, as far as they are told. -/
def mkLeq : T → T → T
  | .nil, .nil => .bol true
  | .nil, .cons _ _ => .bol false
  | .cons _ _, .nil => .bol false
  | .cons x l, .cons y m => mkAnd (if x.beq y then .bol true else mkEq x y) (mkLeq l m)
  | x, y => if x.beq y then .bol true else .c2 .leq x y
def mkIte : T → T → T → T
  | .bol true, x, _ => x
  | .bol false, _, y => y
  | c, x, y => .ite c x y

section
variable (Φ : Sig) (ρ : Env)
@[simp] theorem int_of_i {d : D} {z : Int} (h : d = .i z) : d.int = z := by rw [h]; rfl

theorem den_add (x y : T) : ((mkAdd x y).den Φ ρ).int = (x.den Φ ρ).int + (y.den Φ ρ).int := by
  unfold mkAdd; split <;> simp [T.den, O2.den]; omega
theorem den_sub (x y : T) : ((mkSub x y).den Φ ρ).int = (x.den Φ ρ).int - (y.den Φ ρ).int := by
  unfold mkSub; split <;> simp [T.den, O2.den]; omega
theorem den_mul (x y : T) : ((mkMul x y).den Φ ρ).int = (x.den Φ ρ).int * (y.den Φ ρ).int := by
  unfold mkMul; split <;> simp [T.den, O2.den, Int.mul_comm]
theorem den_quo (x y : T) : ((mkQuo x y).den Φ ρ).int = (x.den Φ ρ).int.tdiv (y.den Φ ρ).int := by
  unfold mkQuo; split <;> simp [T.den, O2.den]
theorem den_rem (x y : T) : ((mkRem x y).den Φ ρ).int = (x.den Φ ρ).int.tmod (y.den Φ ρ).int := by
  unfold mkRem; split <;> simp [T.den, O2.den]
theorem den_fdiv (x y : T) : ((mkFdiv x y).den Φ ρ).int = (x.den Φ ρ).int.fdiv (y.den Φ ρ).int := by
  unfold mkFdiv; split <;> simp [T.den, O2.den]
theorem den_eq (x y : T) : ((mkEq x y).den Φ ρ).bool = ((x.den Φ ρ).int == (y.den Φ ρ).int) := by
  unfold mkEq; split <;> simp [T.den, O2.den, zbeq_eq_beq]
theorem zltb_eq (a b : Int) : zltb a b = decide (a < b) := by
  cases a <;> cases b <;> simp [zltb, Nat.blt] <;> first | omega | (apply Bool.eq_iff_iff.mpr; simp; omega)
theorem zleb_eq (a b : Int) : zleb a b = decide (a ≤ b) := by
  cases a <;> cases b <;> simp only [zleb] <;> (apply Bool.eq_iff_iff.mpr; simp; try omega)
theorem den_lt (x y : T) : ((mkLt x y).den Φ ρ).bool = decide ((x.den Φ ρ).int < (y.den Φ ρ).int) := by
  unfold mkLt; split <;> simp [T.den, O2.den, zltb_eq] <;> omega
theorem den_le (x y : T) : ((mkLe x y).den Φ ρ).bool = decide ((x.den Φ ρ).int ≤ (y.den Φ ρ).int) := by
  unfold mkLe; split
  · simp [T.den, zleb_eq]
  · simp [T.den, O2.den]; omega
  · simp [T.den, O2.den]; omega
  · simp [T.den, O2.den]; omega
  · simp [T.den, O2.den]; omega
  · split
    · rename_i h; rw [T.beq_eq h]; simp [T.den]
    · simp [T.den, O2.den]
theorem den_not (x : T) : ((mkNot x).den Φ ρ).bool = !(x.den Φ ρ).bool := by
  unfold mkNot; split <;> simp [T.den, U1.den]
theorem den_beq (x y : T) : ((mkBeq x y).den Φ ρ).bool = ((x.den Φ ρ).bool == (y.den Φ ρ).bool) := by
  unfold mkBeq; split <;> simp [T.den, O2.den, den_not]
theorem den_and (x y : T) : ((mkAnd x y).den Φ ρ).bool = ((x.den Φ ρ).bool && (y.den Φ ρ).bool) := by
  unfold mkAnd; split <;> simp [T.den, O2.den]
theorem den_wr (k : IntKind) (x : T) : ((mkWr k x).den Φ ρ).int = k.wrap (x.den Φ ρ).int := by
  unfold mkWr; split <;> simp [T.den]
theorem den_bits (o : Bo) (k : IntKind) (x y : T) : ((mkBits o k x y).den Φ ρ).int = Go.bits o.op k (x.den Φ ρ).int (y.den Φ ρ).int := by
  unfold mkBits; split <;> simp [T.den]
theorem den_len : ∀ (x : T), ((mkLen x).den Φ ρ).int = ((x.den Φ ρ).list.length : Int)
  | .nil => by simp [mkLen, T.den]
  | .cons x l => by
    have ih := den_len l
    simp only [mkLen]
    split
    · rename_i z hz
      rw [hz] at ih
      simp [T.den] at ih ⊢
      omega
    · simp [T.den, O2.den, ih]
  | .var _ | .num _ | .bol _ | .wr _ _ | .bits .. | .c1 .. | .c2 .. | .ite .. | .set .. | .spl .. | .fn .. => by simp [mkLen, T.den, U1.den]
theorem den_nth : ∀ (l : T) (i : Nat) (x : T), nthT l i = some x → (l.den Φ ρ).list[i]? = some (x.den Φ ρ).int
  | .cons y l, 0, x, h => by simp [nthT] at h; subst h; simp [T.den]
  | .cons y l, i + 1, x, h => by simp [nthT] at h; simpa [T.den] using den_nth l i x h
  | .var _, _, _, h | .num _, _, _, h | .bol _, _, _, h | .nil, _, _, h | .wr _ _, _, _, h | .bits .., _, _, h | .c1 .., _, _, h | .c2 .., _, _, h | .ite .., _, _, h | .set .., _, _, h | .spl .., _, _, h | .fn .., _, _, h => by simp [nthT] at h
theorem den_rd (l i : T) : ((mkRd l i).den Φ ρ).int = (l.den Φ ρ).list.getD (i.den Φ ρ).int.toNat 0 := by
  unfold mkRd
  split
  · rename_i i
    split
    · rename_i x hx
      have := den_nth Φ ρ l i x hx
      simp [T.den, List.getD_eq_getElem?_getD, this]
    · simp [T.den, O2.den]
  · simp [T.den, O2.den]
theorem den_dropT : ∀ (l : T) (i : Nat) (x : T), dropT l i = some x → (x.den Φ ρ).list = (l.den Φ ρ).list.drop i
  | l, 0, x, h => by simp [dropT] at h; subst h; simp
  | .cons y l, i + 1, x, h => by simp [dropT] at h; simpa [T.den] using den_dropT l i x h
  | .var _, i + 1, _, h | .num _, i + 1, _, h | .bol _, i + 1, _, h | .nil, i + 1, _, h | .wr _ _, i + 1, _, h | .bits .., i + 1, _, h | .c1 .., i + 1, _, h | .c2 .., i + 1, _, h | .ite .., i + 1, _, h | .set .., i + 1, _, h | .spl .., i + 1, _, h | .fn .., i + 1, _, h => by simp [dropT] at h
theorem den_takeT : ∀ (l : T) (i : Nat) (x : T), takeT l i = some x → (x.den Φ ρ).list = (l.den Φ ρ).list.take i
  | l, 0, x, h => by simp [takeT] at h; subst h; simp [T.den]
  | .cons y l, i + 1, x, h => by
    simp [takeT] at h
    obtain ⟨z, hz, rfl⟩ := h
    simpa [T.den] using den_takeT l i z hz
  | .var _, i + 1, _, h | .num _, i + 1, _, h | .bol _, i + 1, _, h | .nil, i + 1, _, h | .wr _ _, i + 1, _, h | .bits .., i + 1, _, h | .c1 .., i + 1, _, h | .c2 .., i + 1, _, h | .ite .., i + 1, _, h | .set .., i + 1, _, h | .spl .., i + 1, _, h | .fn .., i + 1, _, h => by simp [takeT] at h
theorem den_drop (i l : T) : ((mkDrop i l).den Φ ρ).list = (l.den Φ ρ).list.drop (i.den Φ ρ).int.toNat := by
  unfold mkDrop
  split
  · split
    · rename_i x hx
      simpa [T.den] using den_dropT Φ ρ _ _ x hx
    · simp [T.den, O2.den]
  · simp [T.den, O2.den]
theorem den_take (i l : T) : ((mkTake i l).den Φ ρ).list = (l.den Φ ρ).list.take (i.den Φ ρ).int.toNat := by
  unfold mkTake
  split
  · split
    · rename_i x hx
      simpa [T.den] using den_takeT Φ ρ _ _ x hx
    · simp [T.den, O2.den]
  · split
    · rename_i h
      rw [T.beq_eq h]
      simp [T.den, U1.den]
    · simp [T.den, O2.den]
  · simp [T.den, O2.den]
theorem den_app : ∀ (x y : T), ((mkApp x y).den Φ ρ).list = (x.den Φ ρ).list ++ (y.den Φ ρ).list
  | .nil, y => by simp [mkApp, T.den]
  | .cons x l, y => by simp [mkApp, T.den, den_app l y]
  | .var _, y | .num _, y | .bol _, y | .wr _ _, y | .bits .., y | .c1 .., y | .c2 .., y | .ite .., y | .set .., y | .spl .., y | .fn .., y => by
    cases y <;> simp [mkApp, T.den, O2.den]
theorem den_setT : ∀ (l : T) (i : Nat) (v x : T), setT l i v = some x → (x.den Φ ρ).list = (l.den Φ ρ).list.set i (v.den Φ ρ).int
  | .cons y l, 0, v, x, h => by simp [setT] at h; subst h; simp [T.den]
  | .cons y l, i + 1, v, x, h => by
    simp [setT] at h
    obtain ⟨z, hz, rfl⟩ := h
    simpa [T.den] using den_setT l i v z hz
  | .var _, _, _, _, h | .num _, _, _, _, h | .bol _, _, _, _, h | .nil, _, _, _, h | .wr _ _, _, _, _, h | .bits .., _, _, _, h | .c1 .., _, _, _, h | .c2 .., _, _, _, h | .ite .., _, _, _, h | .set .., _, _, _, h | .spl .., _, _, _, h | .fn .., _, _, _, h => by simp [setT] at h
theorem den_set (l i v : T) : ((mkSet l i v).den Φ ρ).list = (l.den Φ ρ).list.set (i.den Φ ρ).int.toNat (v.den Φ ρ).int := by
  unfold mkSet
  split
  · split
    · rename_i x hx
      simpa [T.den] using den_setT Φ ρ _ _ _ x hx
    · simp [T.den, setL]
  · simp [T.den, setL]
theorem den_lenT : ∀ (l : T) (k : Nat), lenT l = some k → (l.den Φ ρ).list.length = k
  | .nil, k, h => by simp [lenT] at h; subst h; simp [T.den]
  | .cons y l, k, h => by
    simp [lenT] at h
    obtain ⟨z, hz, rfl⟩ := h
    simp [T.den, den_lenT l z hz]
  | .var _, _, h | .num _, _, h | .bol _, _, h | .wr _ _, _, h | .bits .., _, h | .c1 .., _, h | .c2 .., _, h | .ite .., _, h | .set .., _, h | .spl .., _, h | .fn .., _, h => by simp [lenT] at h
theorem den_spl (l i s : T) : ((mkSpl l i s).den Φ ρ).list = splL (l.den Φ ρ).list (i.den Φ ρ).int (s.den Φ ρ).list := by
  unfold mkSpl
  split
  · split
    · split
      · rename_i k hk _ _ a b ha hb
        rw [den_app, den_app, den_takeT Φ ρ _ _ _ ha, den_dropT Φ ρ _ _ _ hb, splL, den_lenT Φ ρ _ _ hk]
        simp [T.den]
      · simp [T.den]
    · simp [T.den]
  · simp [T.den]
theorem den_litL : ∀ (l : List Int), ((litL l).den Φ ρ).list = l
  | [] => rfl
  | z :: l => by simp [litL, T.den, den_litL l]
theorem den_repLit : ∀ (n : Nat) (l : T), ((repLit n l).den Φ ρ).list = (List.replicate n (l.den Φ ρ).list).flatten
  | 0, l => by simp [repLit, T.den]
  | n + 1, l => by simp [repLit, den_app, den_repLit n l, List.replicate_succ]
theorem den_rep (n l : T) : ((mkRep n l).den Φ ρ).list = (List.replicate (n.den Φ ρ).int.toNat (l.den Φ ρ).list).flatten := by
  unfold mkRep
  split
  · simp [den_repLit, T.den]
  · simp [T.den, O2.den]
theorem den_leq : ∀ (x y : T), ((mkLeq x y).den Φ ρ).bool = decide ((x.den Φ ρ).list = (y.den Φ ρ).list) := by
  have base : ∀ x y : T, ((if x.beq y then T.bol true else .c2 .leq x y).den Φ ρ).bool = decide ((x.den Φ ρ).list = (y.den Φ ρ).list) := by
    intro x y
    split
    · rename_i h; rw [T.beq_eq h]; simp [T.den]
    · rfl
  intro x
  induction x with
  | nil => intro y; cases y <;> first | exact base _ _ | simp [mkLeq, T.den]
  | cons x l _ ih =>
    intro y
    cases y with
    | cons y m =>
      simp only [mkLeq, den_and, ih, T.den, D.list_l, List.cons.injEq]
      have : ((if x.beq y then T.bol true else mkEq x y).den Φ ρ).bool = decide ((x.den Φ ρ).int = (y.den Φ ρ).int) := by
        split
        · rename_i h; rw [T.beq_eq h]; simp [T.den]
        · rw [den_eq]; apply Bool.eq_iff_iff.mpr; simp
      rw [this, Bool.decide_and]
    | nil => simp [mkLeq, T.den]
    | _ => exact base _ _
  | _ => intro y; exact base _ _
theorem den_ite (c x y : T) : (mkIte c x y).den Φ ρ = if (c.den Φ ρ).bool then x.den Φ ρ else y.den Φ ρ := by
  unfold mkIte; split <;> simp [T.den]
end

end Go.Proofs.Ytlgiibchnnaceaa.Sx
