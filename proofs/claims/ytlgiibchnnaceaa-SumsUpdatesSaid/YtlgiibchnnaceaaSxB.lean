/- Sx, part 1b: what is known of terms: facts, bounds, linear sums; terms made plain by what is known. Conditions: none. -/
import Derived.Test.YtlgiibchnnaceaaSxT
set_option linter.unusedVariables false
set_option linter.unusedSimpArgs false
namespace Go.Proofs.Ytlgiibchnnaceaa.Sx
open Go

/-! Facts. -/
/-- A condition without its outer 'not'. -/
def strip : T → Bool → T × Bool
  | .c1 .not x, p => strip x (!p)
  | t, p => (t, p)
theorem strip_ok (Φ : Sig) (ρ : Env) : ∀ (t : T) (p : Bool), (((strip t p).1.den Φ ρ).bool = (strip t p).2) = ((t.den Φ ρ).bool = p)
  | .c1 .not x, p => by
    simp only [strip]
    rw [strip_ok Φ ρ x (!p)]
    simp [T.den, U1.den]
  | .var _, _ | .num _, _ | .bol _, _ | .nil, _ | .cons _ _, _ | .wr _ _, _ | .bits .., _ | .c1 .len _, _ | .c1 (.kin _) _, _ | .c2 .., _ | .ite .., _ | .set .., _ | .spl .., _ | .fn .., _ => rfl
abbrev Facts := List (T × Bool)
def Facts.hold (Φ : Sig) (ρ : Env) (fa : Facts) : Prop := ∀ t p, (t, p) ∈ fa → (t.den Φ ρ).bool = p
/-- One fact more. -/
def addF (t : T) (p : Bool) (fa : Facts) : Facts := strip t p :: fa
def lookF : Facts → T → Option Bool
  | [], _ => none
  | (u, p) :: fa, t => if u.beq t then some p else lookF fa t
/-- What a fact tells of how small, how great a term is. -/
def low1 (t : T) : T × Bool → Option Int
  | (.c2 .lt (.num c) x, true) => if x.beq t then some (c + 1) else none
  | (.c2 .le (.num c) x, true) => if x.beq t then some c else none
  | (.c2 .lt x (.num c), false) => if x.beq t then some c else none
  | (.c2 .le x (.num c), false) => if x.beq t then some (c + 1) else none
  | (.c2 .eq x (.num c), true) => if x.beq t then some c else none
  | _ => none
def high1 (t : T) : T × Bool → Option Int
  | (.c2 .lt (.num c) x, false) => if x.beq t then some c else none
  | (.c2 .le (.num c) x, false) => if x.beq t then some (c - 1) else none
  | (.c2 .lt x (.num c), true) => if x.beq t then some (c - 1) else none
  | (.c2 .le x (.num c), true) => if x.beq t then some c else none
  | (.c2 .eq x (.num c), true) => if x.beq t then some c else none
  | _ => none

/-! Bounds. -/
abbrev Iv := Option Int × Option Int
def zmax (a b : Int) : Int := if zleb a b then b else a
def zmin (a b : Int) : Int := if zleb a b then a else b
/-- Both bounds hold: the better one. -/
def oBest (f : Int → Int → Int) : Option Int → Option Int → Option Int
  | some a, some b => some (f a b)
  | some a, none => some a
  | none, b => b
/-- One of both holds. -/
def oBoth (f : Int → Int → Int) : Option Int → Option Int → Option Int
  | some a, some b => some (f a b)
  | _, _ => none
def factLo (t : T) : Facts → Option Int
  | [] => none
  | f :: fa => oBest zmax (low1 t f) (factLo t fa)
def factHi (t : T) : Facts → Option Int
  | [] => none
  | f :: fa => oBest zmin (high1 t f) (factHi t fa)
def hull (a b : Iv) : Iv := (oBoth zmin a.1 b.1, oBoth zmax a.2 b.2)
def meet (a b : Iv) : Iv := (oBest zmax a.1 b.1, oBest zmin a.2 b.2)
def within (lo hi : Int) (v : Iv) : Bool := match v with
  | (some a, some b) => zleb lo a && zleb b hi
  | _ => false
def ofFacts (fa : Facts) (t : T) : Iv := (factLo t fa, factHi t fa)
/-- x less (x / m) m: what is left of x modulo m. -/
def modIv (x y : T) : Iv := match y with
  | .c2 .mul (.c2 .fdiv x' (.num m)) (.num m') => if zbeq m m' && (zltb 0 m && x'.beq x) then (some 0, some (m - 1)) else (none, none)
  | _ => (none, none)
/-- Of what kinds a fact says a row's cells to be. -/
def kinF : Facts → T → Option (List IntKind)
  | [], _ => none
  | (.c1 (.kin ks) u, true) :: fa, t => if u.beq t then some ks else kinF fa t
  | _ :: fa, t => kinF fa t
def kiv (k : IntKind) : Iv := (some (kmin k), some (kmax k))
def kivs : List IntKind → Iv
  | [] => (some 0, some 255)
  | k :: ks => hull (kiv k) (kivs ks)
/-- A number modulo n, if its form tells it. -/
def idxMod (n : Nat) : T → Option Nat
  | .num (.ofNat c) => some (c % n)
  | .c2 .add x y => match idxMod n x, idxMod n y with
    | some a, some b => some ((a + b) % n)
    | _, _ => none
  | .c2 .mul _ (.num (.ofNat m)) => if Nat.beq (m % n) 0 then some 0 else none
  | _ => none
def kindAt (fa : Facts) (l i : T) (iv : Iv) : Iv := match kinF fa l with
  | some ks => match iv.1 with
    | some a => if zleb 0 a then (match idxMod ks.length i with
      | some c => kiv (kAt ks c)
      | none => (none, none)) else (none, none)
    | none => (none, none)
  | none => (none, none)
def rng (fa : Facts) : K3 → T → Iv
  | .i, .num z => (some z, some z)
  | .i, .var i => ofFacts fa (.var i)
  | .i, .c1 .len x => meet (some 0, none) (ofFacts fa (.c1 .len x))
  | .i, .c2 .rd l i => meet (meet (hull (some 0, some 0) (rng fa .l l)) (kindAt fa l i (rng fa .i i))) (ofFacts fa (.c2 .rd l i))
  | .i, .fn f x y z => ofFacts fa (.fn f x y z)
  | .i, .c2 .add x y =>
    let a := rng fa .i x
    let b := rng fa .i y
    (oBoth (· + ·) a.1 b.1, oBoth (· + ·) a.2 b.2)
  | .i, .c2 .sub x y =>
    let a := rng fa .i x
    let b := rng fa .i y
    meet (meet (oBoth (· - ·) a.1 b.2, oBoth (· - ·) a.2 b.1) (modIv x y)) (ofFacts fa (.c2 .sub x y))
  | .i, .c2 .mul x (.num m) => if zleb 0 m then (((rng fa .i x).1).map (· * m), ((rng fa .i x).2).map (· * m)) else (none, none)
  | .i, .c2 .fdiv x (.num d) => if zltb 0 d then meet (((rng fa .i x).1).map (·.fdiv d), ((rng fa .i x).2).map (·.fdiv d)) (ofFacts fa (.c2 .fdiv x (.num d))) else (none, none)
  | .i, .wr k x => if within (kmin k) (kmax k) (rng fa .i x) then rng fa .i x else (some (kmin k), some (kmax k))
  | .i, .bits _ k _ _ => (some (kmin k), some (kmax k))
  | .i, .ite c x y => hull (rng fa .i x) (rng fa .i y)
  | .l, .nil => (some 0, some 0)
  | .l, .cons x l => hull (rng fa .i x) (rng fa .l l)
  | .l, .c2 .take _ l => rng fa .l l
  | .l, .c2 .drop _ l => rng fa .l l
  | .l, .c2 .app x y => hull (rng fa .l x) (rng fa .l y)
  | .l, .c2 .rep _ l => rng fa .l l
  | .l, .set l _ x => hull (rng fa .l l) (rng fa .i x)
  | .l, .spl l _ s => hull (rng fa .l l) (rng fa .l s)
  | .l, t => match kinF fa t with
    | some ks => kivs ks
    | none => (none, none)
  | _, _ => (none, none)

/-! Linear sums. -/
abbrev Lin := List (T × Int) × Int
def linAt (a : T) (c : Int) : List (T × Int) → List (T × Int)
  | [] => [(a, c)]
  | (b, d) :: l => if b.beq a then (if zbeq (c + d) 0 then l else (b, c + d) :: l) else (b, d) :: linAt a c l
/-- c times t, and acc. -/
def lin : T → Int → Lin → Lin
  | .num z, c, acc => (acc.1, acc.2 + c * z)
  | .c2 .add x y, c, acc => lin x c (lin y c acc)
  | .c2 .sub x y, c, acc => lin x c (lin y (-c) acc)
  | .c2 .mul x (.num m), c, acc => lin x (c * m) acc
  | t, c, acc => (linAt t c acc.1, acc.2)
def linSum : List (T × Int) → Lin → Lin
  | [], acc => acc
  | (t, c) :: l, acc => linSum l (linAt t (-c) acc.1, acc.2)
/-- G less F. -/
def linSub (G F : Lin) : Lin := linSum F.1 (G.1, G.2 - F.2)
def linHi (fa : Facts) : List (T × Int) → Option Int
  | [] => some 0
  | (t, c) :: l => if zleb 0 c then oBoth (· + ·) ((rng fa .i t).2.map (· * c)) (linHi fa l) else oBoth (· + ·) ((rng fa .i t).1.map (· * c)) (linHi fa l)
def notPos (fa : Facts) (G : Lin) : Bool := match linHi fa G.1 with
  | some h => zleb (h + G.2) 0
  | none => false
/-- A bound of one atom: the bounds know it already. -/
def plainAtom : T → Bool
  | .var _ => true
  | .num _ => true
  | .c1 .len _ => true
  | .c2 .rd _ _ => true
  | .fn .. => true
  | _ => false
def oneAtom : T → T → Bool
  | .num _, x => plainAtom x
  | x, .num _ => plainAtom x
  | _, _ => false
/-- What a fact says to be at most 0. -/
def factLin : T × Bool → List Lin
  | (.c2 .le x y, true) => [lin x 1 (lin y (-1) ([], 0))]
  | (.c2 .le x y, false) => [lin y 1 (lin x (-1) ([], 1))]
  | (.c2 .lt x y, true) => [lin x 1 (lin y (-1) ([], 1))]
  | (.c2 .lt x y, false) => [lin y 1 (lin x (-1) ([], 0))]
  | (.c2 .eq x y, true) => [lin x 1 (lin y (-1) ([], 0)), lin y 1 (lin x (-1) ([], 0))]
  | _ => []
def byFact (fa : Facts) (G : Lin) : List Lin → Bool
  | [] => false
  | F :: l => notPos fa (linSub G F) || byFact fa G l
def skipF : T × Bool → Bool
  | (.c2 .le x y, _) => oneAtom x y
  | (.c2 .lt x y, _) => oneAtom x y
  | (.c2 .eq x y, true) => oneAtom x y
  | _ => true
def byFacts (all : Facts) (G : Lin) : Facts → Bool
  | [] => false
  | f :: fa => (if skipF f then false else byFact all G (factLin f)) || byFacts all G fa
/-- Is G at most 0? -/
def leZ (fa : Facts) (G : Lin) : Bool := notPos fa G || byFacts fa G fa
/-- Is x + c at most y? -/
def leF (fa : Facts) (x : T) (c : Int) (y : T) : Bool := leZ fa (lin x 1 (lin y (-1) ([], c)))

/-! Lengths, elements. -/
def lenF (fa : Facts) : T → T
  | .nil => .num 0
  | .cons _ l => mkAdd (lenF fa l) (.num 1)
  | .c2 .take n l => if leF fa (.num 0) 0 n && leF fa n 0 (lenF fa l) then n else .c1 .len (.c2 .take n l)
  | .c2 .drop n l => if leF fa (.num 0) 0 n && leF fa n 0 (lenF fa l) then mkSub (lenF fa l) n else .c1 .len (.c2 .drop n l)
  | .c2 .app x y => mkAdd (lenF fa x) (lenF fa y)
  | .c2 .rep n l => if leF fa (.num 0) 0 n then mkMul n (lenF fa l) else .c1 .len (.c2 .rep n l)
  | .set l _ _ => lenF fa l
  | .spl l i s => if leF fa (.num 0) 0 i && leF fa (mkAdd i (lenF fa s)) 0 (lenF fa l) then lenF fa l else .c1 .len (.spl l i s)
  | t => .c1 .len t
def rdF (fa : Facts) : T → T → T
  | .c2 .drop n l, i => if leF fa (.num 0) 0 n && leF fa (.num 0) 0 i then rdF fa l (mkAdd n i) else .c2 .rd (.c2 .drop n l) i
  | .c2 .take n l, i => if leF fa (.num 0) 0 i && leF fa i 1 n then rdF fa l i else .c2 .rd (.c2 .take n l) i
  | .c2 .app x y, i => if leF fa (.num 0) 0 i && leF fa i 1 (lenF fa x) then rdF fa x i else if leF fa (lenF fa x) 0 i then rdF fa y (mkSub i (lenF fa x)) else .c2 .rd (.c2 .app x y) i
  | .set l j v, i => if leF fa (.num 0) 0 i && leF fa (.num 0) 0 j && (leF fa i 1 j || leF fa j 1 i) then rdF fa l i else if leF fa i 0 j && leF fa j 0 i && leF fa (.num 0) 0 j && leF fa j 1 (lenF fa l) then v else .c2 .rd (.set l j v) i
  | t, i => mkRd t i
/-- Whole numbers: lengths made plain. -/
def nrmS (fa : Facts) : T → T
  | .c1 .len x => lenF fa x
  | .c2 .add x y => mkAdd (nrmS fa x) (nrmS fa y)
  | .c2 .sub x y => mkSub (nrmS fa x) (nrmS fa y)
  | .c2 .mul x (.num m) => mkMul (nrmS fa x) (.num m)
  | t => t

/-! Numbers made plain. -/
/-- 2 to the answer divides the term. -/
def pow2 : Nat → Nat
  | 0 => 1
  | n + 1 => 2 * pow2 n
def tzN : Nat → Nat → Nat
  | 0, _ => 0
  | f + 1, n => if Nat.beq (n % 2) 0 then tzN f (n / 2) + 1 else 0
def tz : T → Nat
  | .num z => tzN 64 z.natAbs
  | .c2 .mul x y => tz x + tz y
  | .c2 .add x y => Nat.min (tz x) (tz y)
  | _ => 0
def loOk (fa : Facts) (x : T) : Bool := match (rng fa .i x).1 with
  | some a => zleb 0 a
  | none => false
def hiBelow (fa : Facts) (x : T) (m : Int) : Bool := match (rng fa .i x).2 with
  | some b => zltb b m
  | none => false
/-- x modulo m, of x not below 0. -/
def modT (fa : Facts) (x : T) (m : Int) : T := if hiBelow fa x m then x else mkSub x (mkMul (mkFdiv x (.num m)) (.num m))
/-- s of m = 2 ^ s - 1. -/
def mask : Nat → Int → Option Nat
  | 0, _ => none
  | s + 1, m => if zbeq (m + 1) (pow2 (s + 1)) then some (s + 1) else mask s m
def nrmBits (fa : Facts) (o : Bo) (k : IntKind) (x y : T) : T :=
  match o with
  | .or =>
    if loOk fa x && (loOk fa y && within 0 (kmax k) (rng fa .i (.c2 .add x y))) then
      (if hiBelow fa y (pow2 (tz x)) then mkAdd x y else if hiBelow fa x (pow2 (tz y)) then mkAdd y x else .bits .or k x y)
    else .bits .or k x y
  | .and => match y with
    | .num m => match mask 64 m with
      | some s => if within 0 (kmax k) (rng fa .i x) && zleb m (kmax k) then modT fa x (pow2 s) else .bits .and k x y
      | none => .bits .and k x y
    | _ => .bits .and k x y
  | .xor => match x with
    | .num m => if Nat.ble 4 (knum k) && (zbeq m (kmax k) && within 0 (kmax k) (rng fa .i y)) then mkSub (.num m) y else .bits .xor k x y
    | _ => .bits .xor k x y
  | .andNot => match y with
    | .num m => match mask 64 m with
      | some s => if within 0 (kmax k) (rng fa .i x) && zleb m (kmax k) then mkMul (mkFdiv x (.num (pow2 s))) (.num (pow2 s)) else .bits .andNot k x y
      | none => .bits .andNot k x y
    | _ => .bits .andNot k x y
def nrm1 (fa : Facts) : T → T
  | .c2 .quo x (.num d) => if zltb 0 d && loOk fa x then (if hiBelow fa x d then .num 0 else mkFdiv x (.num d)) else .c2 .quo x (.num d)
  | .c2 .rem x (.num d) => if zltb 0 d && loOk fa x then modT fa x d else .c2 .rem x (.num d)
  | .c2 .fdiv x (.num d) => if zltb 0 d && (loOk fa x && hiBelow fa x d) then .num 0 else .c2 .fdiv x (.num d)
  | .bits o k x y => nrmBits fa o k x y
  | .c2 .rd l i => rdF fa l i
  | .c1 .len x => lenF fa x
  | .c2 .add x y => mkAdd (nrmS fa x) (nrmS fa y)
  | .c2 .sub x y => mkSub (nrmS fa x) (nrmS fa y)
  | t => t
def nrmI (fa : Facts) : T → T
  | .wr k x =>
    let x' := nrm1 fa x
    if within (kmin k) (kmax k) (rng fa .i x') then x' else if Nat.ble 4 (knum k) && loOk fa x' then modT fa x' (kmax k + 1) else .wr k x'
  | t => nrm1 fa t
/-- Conditions made plain. -/
def nrmB (fa : Facts) : T → T
  | .c2 .eq x y => mkEq (nrmS fa x) (nrmS fa y)
  | .c2 .lt x y => mkLt (nrmS fa x) (nrmS fa y)
  | .c2 .le x y => mkLe (nrmS fa x) (nrmS fa y)
  | .c1 .not x => mkNot (nrmB fa x)
  | .c2 .and x y => mkAnd (nrmB fa x) (nrmB fa y)
  | t => t
/-- Are a row's cells, from place i on, of these kinds? -/
def kinT (fa : Facts) (ks : List IntKind) : Nat → T → Bool
  | _, .nil => true
  | i, .cons x l => within (kmin (kAt ks i)) (kmax (kAt ks i)) (rng fa .i x) && kinT fa ks (i + 1) l
  | i, .c2 .take _ l => kinT fa ks i l
  | i, .c2 .drop n l => match idxMod ks.length n with
    | some c => loOk fa n && (Nat.ble 1 ks.length && kinT fa ks (i + (ks.length - c)) l)
    | none => false
  | i, .c2 .app x y => match idxMod ks.length (lenF fa x) with
    | some c => kinT fa ks i x && kinT fa ks (i + c) y
    | none => false
  | i, t => (match ks with
    | [k] => within (kmin k) (kmax k) (rng fa .l t)
    | _ => false) || (Nat.beq (i % ks.length) 0 && (match kinF fa t with
    | some ks' => kbeqL ks ks'
    | none => false))
/-- Is a condition decided? -/
def decF (fa : Facts) : T → Option Bool
  | .bol p => some p
  | .c1 .not x => (decF fa x).map (!·)
  | .c2 .eq x y => match lookF fa (.c2 .eq x y) with
    | some p => some p
    | none => if leF fa x 1 y || leF fa y 1 x then some false else if leF fa x 0 y && leF fa y 0 x then some true else none
  | .c2 .lt x y => if leF fa x 1 y then some true else if leF fa y 0 x then some false else none
  | .c2 .le x y => if leF fa x 0 y then some true else if leF fa y 1 x then some false else none
  | .c2 .and x y => match decF fa x, decF fa y with
    | some true, some true => some true
    | some false, _ => some false
    | _, some false => some false
    | _, _ => lookF fa (.c2 .and x y)
  | .c1 (.kin ks) l => if kinT fa ks 0 l then some true else lookF fa (.c1 (.kin ks) l)
  | t => lookF fa t

section
variable {Φ : Sig} {ρ : Env}
theorem addF_ok {t : T} {p : Bool} {fa : Facts} (h : (t.den Φ ρ).bool = p) (hf : fa.hold Φ ρ) : (addF t p fa).hold Φ ρ := by
  intro u q hm
  simp only [addF, List.mem_cons] at hm
  rcases hm with hm | hm
  · have := strip_ok Φ ρ t p
    rw [← hm] at this
    exact this.mpr h
  · exact hf u q hm
theorem lookF_mem : ∀ {fa : Facts} {t : T} {p : Bool}, lookF fa t = some p → (t, p) ∈ fa
  | (u, q) :: fa, t, p, h => by
    unfold lookF at h
    split at h
    · rename_i hb
      rw [T.beq_eq hb] at *
      injection h with h
      subst h
      exact List.mem_cons_self
    · exact List.mem_cons_of_mem _ (lookF_mem h)
theorem low1_ok {t : T} {f : T × Bool} {z : Int} (hf : (f.1.den Φ ρ).bool = f.2) (h : low1 t f = some z) : z ≤ (t.den Φ ρ).int := by
  unfold low1 at h
  split at h <;> first | (cases h; done) | skip
  all_goals
    split at h
    · rename_i hb
      injection h with h
      subst h
      rw [← T.beq_eq hb]
      simp [T.den, O2.den] at hf
      omega
    · cases h
theorem high1_ok {t : T} {f : T × Bool} {z : Int} (hf : (f.1.den Φ ρ).bool = f.2) (h : high1 t f = some z) : (t.den Φ ρ).int ≤ z := by
  unfold high1 at h
  split at h <;> first | (cases h; done) | skip
  all_goals
    split at h
    · rename_i hb
      injection h with h
      subst h
      rw [← T.beq_eq hb]
      simp [T.den, O2.den] at hf
      omega
    · cases h
theorem zleb_le {a b : Int} (h : zleb a b = true) : a ≤ b := by rw [zleb_eq] at h; exact of_decide_eq_true h
theorem zltb_lt {a b : Int} (h : zltb a b = true) : a < b := by rw [zltb_eq] at h; exact of_decide_eq_true h
structure inIv (v : Iv) (z : Int) : Prop where
  lo : ∀ a, v.1 = some a → a ≤ z
  hi : ∀ b, v.2 = some b → z ≤ b
theorem inIv_none (z : Int) : inIv (none, none) z := ⟨fun _ h => (by cases h), fun _ h => (by cases h)⟩
theorem zmax_le {a b z : Int} (h1 : a ≤ z) (h2 : b ≤ z) : zmax a b ≤ z := by unfold zmax; split <;> assumption
theorem le_zmin {a b z : Int} (h1 : z ≤ a) (h2 : z ≤ b) : z ≤ zmin a b := by unfold zmin; split <;> assumption
theorem zmin_le {a b : Int} : zmin a b ≤ a ∧ zmin a b ≤ b := by
  unfold zmin; split
  · rename_i h; exact ⟨Int.le_refl _, zleb_le h⟩
  · rename_i h; rw [zleb_eq] at h; simp at h; exact ⟨by omega, Int.le_refl _⟩
theorem le_zmax {a b : Int} : a ≤ zmax a b ∧ b ≤ zmax a b := by
  unfold zmax; split
  · rename_i h; exact ⟨zleb_le h, Int.le_refl _⟩
  · rename_i h; rw [zleb_eq] at h; simp at h; exact ⟨Int.le_refl _, by omega⟩
theorem oBest_lo {a b : Option Int} {z : Int} (h1 : ∀ x, a = some x → x ≤ z) (h2 : ∀ x, b = some x → x ≤ z) : ∀ x, oBest zmax a b = some x → x ≤ z := by
  intro x h
  cases a with
  | none => exact h2 x h
  | some a =>
    cases b with
    | none => exact h1 x h
    | some b => simp only [oBest, Option.some.injEq] at h; rw [← h]; exact zmax_le (h1 a rfl) (h2 b rfl)
theorem oBest_hi {a b : Option Int} {z : Int} (h1 : ∀ x, a = some x → z ≤ x) (h2 : ∀ x, b = some x → z ≤ x) : ∀ x, oBest zmin a b = some x → z ≤ x := by
  intro x h
  cases a with
  | none => exact h2 x h
  | some a =>
    cases b with
    | none => exact h1 x h
    | some b => simp only [oBest, Option.some.injEq] at h; rw [← h]; exact le_zmin (h1 a rfl) (h2 b rfl)
theorem oBoth_some {f : Int → Int → Int} {a b : Option Int} {x : Int} (h : oBoth f a b = some x) : ∃ u v, a = some u ∧ b = some v ∧ x = f u v := by
  cases a with
  | none => cases h
  | some a =>
    cases b with
    | none => cases h
    | some b => simp only [oBoth, Option.some.injEq] at h; exact ⟨a, b, rfl, rfl, h.symm⟩
theorem meet_ok {a b : Iv} {z : Int} (h1 : inIv a z) (h2 : inIv b z) : inIv (meet a b) z := ⟨oBest_lo h1.lo h2.lo, oBest_hi h1.hi h2.hi⟩
theorem hull_l {a b : Iv} {z : Int} (h : inIv a z) : inIv (hull a b) z := by
  refine ⟨fun x hx => ?_, fun x hx => ?_⟩
  · obtain ⟨u, v, h1, h2, rfl⟩ := oBoth_some hx
    have := h.lo u h1; have := (@zmin_le u v).1; omega
  · obtain ⟨u, v, h1, h2, rfl⟩ := oBoth_some hx
    have := h.hi u h1; have := (@le_zmax u v).1; omega
theorem hull_r {a b : Iv} {z : Int} (h : inIv b z) : inIv (hull a b) z := by
  refine ⟨fun x hx => ?_, fun x hx => ?_⟩
  · obtain ⟨u, v, h1, h2, rfl⟩ := oBoth_some hx
    have := h.lo v h2; have := (@zmin_le u v).2; omega
  · obtain ⟨u, v, h1, h2, rfl⟩ := oBoth_some hx
    have := h.hi v h2; have := (@le_zmax u v).2; omega
theorem ofFacts_ok {fa : Facts} (hf : fa.hold Φ ρ) (t : T) : inIv (ofFacts fa t) (t.den Φ ρ).int := by
  refine ⟨?_, ?_⟩
  · show ∀ a, factLo t fa = some a → _
    induction fa with
    | nil => intro a h; cases h
    | cons f fa ih => exact oBest_lo (fun x h => low1_ok (hf f.1 f.2 List.mem_cons_self) h) (ih (fun t p hm => hf t p (List.mem_cons_of_mem _ hm)))
  · show ∀ a, factHi t fa = some a → _
    induction fa with
    | nil => intro a h; cases h
    | cons f fa ih => exact oBest_hi (fun x h => high1_ok (hf f.1 f.2 List.mem_cons_self) h) (ih (fun t p hm => hf t p (List.mem_cons_of_mem _ hm)))
theorem within_ok {lo hi : Int} {v : Iv} {z : Int} (h : within lo hi v = true) (hz : inIv v z) : lo ≤ z ∧ z ≤ hi := by
  unfold within at h
  split at h
  · rename_i a b
    simp only [Bool.and_eq_true] at h
    have := zleb_le h.1
    have := zleb_le h.2
    have := hz.lo a rfl
    have := hz.hi b rfl
    omega
  · cases h
theorem kmin_eq (k : IntKind) : k.min = kmin k := by cases k <;> decide
theorem kmax_eq (k : IntKind) : k.max = kmax k := by cases k <;> decide
theorem wrap_range (k : IntKind) (z : Int) : kmin k ≤ k.wrap z ∧ k.wrap z ≤ kmax k := by
  cases k <;> simp only [IntKind.wrap, IntKind.bits, IntKind.signed, kmin, kmax, Bool.true_and, Bool.false_and, decide_eq_true_eq, Bool.false_eq_true, if_false, ge_iff_le] <;> (try split) <;> omega
theorem wrap_in {k : IntKind} {z : Int} (h1 : kmin k ≤ z) (h2 : z ≤ kmax k) : k.wrap z = z := by
  cases k <;> simp only [kmin, kmax] at h1 h2 <;> simp only [IntKind.wrap, IntKind.bits, IntKind.signed, Bool.true_and, Bool.false_and, decide_eq_true_eq, Bool.false_eq_true, if_false, ge_iff_le] <;> (try split) <;> omega
theorem wrap_mod {k : IntKind} (hk : 4 ≤ knum k) (z : Int) : k.wrap z = z % (kmax k + 1) := by
  cases k <;> simp [knum] at hk <;> simp [IntKind.wrap, IntKind.bits, IntKind.signed, kmax]
theorem fdiv_ediv (x : Int) {d : Int} (h : 0 < d) : x.fdiv d = x / d := Int.fdiv_eq_ediv_of_nonneg x (by omega)
theorem all_ok {l : List Int} : (l.all fun z => decide (0 ≤ z) && decide (z < 256)) = true ↔ ∀ z ∈ l, 0 ≤ z ∧ z < 256 := by
  simp [List.all_eq_true]
theorem splL_mem {l s : List Int} {i z : Int} (h : z ∈ splL l i s) : z ∈ l ∨ z ∈ s := by
  unfold splL at h
  simp only [List.mem_append] at h
  rcases h with (h | h) | h
  · exact .inl (List.mem_of_mem_take h)
  · exact .inr h
  · exact .inl (List.mem_of_mem_drop h)
theorem kinF_ok : ∀ {fa : Facts} {t : T} {ks : List IntKind}, fa.hold Φ ρ → kinF fa t = some ks → inKinds ks 0 (t.den Φ ρ).list = true := by
  intro fa
  induction fa with
  | nil => intro t ks _ h; cases h
  | cons f fa ih =>
    intro t ks hf h
    have hf' : Facts.hold Φ ρ fa := fun t p hm => hf t p (List.mem_cons_of_mem _ hm)
    unfold kinF at h
    split at h
    · cases h
    · rename_i e
      injection e with e1 e2
      subst e1 e2
      split at h
      · rename_i hb
        injection h with h
        subst h
        have := hf _ _ List.mem_cons_self
        rw [← T.beq_eq hb]
        simpa [T.den, U1.den] using this
      · exact ih hf' h
    · rename_i e
      injection e with e1 e2
      subst e1 e2
      exact ih hf' h
theorem kiv_ok {k : IntKind} {z : Int} (h1 : kmin k ≤ z) (h2 : z ≤ kmax k) : inIv (kiv k) z := ⟨fun a h => by injection h with h; omega, fun a h => by injection h with h; omega⟩
theorem kivs_ok : ∀ (ks : List IntKind) (i : Nat) {z : Int}, kmin (ks.getD i .u8) ≤ z → z ≤ kmax (ks.getD i .u8) → inIv (kivs ks) z
  | [], i, z, h1, h2 => by
    simp [kmin, kmax] at h1 h2
    exact ⟨fun a h => by injection h with h; omega, fun a h => by injection h with h; omega⟩
  | k :: ks, 0, z, h1, h2 => hull_l (kiv_ok h1 h2)
  | k :: ks, i + 1, z, h1, h2 => hull_r (kivs_ok ks i (by simpa using h1) (by simpa using h2))
theorem kin_zero (k : IntKind) : kmin k ≤ 0 ∧ (0 : Int) ≤ kmax k := by cases k <;> decide
theorem idxMod_ok (n : Nat) : ∀ (t : T) (c : Nat), idxMod n t = some c → (t.den Φ ρ).int % (n : Int) = (c : Int) := by
  intro t
  induction t with
  | num z =>
    intro c h
    cases z with
    | ofNat z => simp only [idxMod, Option.some.injEq] at h; subst h; simp [T.den]
    | negSucc z => cases h
  | c2 o x y ih1 ih2 =>
    intro c h
    cases o
    case add =>
      simp only [idxMod] at h
      split at h
      · rename_i a b h1 h2
        injection h with h
        subst h
        simp only [T.den, O2.den, D.int_i]
        rw [Int.add_emod, ih1 a h1, ih2 b h2]
        simp
      · cases h
    case mul =>
      cases y with
      | num m =>
        cases m with
        | ofNat m =>
          simp only [idxMod] at h
          split at h
          · rename_i hm
            have hm := Nat.eq_of_beq_eq_true hm
            injection h with h
            subst h
            simp only [T.den, O2.den, D.int_i]
            obtain ⟨q, hq⟩ := Nat.dvd_of_mod_eq_zero hm
            rw [hq]
            simp only [Int.ofNat_eq_natCast, Int.natCast_mul]
            rw [← Int.mul_assoc, Int.mul_comm _ (n : Int), Int.mul_assoc]
            simp
          · cases h
        | negSucc m => cases h
      | _ => cases h
    all_goals cases h
  | _ => intro c h; cases h
theorem kAt_mod {ks : List IntKind} {i c : Nat} (h : i % ks.length = c % ks.length) : kAt ks i = kAt ks c := by unfold kAt; rw [h]
theorem kindAt_ok {fa : Facts} (hf : fa.hold Φ ρ) {l i : T} {iv : Iv} (hi : inIv iv (i.den Φ ρ).int) : inIv (kindAt fa l i iv) ((l.den Φ ρ).list.getD (i.den Φ ρ).int.toNat 0) := by
  unfold kindAt
  split
  · rename_i ks hks
    split
    · rename_i a ha
      split
      · rename_i h0
        have h0 := zleb_le h0
        have h1 := hi.lo a ha
        split
        · rename_i c hc
          have hm := idxMod_ok (Φ := Φ) (ρ := ρ) _ _ _ hc
          have e : kAt ks c = kAt ks (0 + (i.den Φ ρ).int.toNat) := by
            apply kAt_mod
            rw [Nat.zero_add]
            have h2 : (((i.den Φ ρ).int.toNat % ks.length : Nat) : Int) = (c : Int) := by
              rw [Int.natCast_emod, Int.toNat_of_nonneg (by omega)]; exact hm
            have h3 : (i.den Φ ρ).int.toNat % ks.length = c := by omega
            rw [← h3, Nat.mod_mod]
          rw [e]
          have hk := inKinds_iff.mp (kinF_ok hf hks)
          rw [List.getD_eq_getElem?_getD]
          cases hg : (l.den Φ ρ).list[(i.den Φ ρ).int.toNat]? with
          | some z =>
            have := hk _ z hg
            exact kiv_ok this.1 this.2
          | none => exact kiv_ok (kin_zero _).1 (kin_zero _).2
        · exact inIv_none _
      · exact inIv_none _
    · exact inIv_none _
  · exact inIv_none _
theorem modIv_ok (x y : T) : inIv (modIv x y) ((x.den Φ ρ).int - (y.den Φ ρ).int) := by
  unfold modIv
  split
  · rename_i x' m m'
    split
    · rename_i h
      simp only [Bool.and_eq_true] at h
      have h1 := zbeq_eq h.1
      have h2 := zltb_lt h.2.1
      have h3 := T.beq_eq h.2.2
      subst h1 h3
      simp only [T.den, O2.den, D.int_i, fdiv_ediv _ h2]
      have e := Int.emod_def (x'.den Φ ρ).int m
      rw [Int.mul_comm] at e
      have := Int.emod_nonneg (x'.den Φ ρ).int (show m ≠ 0 by omega)
      have := Int.emod_lt_of_pos (x'.den Φ ρ).int h2
      exact ⟨fun a h => by injection h with h; omega, fun a h => by injection h with h; omega⟩
    · exact inIv_none _
  · exact inIv_none _
theorem bits_range (o : Bo) (k : IntKind) (x y : Int) : kmin k ≤ Go.bits o.op k x y ∧ Go.bits o.op k x y ≤ kmax k := by
  unfold Go.bits
  cases o <;> exact wrap_range k _
theorem rng_ok {fa : Facts} (hf : fa.hold Φ ρ) : ∀ t : T, inIv (rng fa .i t) (t.den Φ ρ).int ∧ ∀ z ∈ (t.den Φ ρ).list, inIv (rng fa .l t) z := by
  have nl : ∀ {z : Int} (h : z ∈ ([] : List Int)) {v : Iv}, inIv v z := fun h => by cases h
  have atom : ∀ (t : T), (∀ z ∈ (t.den Φ ρ).list, inIv (match kinF fa t with | some ks => kivs ks | none => (none, none)) z) := by
    intro t z hz
    split
    · rename_i ks h
      have hk := inKinds_iff.mp (kinF_ok hf h)
      obtain ⟨j, hj⟩ := List.getElem?_of_mem hz
      have := hk j z hj
      exact kivs_ok ks _ this.1 this.2
    · exact inIv_none z
  intro t
  induction t with
  | var i => exact ⟨ofFacts_ok hf _, atom _⟩
  | num z => exact ⟨⟨fun a h => by injection h with h; simp [T.den, h], fun a h => by injection h with h; simp [T.den, h]⟩, fun z hz => nl hz⟩
  | bol p => exact ⟨inIv_none _, fun z hz => nl hz⟩
  | nil => exact ⟨inIv_none _, fun z hz => nl hz⟩
  | cons x l ih1 ih2 =>
    refine ⟨inIv_none _, fun z hz => ?_⟩
    simp only [T.den, D.list_l, List.mem_cons] at hz
    rcases hz with h | h
    · rw [h]; exact hull_l ih1.1
    · exact hull_r (ih2.2 z h)
  | wr k x ih =>
    refine ⟨?_, fun z hz => nl hz⟩
    simp only [rng, T.den, D.int_i]
    split
    · rename_i h
      have := within_ok h ih.1
      rw [wrap_in this.1 this.2]; exact ih.1
    · have := wrap_range k (x.den Φ ρ).int
      exact ⟨fun a h => by injection h with h; omega, fun a h => by injection h with h; omega⟩
  | bits o k x y _ _ =>
    refine ⟨?_, fun z hz => nl hz⟩
    have := bits_range o k (x.den Φ ρ).int (y.den Φ ρ).int
    simp only [rng, T.den, D.int_i]
    exact ⟨fun a h => by injection h with h; omega, fun a h => by injection h with h; omega⟩
  | c1 o x ih =>
    cases o with
    | len =>
      refine ⟨?_, fun z hz => nl hz⟩
      refine meet_ok ⟨fun a h => ?_, fun a h => by cases h⟩ (ofFacts_ok hf _)
      injection h with h
      simp only [T.den, U1.den, D.int_i]
      omega
    | not => exact ⟨inIv_none _, fun z hz => nl hz⟩
    | kin ks => exact ⟨inIv_none _, fun z hz => nl hz⟩
  | c2 o x y ih1 ih2 =>
    cases o
    case add =>
      refine ⟨⟨fun a h => ?_, fun a h => ?_⟩, fun z hz => nl hz⟩
      · obtain ⟨u, v, h1, h2, rfl⟩ := oBoth_some h
        have := ih1.1.lo u h1; have := ih2.1.lo v h2
        simp only [T.den, O2.den, D.int_i]; omega
      · obtain ⟨u, v, h1, h2, rfl⟩ := oBoth_some h
        have := ih1.1.hi u h1; have := ih2.1.hi v h2
        simp only [T.den, O2.den, D.int_i]; omega
    case sub =>
      refine ⟨meet_ok (meet_ok ⟨fun a h => ?_, fun a h => ?_⟩ (modIv_ok x y)) (ofFacts_ok hf _), fun z hz => nl hz⟩
      · obtain ⟨u, v, h1, h2, rfl⟩ := oBoth_some h
        have := ih1.1.lo u h1; have := ih2.1.hi v h2
        simp only [T.den, O2.den, D.int_i]; omega
      · obtain ⟨u, v, h1, h2, rfl⟩ := oBoth_some h
        have := ih1.1.hi u h1; have := ih2.1.lo v h2
        simp only [T.den, O2.den, D.int_i]; omega
    case mul =>
      refine ⟨?_, fun z hz => nl hz⟩
      cases y with
      | num m =>
        simp only [rng]
        split
        · rename_i hm
          have hm := zleb_le hm
          refine ⟨fun a h => ?_, fun a h => ?_⟩
          · simp only [Option.map_eq_some_iff] at h
            obtain ⟨u, h1, rfl⟩ := h
            have := ih1.1.lo u h1
            simp only [T.den, O2.den, D.int_i]
            exact Int.mul_le_mul_of_nonneg_right this hm
          · simp only [Option.map_eq_some_iff] at h
            obtain ⟨u, h1, rfl⟩ := h
            have := ih1.1.hi u h1
            simp only [T.den, O2.den, D.int_i]
            exact Int.mul_le_mul_of_nonneg_right this hm
        · exact inIv_none _
      | _ => exact inIv_none _
    case fdiv =>
      refine ⟨?_, fun z hz => nl hz⟩
      cases y with
      | num d =>
        simp only [rng]
        split
        · rename_i hd
          have hd := zltb_lt hd
          refine meet_ok ⟨fun a h => ?_, fun a h => ?_⟩ (ofFacts_ok hf _)
          · simp only [Option.map_eq_some_iff] at h
            obtain ⟨u, h1, rfl⟩ := h
            have := ih1.1.lo u h1
            simp only [T.den, O2.den, D.int_i, fdiv_ediv _ hd]
            exact Int.ediv_le_ediv hd this
          · simp only [Option.map_eq_some_iff] at h
            obtain ⟨u, h1, rfl⟩ := h
            have := ih1.1.hi u h1
            simp only [T.den, O2.den, D.int_i, fdiv_ediv _ hd]
            exact Int.ediv_le_ediv hd this
        · exact inIv_none _
      | _ => exact inIv_none _
    case rd =>
      refine ⟨meet_ok (meet_ok ?_ (kindAt_ok hf ih2.1)) (ofFacts_ok hf _), fun z hz => nl hz⟩
      simp only [T.den, O2.den, D.int_i]
      by_cases hlt : (y.den Φ ρ).int.toNat < (x.den Φ ρ).list.length
      · rw [List.getD_eq_getElem?_getD, List.getElem?_eq_getElem hlt]
        exact hull_r (ih1.2 _ (List.getElem_mem hlt))
      · rw [List.getD_eq_getElem?_getD, List.getElem?_eq_none (by omega)]
        exact hull_l ⟨fun a h => by injection h with h; simp [← h], fun a h => by injection h with h; simp [← h]⟩
    case take => exact ⟨inIv_none _, fun z hz => ih2.2 z (List.mem_of_mem_take hz)⟩
    case drop => exact ⟨inIv_none _, fun z hz => ih2.2 z (List.mem_of_mem_drop hz)⟩
    case app =>
      refine ⟨inIv_none _, fun z hz => ?_⟩
      simp only [T.den, O2.den, D.list_l, List.mem_append] at hz
      rcases hz with h | h
      · exact hull_l (ih1.2 z h)
      · exact hull_r (ih2.2 z h)
    case rep =>
      refine ⟨inIv_none _, fun z hz => ?_⟩
      simp only [T.den, O2.den, D.list_l, List.mem_flatten, List.mem_replicate] at hz
      obtain ⟨l, ⟨_, rfl⟩, h⟩ := hz
      exact ih2.2 z h
    all_goals exact ⟨inIv_none _, fun z hz => nl hz⟩
  | ite c x y _ ih1 ih2 =>
    refine ⟨?_, atom _⟩
    simp only [rng, T.den]
    split
    · exact hull_l ih1.1
    · exact hull_r ih2.1
  | set l i x ih1 _ ih2 =>
    refine ⟨inIv_none _, fun z hz => ?_⟩
    simp only [T.den, D.list_l, setL] at hz
    rcases List.mem_or_eq_of_mem_set hz with h | h
    · exact hull_l (ih1.2 z h)
    · rw [h]; exact hull_r ih2.1
  | spl l i s ih1 _ ih2 =>
    refine ⟨inIv_none _, fun z hz => ?_⟩
    simp only [T.den, D.list_l] at hz
    rcases splL_mem hz with h | h
    · exact hull_l (ih1.2 z h)
    · exact hull_r (ih2.2 z h)
  | fn f x y z => exact ⟨ofFacts_ok hf _, atom _⟩
theorem rng_i {fa : Facts} (hf : fa.hold Φ ρ) (t : T) : inIv (rng fa .i t) (t.den Φ ρ).int := (rng_ok hf t).1

/-! Linear sums, as numbers. -/
def linV (Φ : Sig) (ρ : Env) : List (T × Int) → Int
  | [] => 0
  | (t, c) :: l => (t.den Φ ρ).int * c + linV Φ ρ l
def Lin.v (Φ : Sig) (ρ : Env) (G : Lin) : Int := linV Φ ρ G.1 + G.2
theorem linAt_v (a : T) (c : Int) : ∀ l : List (T × Int), linV Φ ρ (linAt a c l) = (a.den Φ ρ).int * c + linV Φ ρ l
  | [] => by simp [linAt, linV]
  | (b, d) :: l => by
    simp only [linAt]
    split
    · rename_i hb
      have hb := T.beq_eq hb
      subst hb
      split
      · rename_i hz
        have hz := zbeq_eq hz
        simp only [linV]
        have : (b.den Φ ρ).int * c + (b.den Φ ρ).int * d = 0 := by rw [← Int.mul_add, hz, Int.mul_zero]
        omega
      · simp only [linV, Int.mul_add]; omega
    · simp only [linV, linAt_v a c l]; omega
theorem lin_v : ∀ (t : T) (c : Int) (acc : Lin), (lin t c acc).v Φ ρ = (t.den Φ ρ).int * c + acc.v Φ ρ := by
  have base : ∀ (t : T) (c : Int) (acc : Lin), Lin.v Φ ρ (linAt t c acc.1, acc.2) = (t.den Φ ρ).int * c + acc.v Φ ρ := by
    intro t c acc
    simp only [Lin.v, linAt_v]; omega
  intro t
  induction t with
  | num z => intro c acc; simp only [lin, Lin.v, T.den, D.int_i, Int.mul_comm]; omega
  | c2 o x y ih1 ih2 =>
    intro c acc
    cases o
    case add => simp only [lin, ih1, ih2, T.den, O2.den, D.int_i, Int.add_mul]; omega
    case sub => simp only [lin, ih1, ih2, T.den, O2.den, D.int_i, Int.sub_mul, Int.mul_neg]; omega
    case mul =>
      cases y with
      | num m =>
        simp only [lin, ih1, T.den, O2.den, D.int_i]
        rw [Int.mul_assoc, Int.mul_comm m c]
      | _ => exact base _ c acc
    all_goals exact base _ c acc
  | _ => intro c acc; exact base _ c acc
theorem linSum_v : ∀ (l : List (T × Int)) (acc : Lin), (linSum l acc).v Φ ρ = acc.v Φ ρ - linV Φ ρ l
  | [], acc => by simp [linSum, linV]
  | (t, c) :: l, acc => by
    simp only [linSum]
    rw [linSum_v l]
    simp only [Lin.v, linAt_v, linV, Int.mul_neg]
    omega
theorem linSub_v (G F : Lin) : (linSub G F).v Φ ρ = G.v Φ ρ - F.v Φ ρ := by
  unfold linSub
  rw [linSum_v]
  simp only [Lin.v]; omega
theorem linHi_ok {fa : Facts} (hf : fa.hold Φ ρ) : ∀ (l : List (T × Int)) (h : Int), linHi fa l = some h → linV Φ ρ l ≤ h
  | [], h, e => by injection e with e; simp [linV, ← e]
  | (t, c) :: l, h, e => by
    simp only [linHi] at e
    split at e
    · rename_i hc
      have hc := zleb_le hc
      obtain ⟨u, v, h1, h2, rfl⟩ := oBoth_some e
      simp only [Option.map_eq_some_iff] at h1
      obtain ⟨b, h1, rfl⟩ := h1
      have := linHi_ok hf l v h2
      have := Int.mul_le_mul_of_nonneg_right ((rng_i hf t).hi b h1) hc
      simp only [linV]; omega
    · rename_i hc
      rw [zleb_eq] at hc
      have hc : c ≤ 0 := by simp at hc; omega
      obtain ⟨u, v, h1, h2, rfl⟩ := oBoth_some e
      simp only [Option.map_eq_some_iff] at h1
      obtain ⟨b, h1, rfl⟩ := h1
      have := linHi_ok hf l v h2
      have := Int.mul_le_mul_of_nonpos_right ((rng_i hf t).lo b h1) hc
      simp only [linV]; omega
theorem notPos_ok {fa : Facts} (hf : fa.hold Φ ρ) {G : Lin} (h : notPos fa G = true) : G.v Φ ρ ≤ 0 := by
  unfold notPos at h
  split at h
  · rename_i b hb
    have := linHi_ok hf G.1 b hb
    have := zleb_le h
    simp only [Lin.v]; omega
  · cases h
theorem lin2_v (x y : T) (c : Int) : (lin x 1 (lin y (-1) ([], c))).v Φ ρ = (x.den Φ ρ).int - (y.den Φ ρ).int + c := by
  rw [lin_v, lin_v]
  simp only [Lin.v, linV]; omega
theorem factLin_ok {f : T × Bool} (hf : (f.1.den Φ ρ).bool = f.2) : ∀ F ∈ factLin f, F.v Φ ρ ≤ 0 := by
  intro F hF
  unfold factLin at hF
  split at hF <;> simp only [List.mem_cons, List.not_mem_nil, or_false] at hF <;> try (simp only [T.den, O2.den, D.bool_b, decide_eq_true_eq, decide_eq_false_iff_not] at hf)
  · subst hF; rw [lin2_v]; omega
  · subst hF; rw [lin2_v]; omega
  · subst hF; rw [lin2_v]; omega
  · subst hF; rw [lin2_v]; omega
  · simp only [beq_iff_eq] at hf
    rcases hF with rfl | rfl <;> rw [lin2_v] <;> omega
theorem leZ_ok {fa : Facts} (hf : fa.hold Φ ρ) {G : Lin} (h : leZ fa G = true) : G.v Φ ρ ≤ 0 := by
  simp only [leZ, Bool.or_eq_true] at h
  rcases h with h | h
  · exact notPos_ok hf h
  · have key : ∀ l : Facts, (∀ f ∈ l, (f.1.den Φ ρ).bool = f.2) → byFacts fa G l = true → G.v Φ ρ ≤ 0 := by
      intro l
      induction l with
      | nil => intro _ h; cases h
      | cons f l ih =>
        intro hl h
        simp only [byFacts, Bool.or_eq_true] at h
        rcases h with h | h
        · split at h
          · cases h
          have hF := factLin_ok (hl f List.mem_cons_self)
          have inner : ∀ L : List Lin, (∀ F ∈ L, F.v Φ ρ ≤ 0) → byFact fa G L = true → G.v Φ ρ ≤ 0 := by
            intro L
            induction L with
            | nil => intro _ h; cases h
            | cons F L ih =>
              intro hL h
              simp only [byFact, Bool.or_eq_true] at h
              rcases h with h | h
              · have h1 := notPos_ok hf h
                rw [linSub_v] at h1
                have := hL F List.mem_cons_self
                omega
              · exact ih (fun F hF => hL F (List.mem_cons_of_mem _ hF)) h
          exact inner _ hF h
        · exact ih (fun f hm => hl f (List.mem_cons_of_mem _ hm)) h
    exact key fa (fun f hm => hf f.1 f.2 hm) h
theorem leF_ok {fa : Facts} (hf : fa.hold Φ ρ) {x y : T} {c : Int} (h : leF fa x c y = true) : (x.den Φ ρ).int + c ≤ (y.den Φ ρ).int := by
  have := leZ_ok hf h
  rw [lin2_v] at this
  omega

/-! Lengths and elements. -/
theorem splL_len {l s : List Int} {i : Int} (h : i.toNat + s.length ≤ l.length) : (splL l i s).length = l.length := by
  unfold splL; simp; omega
theorem flatten_length (n : Nat) (l : List Int) : (List.replicate n l).flatten.length = n * l.length := by
  induction n with
  | zero => simp
  | succ n ih => rw [List.replicate_succ, List.flatten_cons, List.length_append, ih, Nat.succ_mul]; omega
theorem lenF_ok {fa : Facts} (hf : fa.hold Φ ρ) : ∀ t : T, ((lenF fa t).den Φ ρ).int = (t.den Φ ρ).list.length
  | .nil => by simp [lenF, T.den]
  | .cons x l => by simp only [lenF, den_add, lenF_ok hf l, T.den, D.int_i, D.list_l, List.length_cons]; omega
  | .c2 .take n l => by
    simp only [lenF]
    split
    · rename_i h
      simp only [Bool.and_eq_true] at h
      have h1 := leF_ok hf h.1
      have h2 := leF_ok hf h.2
      rw [lenF_ok hf l] at h2
      simp only [T.den, O2.den, D.int_i, D.list_l, List.length_take] at h1 ⊢
      omega
    · rfl
  | .c2 .drop n l => by
    simp only [lenF]
    split
    · rename_i h
      simp only [Bool.and_eq_true] at h
      have h1 := leF_ok hf h.1
      have h2 := leF_ok hf h.2
      rw [lenF_ok hf l] at h2
      simp only [den_sub, lenF_ok hf l, T.den, O2.den, D.int_i, D.list_l, List.length_drop] at h1 ⊢
      omega
    · rfl
  | .c2 .app x y => by simp only [lenF, den_add, lenF_ok hf x, lenF_ok hf y, T.den, O2.den, D.list_l, List.length_append]; omega
  | .c2 .rep n l => by
    simp only [lenF]
    split
    · rename_i h
      have h1 := leF_ok hf h
      simp only [den_mul, lenF_ok hf l, T.den, O2.den, D.int_i, D.list_l, flatten_length] at h1 ⊢
      rw [Int.natCast_mul, Int.toNat_of_nonneg (by omega)]
    · rfl
  | .set l i v => by simp only [lenF, lenF_ok hf l, T.den, D.list_l, setL, List.length_set]
  | .spl l i s => by
    simp only [lenF]
    split
    · rename_i h
      simp only [Bool.and_eq_true] at h
      have h1 := leF_ok hf h.1
      have h2 := leF_ok hf h.2
      rw [lenF_ok hf l, den_add, lenF_ok hf s] at h2
      simp only [lenF_ok hf l, T.den, D.int_i, D.list_l] at h1 ⊢
      rw [splL_len (by omega)]
    · rfl
  | .var _ | .num _ | .bol _ | .wr _ _ | .bits .. | .c1 .. | .ite .. | .fn .. => rfl
  | .c2 .add _ _ | .c2 .sub _ _ | .c2 .mul _ _ | .c2 .quo _ _ | .c2 .rem _ _ | .c2 .fdiv _ _ | .c2 .eq _ _ | .c2 .lt _ _ | .c2 .le _ _ | .c2 .beq _ _ | .c2 .and _ _ | .c2 .or _ _ | .c2 .rd _ _ | .c2 .leq _ _ | .c2 .mx _ _ | .c2 .mn _ _ => rfl
theorem rdF_ok {fa : Facts} (hf : fa.hold Φ ρ) : ∀ (t i : T), ((rdF fa t i).den Φ ρ).int = (t.den Φ ρ).list.getD (i.den Φ ρ).int.toNat 0
  | .c2 .drop n l, i => by
    simp only [rdF]
    split
    · rename_i h
      simp only [Bool.and_eq_true] at h
      have h1 := leF_ok hf h.1
      have h2 := leF_ok hf h.2
      rw [rdF_ok hf l, den_add]
      simp only [T.den, O2.den, D.int_i, D.list_l] at h1 h2 ⊢
      rw [List.getD_eq_getElem?_getD, List.getD_eq_getElem?_getD, List.getElem?_drop, show (n.den Φ ρ).int.toNat + (i.den Φ ρ).int.toNat = ((n.den Φ ρ).int + (i.den Φ ρ).int).toNat from by omega]
    · rfl
  | .c2 .take n l, i => by
    simp only [rdF]
    split
    · rename_i h
      simp only [Bool.and_eq_true] at h
      have h1 := leF_ok hf h.1
      have h2 := leF_ok hf h.2
      rw [rdF_ok hf l]
      simp only [T.den, O2.den, D.int_i, D.list_l] at h1 h2 ⊢
      rw [List.getD_eq_getElem?_getD, List.getD_eq_getElem?_getD, List.getElem?_take, if_pos (by omega)]
    · rfl
  | .c2 .app x y, i => by
    simp only [rdF]
    split
    · rename_i h
      simp only [Bool.and_eq_true] at h
      have h1 := leF_ok hf h.1
      have h2 := leF_ok hf h.2
      rw [lenF_ok hf x] at h2
      rw [rdF_ok hf x]
      simp only [T.den, O2.den, D.int_i, D.list_l] at h1 h2 ⊢
      rw [List.getD_eq_getElem?_getD, List.getD_eq_getElem?_getD, List.getElem?_append_left (by omega)]
    · split
      · rename_i h
        have h1 := leF_ok hf h
        rw [lenF_ok hf x] at h1
        rw [rdF_ok hf y, den_sub, lenF_ok hf x]
        simp only [T.den, O2.den, D.int_i, D.list_l] at h1 ⊢
        rw [List.getD_eq_getElem?_getD, List.getD_eq_getElem?_getD, List.getElem?_append_right (by omega), show ((i.den Φ ρ).int - ((x.den Φ ρ).list.length : Int)).toNat = (i.den Φ ρ).int.toNat - (x.den Φ ρ).list.length from by omega]
      · rfl
  | .set l j v, i => by
    simp only [rdF]
    split
    · rename_i h
      simp only [Bool.and_eq_true, Bool.or_eq_true] at h
      have h1 := leF_ok hf h.1.1
      have h2 := leF_ok hf h.1.2
      have h3 : (i.den Φ ρ).int ≠ (j.den Φ ρ).int := by
        rcases h.2 with h | h
        · have := leF_ok hf h; omega
        · have := leF_ok hf h; omega
      rw [rdF_ok hf l]
      simp only [T.den, D.int_i, D.list_l, setL] at h1 h2 ⊢
      rw [List.getD_eq_getElem?_getD, List.getD_eq_getElem?_getD, List.getElem?_set, if_neg (by omega)]
    · split
      · rename_i h
        simp only [Bool.and_eq_true] at h
        have h1 := leF_ok hf h.1.1.1
        have h2 := leF_ok hf h.1.1.2
        have h3 := leF_ok hf h.1.2
        have h4 := leF_ok hf h.2
        rw [lenF_ok hf l] at h4
        simp only [T.den, D.int_i, D.list_l, setL] at h3 ⊢
        rw [List.getD_eq_getElem?_getD, List.getElem?_set, if_pos (by omega), if_pos (by omega)]
        rfl
      · rfl
  | .nil, i | .cons _ _, i | .spl .., i | .var _, i | .num _, i | .bol _, i | .wr _ _, i | .bits .., i | .c1 .., i | .ite .., i | .fn .., i => den_rd Φ ρ _ i
  | .c2 .rep _ _, i | .c2 .add _ _, i | .c2 .sub _ _, i | .c2 .mul _ _, i | .c2 .quo _ _, i | .c2 .rem _ _, i | .c2 .fdiv _ _, i | .c2 .eq _ _, i | .c2 .lt _ _, i | .c2 .le _ _, i | .c2 .beq _ _, i | .c2 .and _ _, i | .c2 .or _ _, i | .c2 .rd _ _, i | .c2 .leq _ _, i | .c2 .mx _ _, i | .c2 .mn _ _, i => den_rd Φ ρ _ i
theorem nrmS_ok {fa : Facts} (hf : fa.hold Φ ρ) : ∀ t : T, ((nrmS fa t).den Φ ρ).int = (t.den Φ ρ).int := by
  intro t
  induction t with
  | c1 o x ih =>
    cases o
    case len => simp only [nrmS, lenF_ok hf, T.den, U1.den, D.int_i]
    all_goals rfl
  | c2 o x y ih1 ih2 =>
    cases o
    case add => simp only [nrmS, den_add, ih1, ih2, T.den, O2.den, D.int_i]
    case sub => simp only [nrmS, den_sub, ih1, ih2, T.den, O2.den, D.int_i]
    case mul =>
      cases y with
      | num m => simp only [nrmS, den_mul, ih1, T.den, O2.den, D.int_i]
      | _ => rfl
    all_goals rfl
  | _ => rfl

/-! Numbers. -/
theorem pow2_eq : ∀ n, pow2 n = 2 ^ n
  | 0 => rfl
  | n + 1 => by rw [pow2, pow2_eq n, Nat.pow_succ, Nat.mul_comm]
theorem tzN_dvd : ∀ (f n : Nat), pow2 (tzN f n) ∣ n
  | 0, n => Nat.one_dvd n
  | f + 1, n => by
    simp only [tzN]
    split
    · rename_i h
      have h := Nat.eq_of_beq_eq_true h
      obtain ⟨k, hk⟩ := tzN_dvd f (n / 2)
      refine ⟨k, ?_⟩
      simp only [pow2]
      rw [Nat.mul_assoc, ← hk]; omega
    · exact Nat.one_dvd n
theorem pow2_add (a b : Nat) : pow2 (a + b) = pow2 a * pow2 b := by rw [pow2_eq, pow2_eq, pow2_eq, Nat.pow_add]
theorem pow2_min_dvd {a b : Nat} {z : Int} (h : (pow2 b : Int) ∣ z) (hab : a ≤ b) : (pow2 a : Int) ∣ z := by
  obtain ⟨k, rfl⟩ := h
  refine ⟨pow2 (b - a) * k, ?_⟩
  rw [← Int.mul_assoc, ← Int.natCast_mul, ← pow2_add, show a + (b - a) = b from by omega]
theorem tz_dvd : ∀ t : T, (pow2 (tz t) : Int) ∣ (t.den Φ ρ).int := by
  intro t
  induction t with
  | num z =>
    simp only [tz, T.den, D.int_i]
    exact Int.ofNat_dvd_left.mpr (tzN_dvd 64 z.natAbs)
  | c2 o x y ih1 ih2 =>
    cases o
    case add =>
      simp only [tz, T.den, O2.den, D.int_i]
      exact Int.dvd_add (pow2_min_dvd ih1 (Nat.min_le_left _ _)) (pow2_min_dvd ih2 (Nat.min_le_right _ _))
    case mul =>
      simp only [tz, T.den, O2.den, D.int_i, pow2_add, Int.natCast_mul]
      exact Int.mul_dvd_mul ih1 ih2
    all_goals exact Int.one_dvd _
  | _ => exact Int.one_dvd _
theorem loOk_ok {fa : Facts} (hf : fa.hold Φ ρ) {x : T} (h : loOk fa x = true) : 0 ≤ (x.den Φ ρ).int := by
  unfold loOk at h
  split at h
  · rename_i a ha
    have := (rng_i hf x).lo a ha
    have := zleb_le h
    omega
  · cases h
theorem hiBelow_ok {fa : Facts} (hf : fa.hold Φ ρ) {x : T} {m : Int} (h : hiBelow fa x m = true) : (x.den Φ ρ).int < m := by
  unfold hiBelow at h
  split at h
  · rename_i a ha
    have := (rng_i hf x).hi a ha
    have := zltb_lt h
    omega
  · cases h
theorem modT_ok {fa : Facts} (hf : fa.hold Φ ρ) {x : T} {m : Int} (hm : 0 < m) (h0 : 0 ≤ (x.den Φ ρ).int) : ((modT fa x m).den Φ ρ).int = (x.den Φ ρ).int % m := by
  unfold modT
  split
  · rename_i h
    rw [Int.emod_eq_of_lt h0 (hiBelow_ok hf h)]
  · rw [den_sub, den_mul, den_fdiv]
    simp only [T.den, D.int_i]
    rw [fdiv_ediv _ hm, Int.emod_def, Int.mul_comm m]
theorem mask_ok : ∀ (f : Nat) (m : Int) (s : Nat), mask f m = some s → m = (pow2 s : Int) - 1
  | f + 1, m, s, h => by
    simp only [mask] at h
    split at h
    · rename_i hz
      injection h with h
      subst h
      have := zbeq_eq hz
      omega
    · exact mask_ok f m s h
theorem kmax_lt (k : IntKind) : kmax k < (2 ^ k.bits : Nat) := by cases k <;> decide
theorem kmax_pos (k : IntKind) : kmin k ≤ 0 := by cases k <;> decide
theorem kmax_full {k : IntKind} (h : 4 ≤ knum k) : kmax k = (2 ^ k.bits : Nat) - 1 := by cases k <;> simp [knum] at h <;> decide
theorem ofInt_nat {w : Nat} {x : Int} (h0 : 0 ≤ x) (h1 : x < (2 ^ w : Nat)) : (BitVec.ofInt w x).toNat = x.toNat := by
  rw [BitVec.toNat_ofInt]
  rw [Int.emod_eq_of_lt h0 (by simpa using h1)]
theorem bits_nat {o : Bo} {k : IntKind} {x y : Int} {n : Nat} (hx : 0 ≤ x ∧ x ≤ kmax k) (hy : 0 ≤ y ∧ y ≤ kmax k) (hn : (n : Int) ≤ kmax k)
    (h : (match o with | .and => x.toNat &&& y.toNat | .or => x.toNat ||| y.toNat | .xor => x.toNat ^^^ y.toNat | .andNot => x.toNat &&& (2 ^ k.bits - 1 - y.toNat)) = n) : Go.bits o.op k x y = n := by
  have hk := kmax_lt k
  have ex : (BitVec.ofInt k.bits x).toNat = x.toNat := ofInt_nat hx.1 (by omega)
  have ey : (BitVec.ofInt k.bits y).toNat = y.toNat := ofInt_nat hy.1 (by omega)
  have hw : k.wrap (n : Int) = n := wrap_in (Int.le_trans (kmax_pos k) (by omega)) hn
  unfold Go.bits
  cases o <;> simp only [Bo.op] at h ⊢
  · rw [BitVec.toNat_and, ex, ey, h, hw]
  · rw [BitVec.toNat_or, ex, ey, h, hw]
  · rw [BitVec.toNat_xor, ex, ey, h, hw]
  · rw [BitVec.toNat_and, BitVec.toNat_not, ex, ey, h, hw]
theorem or_add {s a b : Nat} (ha : 2 ^ s ∣ a) (hb : b < 2 ^ s) : a ||| b = a + b := by
  obtain ⟨q, rfl⟩ := ha
  exact (Nat.two_pow_add_eq_or_of_lt hb q).symm
theorem and_not (w s x : Nat) (hx : x < 2 ^ w) (hs : s ≤ w) : x &&& (2 ^ w - 1 - (2 ^ s - 1)) = x / 2 ^ s * 2 ^ s := by
  have h1 : 2 ^ s ≤ 2 ^ w := Nat.pow_le_pow_right (by omega) hs
  have h2 : 0 < 2 ^ s := Nat.pow_pos (by omega)
  apply Nat.eq_of_testBit_eq
  intro i
  rw [Nat.testBit_and, show 2 ^ w - 1 - (2 ^ s - 1) = 2 ^ w - ((2 ^ s - 1) + 1) from by omega, Nat.testBit_two_pow_sub_succ (by omega), Nat.testBit_two_pow_sub_one, Nat.mul_comm, Nat.testBit_two_pow_mul, Nat.testBit_div_two_pow]
  by_cases hi : s ≤ i
  · have : ¬ i < s := by omega
    rw [show i - s + s = i from by omega]
    by_cases hw : i < w
    · simp [hi, this, hw]
    · have : x.testBit i = false := Nat.testBit_lt_two_pow (Nat.lt_of_lt_of_le hx (Nat.pow_le_pow_right (by omega) (by omega)))
      simp [this]
  · have : i < s := by omega
    simp [hi, this]
theorem xor_full (w y : Nat) (hy : y < 2 ^ w) : (2 ^ w - 1) ^^^ y = 2 ^ w - 1 - y := by
  have e := congrArg BitVec.toNat (BitVec.allOnes_xor (x := BitVec.ofNat w y))
  simp only [BitVec.toNat_xor, BitVec.toNat_allOnes, BitVec.toNat_ofNat, BitVec.toNat_not] at e
  rw [Nat.mod_eq_of_lt hy] at e
  exact e
theorem pow_le_of_mask {s : Nat} {k : IntKind} (h : (pow2 s : Int) - 1 ≤ kmax k) : s ≤ k.bits := by
  have hk := kmax_lt k
  rw [pow2_eq] at h
  have h2 : 2 ^ s ≤ 2 ^ k.bits := by omega
  exact (Nat.pow_le_pow_iff_right (by omega)).mp h2
theorem nrmBits_ok {fa : Facts} (hf : fa.hold Φ ρ) (o : Bo) (k : IntKind) (x y : T) : ((nrmBits fa o k x y).den Φ ρ).int = Go.bits o.op k (x.den Φ ρ).int (y.den Φ ρ).int := by
  unfold nrmBits
  cases o with
  | or =>
    simp only
    split
    · rename_i h
      simp only [Bool.and_eq_true] at h
      have hx := loOk_ok hf h.1
      have hy := loOk_ok hf h.2.1
      have hxy := within_ok h.2.2 (rng_i hf _)
      simp only [T.den, O2.den, D.int_i] at hxy
      split
      · rename_i hb
        have hb := hiBelow_ok hf hb
        have hd : (pow2 (tz x) : Int) ∣ (x.den Φ ρ).int := tz_dvd x
        rw [den_add, bits_nat (n := (x.den Φ ρ).int.toNat + (y.den Φ ρ).int.toNat) (by omega) (by omega) (by omega) ?_]
        · omega
        · refine or_add (s := tz x) ?_ ?_
          · rw [← pow2_eq]
            exact Int.ofNat_dvd.mp (by rw [Int.toNat_of_nonneg hx]; exact hd)
          · rw [← pow2_eq]; omega
      · split
        · rename_i hb
          have hb := hiBelow_ok hf hb
          have hd : (pow2 (tz y) : Int) ∣ (y.den Φ ρ).int := tz_dvd y
          rw [den_add, bits_nat (n := (y.den Φ ρ).int.toNat + (x.den Φ ρ).int.toNat) (by omega) (by omega) (by omega) ?_]
          · omega
          · simp only
            rw [Nat.or_comm]
            refine or_add (s := tz y) ?_ ?_
            · rw [← pow2_eq]
              exact Int.ofNat_dvd.mp (by rw [Int.toNat_of_nonneg hy]; exact hd)
            · rw [← pow2_eq]; omega
        · rfl
    · rfl
  | and =>
    simp only
    split
    · rename_i m
      split
      · rename_i s hs
        have hm := mask_ok _ _ _ hs
        split
        · rename_i h
          simp only [Bool.and_eq_true] at h
          have hx := within_ok h.1 (rng_i hf x)
          have hmk := zleb_le h.2
          have hp : (0 : Int) < pow2 s := by rw [pow2_eq]; exact_mod_cast Nat.pow_pos (by omega)
          rw [modT_ok hf hp hx.1]
          simp only [T.den, D.int_i]
          have hlt := Int.emod_lt_of_pos (x.den Φ ρ).int hp
          have hge := Int.emod_nonneg (x.den Φ ρ).int (show (pow2 s : Int) ≠ 0 from by omega)
          rw [bits_nat (n := (x.den Φ ρ).int.toNat % pow2 s) hx (by omega) ?_ ?_]
          · rw [Int.natCast_emod, Int.toNat_of_nonneg hx.1]
          · rw [Int.natCast_emod, Int.toNat_of_nonneg hx.1]; omega
          · simp only
            have : m.toNat = 2 ^ s - 1 := by rw [hm, pow2_eq]; omega
            rw [this, Nat.and_two_pow_sub_one_eq_mod, pow2_eq]
        · rfl
      · rfl
    · rfl
  | xor =>
    simp only
    split
    · rename_i m
      split
      · rename_i h
        simp only [Bool.and_eq_true] at h
        have hk := Nat.le_of_ble_eq_true h.1
        have hm := zbeq_eq h.2.1
        have hy := within_ok h.2.2 (rng_i hf y)
        have hfull := kmax_full hk
        have hlt := kmax_lt k
        simp only [den_sub, T.den, D.int_i]
        rw [bits_nat (n := 2 ^ k.bits - 1 - (y.den Φ ρ).int.toNat) (by omega) hy (by omega) ?_]
        · omega
        · simp only
          have : m.toNat = 2 ^ k.bits - 1 := by omega
          rw [this]
          exact xor_full _ _ (by omega)
      · rfl
    · rfl
  | andNot =>
    simp only
    split
    · rename_i m
      split
      · rename_i s hs
        have hm := mask_ok _ _ _ hs
        split
        · rename_i h
          simp only [Bool.and_eq_true] at h
          have hx := within_ok h.1 (rng_i hf x)
          have hmk := zleb_le h.2
          have hp : (0 : Int) < pow2 s := by rw [pow2_eq]; exact_mod_cast Nat.pow_pos (by omega)
          have hlt := kmax_lt k
          rw [den_mul, den_fdiv]
          simp only [T.den, D.int_i]
          rw [fdiv_ediv _ hp]
          have hle : (x.den Φ ρ).int / (pow2 s : Int) * (pow2 s : Int) ≤ (x.den Φ ρ).int := Int.ediv_mul_le _ (by omega)
          rw [bits_nat (n := (x.den Φ ρ).int.toNat / pow2 s * pow2 s) hx (by omega) ?_ ?_]
          · rw [Int.natCast_mul, Int.natCast_ediv, Int.toNat_of_nonneg hx.1]
          · rw [Int.natCast_mul, Int.natCast_ediv, Int.toNat_of_nonneg hx.1]; omega
          · simp only
            have : m.toNat = 2 ^ s - 1 := by rw [hm, pow2_eq]; omega
            rw [this, pow2_eq]
            exact and_not _ _ _ (by omega) (pow_le_of_mask (by rw [← hm]; exact hmk))
        · rfl
      · rfl
    · rfl
theorem nrm1_ok {fa : Facts} (hf : fa.hold Φ ρ) (t : T) : ((nrm1 fa t).den Φ ρ).int = (t.den Φ ρ).int := by
  unfold nrm1
  split
  · rename_i x d
    split
    · rename_i h
      simp only [Bool.and_eq_true] at h
      have hd := zltb_lt h.1
      have hx := loOk_ok hf h.2
      split
      · rename_i hb
        have hb := hiBelow_ok hf hb
        simp only [T.den, O2.den, D.int_i]
        rw [Int.tdiv_eq_ediv_of_nonneg hx, Int.ediv_eq_zero_of_lt hx hb]
      · rw [den_fdiv]
        simp only [T.den, O2.den, D.int_i]
        rw [fdiv_ediv _ hd, Int.tdiv_eq_ediv_of_nonneg hx]
    · rfl
  · rename_i x d
    split
    · rename_i h
      simp only [Bool.and_eq_true] at h
      have hd := zltb_lt h.1
      have hx := loOk_ok hf h.2
      rw [modT_ok hf hd hx]
      simp only [T.den, O2.den, D.int_i]
      rw [Int.tmod_eq_emod_of_nonneg hx]
    · rfl
  · rename_i x d
    split
    · rename_i h
      simp only [Bool.and_eq_true] at h
      have hd := zltb_lt h.1
      have hx := loOk_ok hf h.2.1
      have hb := hiBelow_ok hf h.2.2
      simp only [T.den, O2.den, D.int_i]
      rw [fdiv_ediv _ hd, Int.ediv_eq_zero_of_lt hx hb]
    · rfl
  · rw [nrmBits_ok hf]; rfl
  · rw [rdF_ok hf]; rfl
  · rw [lenF_ok hf]; rfl
  · rw [den_add, nrmS_ok hf, nrmS_ok hf]; rfl
  · rw [den_sub, nrmS_ok hf, nrmS_ok hf]; rfl
  · rfl
theorem nrmI_ok {fa : Facts} (hf : fa.hold Φ ρ) (t : T) : ((nrmI fa t).den Φ ρ).int = (t.den Φ ρ).int := by
  unfold nrmI
  split
  · rename_i k x
    simp only
    split
    · rename_i h
      have := within_ok h (rng_i hf _)
      rw [nrm1_ok hf] at this ⊢
      simp only [T.den, D.int_i]
      rw [wrap_in this.1 this.2]
    · split
      · rename_i h
        simp only [Bool.and_eq_true] at h
        have hk := Nat.le_of_ble_eq_true h.1
        have hx := loOk_ok hf h.2
        have hp : 0 < kmax k + 1 := by cases k <;> decide
        rw [modT_ok hf hp hx, nrm1_ok hf]
        simp only [T.den, D.int_i]
        rw [wrap_mod hk]
      · simp only [T.den, D.int_i, nrm1_ok hf]
  · exact nrm1_ok hf _
theorem nrmB_ok {fa : Facts} (hf : fa.hold Φ ρ) : ∀ t : T, ((nrmB fa t).den Φ ρ).bool = (t.den Φ ρ).bool := by
  intro t
  induction t with
  | c1 o x ih =>
    cases o
    case not => simp only [nrmB, den_not, ih, T.den, U1.den, D.bool_b]
    all_goals rfl
  | c2 o x y ih1 ih2 =>
    cases o
    case eq => simp only [nrmB, den_eq, nrmS_ok hf, T.den, O2.den, D.bool_b]
    case lt => simp only [nrmB, den_lt, nrmS_ok hf, T.den, O2.den, D.bool_b]
    case le => simp only [nrmB, den_le, nrmS_ok hf, T.den, O2.den, D.bool_b]
    case and => simp only [nrmB, den_and, ih1, ih2, T.den, O2.den, D.bool_b]
    all_goals rfl
  | _ => rfl
theorem kinT_ok {fa : Facts} (hf : fa.hold Φ ρ) (ks : List IntKind) : ∀ (t : T) (i : Nat), kinT fa ks i t = true → inKinds ks i (t.den Φ ρ).list = true := by
  have base : ∀ (t : T) (i : Nat), ((match ks with | [k] => within (kmin k) (kmax k) (rng fa .l t) | _ => false) || (Nat.beq (i % ks.length) 0 && (match kinF fa t with | some ks' => kbeqL ks ks' | none => false))) = true → inKinds ks i (t.den Φ ρ).list = true := by
    intro t i h
    rw [Bool.or_eq_true] at h
    refine inKinds_iff.mpr (fun j z hj => ?_)
    rcases h with h | h
    · split at h
      · rename_i k
        have := within_ok h ((rng_ok hf t).2 z (List.mem_of_getElem? hj))
        have e : kAt [k] (i + j) = k := by simp [kAt, Nat.mod_one]
        rw [e]; exact this
      · cases h
    · rw [Bool.and_eq_true] at h
      have h0 := Nat.eq_of_beq_eq_true h.1
      replace h := h.2
      split at h
      · rename_i ks' hk
        have e := kbeqL_is h
        subst e
        have := inKinds_iff.mp (kinF_ok hf hk) j z hj
        rw [kAt_mod (i := i + j) (c := 0 + j) (by rw [Nat.zero_add, Nat.add_mod, h0, Nat.zero_add, Nat.mod_mod])]
        exact this
      · cases h
  intro t
  induction t with
  | nil => intro i _; rfl
  | cons x l _ ih =>
    intro i h
    simp only [kinT, Bool.and_eq_true] at h
    have := within_ok h.1 (rng_i hf x)
    simp only [T.den, D.list_l, inKinds, Bool.and_eq_true, decide_eq_true_eq]
    exact ⟨this, ih _ h.2⟩
  | c2 o x y ih1 ih2 =>
    intro i h
    cases o
    case take =>
      have := inKinds_iff.mp (ih2 i h)
      refine inKinds_iff.mpr (fun j z hj => ?_)
      simp only [T.den, O2.den, D.list_l, List.getElem?_take] at hj
      split at hj
      · exact this j z hj
      · cases hj
    case drop =>
      simp only [kinT] at h
      split at h
      · rename_i c hc
        simp only [Bool.and_eq_true] at h
        have hx := loOk_ok hf h.1
        have hl := Nat.le_of_ble_eq_true h.2.1
        have hm := idxMod_ok (Φ := Φ) (ρ := ρ) _ _ _ hc
        have := inKinds_iff.mp (ih2 _ h.2.2)
        refine inKinds_iff.mpr (fun j z hj => ?_)
        simp only [T.den, O2.den, D.list_l, List.getElem?_drop] at hj
        have h1 := this _ z hj
        have h2 : (((x.den Φ ρ).int.toNat % ks.length : Nat) : Int) = (c : Int) := by
          rw [Int.natCast_emod, Int.toNat_of_nonneg hx]; exact hm
        have h3 : (x.den Φ ρ).int.toNat % ks.length = c := by omega
        have hcl : c < ks.length := by rw [← h3]; exact Nat.mod_lt _ (by omega)
        rw [kAt_mod (c := i + (ks.length - c) + ((x.den Φ ρ).int.toNat + j))] 
        · exact h1
        · have e : i + (ks.length - c) + ((x.den Φ ρ).int.toNat + j) = (i + j) + ((ks.length - c) + (x.den Φ ρ).int.toNat) := by omega
          rw [e, Nat.add_mod (i + j), Nat.add_mod (ks.length - c), h3]
          have : ((ks.length - c) % ks.length + c) % ks.length = 0 := by
            rw [Nat.mod_add_mod, Nat.sub_add_cancel (by omega), Nat.mod_self]
          rw [this, Nat.add_zero, Nat.mod_mod]
      · cases h
    case app =>
      simp only [kinT] at h
      split at h
      · rename_i c hc
        simp only [Bool.and_eq_true] at h
        have hm := idxMod_ok (Φ := Φ) (ρ := ρ) _ _ _ hc
        rw [lenF_ok hf] at hm
        have g1 := inKinds_iff.mp (ih1 i h.1)
        have g2 := inKinds_iff.mp (ih2 _ h.2)
        refine inKinds_iff.mpr (fun j z hj => ?_)
        simp only [T.den, O2.den, D.list_l] at hj
        by_cases hlt : j < (x.den Φ ρ).list.length
        · rw [List.getElem?_append_left hlt] at hj; exact g1 j z hj
        · rw [List.getElem?_append_right (by omega)] at hj
          have := g2 _ z hj
          have h3 : (x.den Φ ρ).list.length % ks.length = c := by omega
          rw [kAt_mod (c := i + c + (j - (x.den Φ ρ).list.length))]
          · exact this
          · rw [← h3]
            have e : i + j = (i + (j - (x.den Φ ρ).list.length)) + (x.den Φ ρ).list.length := by omega
            have e2 : i + (x.den Φ ρ).list.length % ks.length + (j - (x.den Φ ρ).list.length) = (i + (j - (x.den Φ ρ).list.length)) + (x.den Φ ρ).list.length % ks.length := by omega
            rw [e, e2, Nat.add_mod_mod]
      · cases h
    all_goals exact base _ i h
  | _ => intro i h; exact base _ i h
theorem decF_ok {fa : Facts} (hf : fa.hold Φ ρ) : ∀ {t : T} {p : Bool}, decF fa t = some p → (t.den Φ ρ).bool = p := by
  intro t
  induction t with
  | bol q => intro p h; simp only [decF] at h; injection h
  | c1 o x ih =>
    intro p h
    cases o with
    | not =>
      simp only [decF, Option.map_eq_some_iff] at h
      obtain ⟨q, hq, rfl⟩ := h
      simp [T.den, U1.den, ih hq]
    | len => exact hf _ _ (lookF_mem h)
    | kin ks =>
      simp only [decF] at h
      split at h
      · rename_i hw
        injection h with h
        subst h
        simp only [T.den, U1.den, D.bool_b]
        exact kinT_ok hf ks x 0 hw
      · exact hf _ _ (lookF_mem h)
  | c2 o x y ih1 ih2 =>
    intro p h
    cases o with
    | eq =>
      simp only [decF] at h
      split at h
      · rename_i hl
        injection h with h; subst h
        exact hf _ _ (lookF_mem hl)
      · split at h
        · rename_i hc
          injection h with h
          subst h
          simp only [Bool.or_eq_true] at hc
          simp only [T.den, O2.den, D.bool_b, beq_eq_false_iff_ne, ne_eq]
          rcases hc with hc | hc <;> have := leF_ok hf hc <;> omega
        · split at h
          · rename_i hc
            injection h with h
            subst h
            simp only [Bool.and_eq_true] at hc
            have := leF_ok hf hc.1
            have := leF_ok hf hc.2
            simp only [T.den, O2.den, D.bool_b, beq_iff_eq]
            omega
          · cases h
    | lt =>
      simp only [decF] at h
      split at h
      · rename_i hc
        injection h with h
        subst h
        have := leF_ok hf hc
        simp only [T.den, O2.den, D.bool_b, decide_eq_true_eq]; omega
      · split at h
        · rename_i hc
          injection h with h
          subst h
          have := leF_ok hf hc
          simp only [T.den, O2.den, D.bool_b, decide_eq_false_iff_not]; omega
        · cases h
    | le =>
      simp only [decF] at h
      split at h
      · rename_i hc
        injection h with h
        subst h
        have := leF_ok hf hc
        simp only [T.den, O2.den, D.bool_b, decide_eq_true_eq]; omega
      · split at h
        · rename_i hc
          injection h with h
          subst h
          have := leF_ok hf hc
          simp only [T.den, O2.den, D.bool_b, decide_eq_false_iff_not]; omega
        · cases h
    | and =>
      simp only [decF] at h
      split at h
      · rename_i h1 h2
        injection h with h; subst h
        simp [T.den, O2.den, ih1 h1, ih2 h2]
      · rename_i h1
        injection h with h; subst h
        simp [T.den, O2.den, ih1 h1]
      · rename_i _ h1
        injection h with h; subst h
        simp [T.den, O2.den, ih2 (by assumption)]
      · exact hf _ _ (lookF_mem h)
    | _ => exact hf _ _ (lookF_mem h)
  | _ => intro p h; exact hf _ _ (lookF_mem h)
end
/-! Terms made tidy, each for what it is looked at. -/
def T.tidy : K3 → T → T
  | .i, .c2 .add x y => mkAdd (x.tidy .i) (y.tidy .i)
  | .i, .c2 .sub x y => mkSub (x.tidy .i) (y.tidy .i)
  | .i, .c2 .mul x y => mkMul (x.tidy .i) (y.tidy .i)
  | .i, .c1 .len x => mkLen (x.tidy .l)
  | .i, .c2 .rd x y => mkRd (x.tidy .l) (y.tidy .i)
  | .i, .wr k x => mkWr k (x.tidy .i)
  | .b, .c2 .eq x y => mkEq (x.tidy .i) (y.tidy .i)
  | .b, .c2 .lt x y => mkLt (x.tidy .i) (y.tidy .i)
  | .b, .c2 .le x y => mkLe (x.tidy .i) (y.tidy .i)
  | .b, .c2 .and x y => mkAnd (x.tidy .b) (y.tidy .b)
  | .b, .c1 .not x => mkNot (x.tidy .b)
  | .b, .c2 .leq x y => mkLeq (x.tidy .l) (y.tidy .l)
  | .l, .c2 .take x y => mkTake (x.tidy .i) (y.tidy .l)
  | .l, .c2 .drop x y => mkDrop (x.tidy .i) (y.tidy .l)
  | .l, .c2 .app x y => mkApp (x.tidy .l) (y.tidy .l)
  | .l, .cons x y => .cons (x.tidy .i) (y.tidy .l)
  | _, t => t
section
variable {Φ : Sig} {ρ : Env}
def K3.same : K3 → D → D → Prop
  | .i, x, y => x.int = y.int
  | .b, x, y => x.bool = y.bool
  | .l, x, y => x.list = y.list
theorem tidy_den : ∀ (t : T) (k : K3), k.same ((t.tidy k).den Φ ρ) (t.den Φ ρ) := by
  intro t
  induction t with
  | cons x l ih1 ih2 =>
    intro k
    cases k
    · rfl
    · rfl
    · have h1 : ((x.tidy .i).den Φ ρ).int = (x.den Φ ρ).int := ih1 .i
      have h2 : ((l.tidy .l).den Φ ρ).list = (l.den Φ ρ).list := ih2 .l
      simp only [T.tidy, K3.same, T.den, D.list_l, h1, h2]
  | wr k0 x ih =>
    intro k
    cases k
    · have h1 : ((x.tidy .i).den Φ ρ).int = (x.den Φ ρ).int := ih .i
      simp only [T.tidy, K3.same, den_wr, T.den, D.int_i, h1]
    · rfl
    · rfl
  | c1 o x ih =>
    intro k
    have h1 : ((x.tidy .l).den Φ ρ).list = (x.den Φ ρ).list := ih .l
    have h2 : ((x.tidy .b).den Φ ρ).bool = (x.den Φ ρ).bool := ih .b
    cases o <;> cases k <;> first
      | rfl
      | (simp only [T.tidy, K3.same, den_len, den_not, T.den, U1.den, D.int_i, D.bool_b, h1, h2])
  | c2 o x y ih1 ih2 =>
    intro k
    have h1 : ((x.tidy .i).den Φ ρ).int = (x.den Φ ρ).int := ih1 .i
    have h2 : ((y.tidy .i).den Φ ρ).int = (y.den Φ ρ).int := ih2 .i
    have h3 : ((x.tidy .b).den Φ ρ).bool = (x.den Φ ρ).bool := ih1 .b
    have h4 : ((y.tidy .b).den Φ ρ).bool = (y.den Φ ρ).bool := ih2 .b
    have h5 : ((x.tidy .l).den Φ ρ).list = (x.den Φ ρ).list := ih1 .l
    have h6 : ((y.tidy .l).den Φ ρ).list = (y.den Φ ρ).list := ih2 .l
    cases o <;> cases k <;> first
      | rfl
      | (simp only [T.tidy, K3.same, den_add, den_sub, den_mul, den_rd, den_eq, den_lt, den_le, den_and, den_take, den_drop, den_app, den_leq, T.den, O2.den, D.int_i, D.bool_b, D.list_l, h1, h2, h3, h4, h5, h6])
  | _ => intro k; cases k <;> rfl
theorem tidy_i (t : T) : ((t.tidy .i).den Φ ρ).int = (t.den Φ ρ).int := tidy_den t .i
theorem tidy_b (t : T) : ((t.tidy .b).den Φ ρ).bool = (t.den Φ ρ).bool := tidy_den t .b
theorem tidy_l (t : T) : ((t.tidy .l).den Φ ρ).list = (t.den Φ ρ).list := tidy_den t .l
end

end Go.Proofs.Ytlgiibchnnaceaa.Sx
