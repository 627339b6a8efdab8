/- Sx, part 2: values and memory by terms, and what stands for them in a world. Conditions: none. -/
import Derived.Test.YtlgiibchnnaceaaSxB
import Derived.Below
set_option linter.unusedVariables false
set_option linter.unusedSimpArgs false
namespace Go.Proofs.Ytlgiibchnnaceaa.Sx
open Go Go.RowKit

/-- A value of one cell. p: a pointer into block j, at cell r + e * st; s: a slice of elements of st cells, from cell r + o * st of block j. -/
inductive C where
  | i (k : IntKind) (t : T)
  | b (t : T)
  | p (j : Nat) (e : T) (st r : Nat)
  | pn
  | s (j st r : Nat) (o len : T)
  | sn
  | sz
  | fn (f : Nat)
  | nf
  deriving Repr, Inhabited
inductive W where
  | c (x : C)
  | g (xs : List C)
  deriving Repr, Inhabited
inductive V where
  | w (x : W)
  | t (xs : List W)
  | u
  deriving Repr, Inhabited
inductive Blk where
  | cells (xs : List C)
  | row (ks : List IntKind) (l : T)
  deriving Repr, Inhabited
structure MB where
  rw : Bool
  k : Blk
  deriving Repr, Inhabited
/-- Where a block lies: the world's block, the first cell, how many cells from there on. -/
structure Place where
  b : Nat
  o : Nat
  sz : Nat
abbrev Map := Nat → Option Place
abbrev Ev := T → D
def Map.le (β β' : Map) : Prop := ∀ j pl, β j = some pl → β' j = some pl
theorem Map.le_refl (β : Map) : β.le β := fun _ _ h => h
theorem Map.le_trans {a b c : Map} (h : a.le b) (k : b.le c) : a.le c := fun j pl q => k j pl (h j pl q)

def C.rep (E : Ev) (β : Map) : C → Value → Prop
  | .i k t, x => x = .int k (E t).int
  | .b t, x => x = .bool (E t).bool
  | .p j e st r, x => ∃ pl, β j = some pl ∧ x = .pointer (some ⟨pl.b, pl.o + (r + (E e).int.toNat * st), none⟩)
  | .pn, x => x = .pointer none
  | .s j st r o len, x => ∃ pl, β j = some pl ∧ ∃ a n c, x = .slice a n c ∧ (n : Int) = (E len).int ∧ n ≤ c ∧ 0 ≤ (E o).int ∧ r + ((E o).int.toNat + c) * st ≤ pl.sz ∧
      (0 < c → a = some ⟨pl.b, pl.o + (r + (E o).int.toNat * st), none⟩)
  | .sn, x => x = .slice none 0 0
  | .sz, x => ∃ a, x = .slice a 0 0
  | .fn f, x => x = .func (.func f) #[] #[]
  | .nf, x => x = .nilFunc
def repL (E : Ev) (β : Map) : List C → List Value → Prop
  | [], [] => True
  | x :: xs, v :: vs => x.rep E β v ∧ repL E β xs vs
  | _, _ => False
def W.rep (E : Ev) (β : Map) : W → Value → Prop
  | .c x, v => x.rep E β v
  | .g xs, v => ∃ cs : Array Value, v = .agg cs ∧ repL E β xs cs.toList
def repWs (E : Ev) (β : Map) : List W → List Value → Prop
  | [], [] => True
  | x :: xs, v :: vs => x.rep E β v ∧ repWs E β xs vs
  | _, _ => False
def V.rep (E : Ev) (β : Map) : V → Value → Prop
  | .w x, v => x.rep E β v
  | .t xs, v => ∃ vs : Array Value, v = .tuple vs ∧ repWs E β xs vs.toList
  | .u, _ => True

def cellsRep (E : Ev) (β : Map) (w : World) (pl : Place) (xs : List C) : Prop :=
  xs.length ≤ pl.sz ∧ ∀ i x, xs[i]? = some x → ∃ v, w.cell? ⟨pl.b, pl.o + i, none⟩ = some v ∧ x.rep E β v
def rowRep (w : World) (pl : Place) (ks : List IntKind) (l : List Int) : Prop :=
  0 < ks.length ∧ l.length ≤ pl.sz ∧ ∀ i z, l[i]? = some z → w.cell? ⟨pl.b, pl.o + i, none⟩ = some (.int (ks.getD (i % ks.length) .u8) z)
def ownRep (w : World) (pl : Place) : Prop := pl.sz = 0 ∨ (pl.o = 0 ∧ ∃ arr ty, w.heap[pl.b]? = some (.cells arr ty (0, 0)) ∧ pl.sz ≤ arr.size)
def Blk.rep (E : Ev) (β : Map) (w : World) (pl : Place) : Blk → Prop
  | .cells xs => cellsRep E β w pl xs
  | .row ks l => rowRep w pl ks (E l).list
def MB.rep (E : Ev) (β : Map) (w : World) (pl : Place) (m : MB) : Prop := m.k.rep E β w pl ∧ (m.rw = true → ownRep w pl)

/-! First finds. -/
def look {α : Type} : List (Nat × α) → Nat → Option α
  | [], _ => none
  | (k, a) :: l, t => if Nat.beq k t then some a else look l t
def lookM : List (Nat × Option MB) → Nat → Option MB
  | [], _ => none
  | (k, a) :: l, t => if Nat.beq k t then a else lookM l t
def hasK {α : Type} : List (Nat × α) → Nat → Bool
  | [], _ => false
  | (k, _) :: l, t => Nat.beq k t || hasK l t

theorem look_append {α : Type} : ∀ (l m : List (Nat × α)) (t : Nat), look (l ++ m) t = (look l t).orElse fun _ => look m t
  | [], m, t => rfl
  | (k, a) :: l, m, t => by
    simp only [List.cons_append, look]
    split
    · rfl
    · exact look_append l m t
theorem lookM_append : ∀ (l m : List (Nat × Option MB)) (t : Nat), lookM (l ++ m) t = if hasK l t then lookM l t else lookM m t
  | [], m, t => rfl
  | (k, a) :: l, m, t => by
    simp only [List.cons_append, lookM, hasK]
    by_cases h : Nat.beq k t = true
    · simp [h]
    · rw [if_neg h, lookM_append l m t]; simp [h]
theorem lookM_none : ∀ {l : List (Nat × Option MB)} {t : Nat}, hasK l t = false → lookM l t = none
  | [], _, _ => rfl
  | (k, a) :: l, t, h => by
    simp only [hasK, Bool.or_eq_false_iff] at h
    simp [lookM, h.1, lookM_none h.2]
theorem look_none {α : Type} : ∀ {l : List (Nat × α)} {t : Nat}, hasK l t = false → look l t = none
  | [], _, _ => rfl
  | (k, a) :: l, t, h => by
    simp only [hasK, Bool.or_eq_false_iff] at h
    simp [look, h.1, look_none h.2]
theorem hasK_append {α : Type} : ∀ (l m : List (Nat × α)) (t : Nat), hasK (l ++ m) t = (hasK l t || hasK m t)
  | [], m, t => by simp [hasK]
  | (k, a) :: l, m, t => by simp [hasK, hasK_append l m t, Bool.or_assoc]

/-! Memory. -/
def memRep (E : Ev) (β : Map) (w : World) (me : Nat → Option MB) : Prop :=
  (∀ j m, me j = some m → ∃ pl, β j = some pl ∧ m.rep E β w pl) ∧
  ∀ j j' m m' pl pl', j ≠ j' → me j = some m → me j' = some m' → m.rw = true → β j = some pl → β j' = some pl' → pl.sz ≠ 0 → pl'.sz ≠ 0 → pl.b ≠ pl'.b

/-! Runs that part, by conditions. -/
inductive O (α : Type) where
  | ret (a : α)
  | split (t : T) (x y : O α)
  | chk (t : T) (x : O α)
  | fail (n : Nat)
  deriving Repr
def O.val {α : Type} (E : Ev) : O α → Option α
  | .ret a => some a
  | .split t x y => if (E t).bool then x.val E else y.val E
  | .chk t x => if (E t).bool then x.val E else none
  | .fail _ => none
def O.bind {α β : Type} : O α → (α → O β) → O β
  | .ret a, f => f a
  | .split t x y, f => .split t (x.bind f) (y.bind f)
  | .chk t x, f => .chk t (x.bind f)
  | .fail n, _ => .fail n
theorem O.val_bind {α β : Type} (E : Ev) (f : α → O β) : ∀ x : O α, (x.bind f).val E = (x.val E).bind fun a => (f a).val E
  | .ret a => rfl
  | .split t x y => by
    simp only [O.bind, O.val]
    split
    · exact O.val_bind E f x
    · exact O.val_bind E f y
  | .chk t x => by
    simp only [O.bind, O.val]
    split
    · exact O.val_bind E f x
    · rfl
  | .fail n => rfl
theorem O.bind_some {α β : Type} {E : Ev} {f : α → O β} {x : O α} {b : β} (h : (x.bind f).val E = some b) : ∃ a, x.val E = some a ∧ (f a).val E = some b := by
  rw [O.val_bind] at h
  exact Option.bind_eq_some_iff.mp h
/-- A check that is plainly so is left out. -/
def chkT {α : Type} : T → O α → O α
  | .bol true, x => x
  | t, x => .chk t x
theorem chkT_some {α : Type} {E : Ev} (hE : ∀ p, (E (.bol p)).bool = p) {t : T} {x : O α} {a : α} (h : (chkT t x).val E = some a) : (E t).bool = true ∧ x.val E = some a := by
  unfold chkT at h
  split at h
  · exact ⟨hE true, h⟩
  · simp only [O.val] at h
    split at h
    · exact ⟨by assumption, h⟩
    · cases h
def splT {α : Type} : T → O α → O α → O α
  | .bol true, x, _ => x
  | .bol false, _, y => y
  | t, x, y => .split t x y
theorem splT_val {α : Type} {E : Ev} (hE : ∀ p, (E (.bol p)).bool = p) {t : T} {x y : O α} : (splT t x y).val E = if (E t).bool then x.val E else y.val E := by
  unfold splT
  split
  · rw [hE]; rfl
  · rw [hE]; rfl
  · rfl
def ofOpt {α : Type} (n : Nat) : Option α → O α
  | some a => .ret a
  | none => .fail n
theorem ofOpt_some {α : Type} {E : Ev} {n : Nat} {o : Option α} {a : α} (h : (ofOpt n o).val E = some a) : o = some a := by
  cases o <;> simp [ofOpt, O.val] at h
  rw [h]

/-! Small facts on lists that stand for lists. -/
section
variable {E : Ev} {β β' : Map} {w w' : World}
theorem repL_length : ∀ {xs : List C} {vs : List Value}, repL E β xs vs → xs.length = vs.length
  | [], [], _ => rfl
  | [], _ :: _, h => h.elim
  | _ :: _, [], h => h.elim
  | _ :: xs, _ :: vs, h => by simp [repL_length h.2]
theorem repL_get : ∀ {xs : List C} {vs : List Value}, repL E β xs vs → ∀ {i : Nat} {x : C}, xs[i]? = some x → ∃ v, vs[i]? = some v ∧ x.rep E β v
  | [], [], _, i, x, h => by simp at h
  | [], _ :: _, h, _, _, _ => h.elim
  | _ :: _, [], h, _, _, _ => h.elim
  | y :: xs, v :: vs, h, 0, x, hx => by simp at hx; subst hx; exact ⟨v, rfl, h.1⟩
  | y :: xs, v :: vs, h, i + 1, x, hx => by simp at hx; simpa using repL_get h.2 hx
theorem repL_append : ∀ {xs ys : List C} {vs us : List Value}, repL E β xs vs → repL E β ys us → repL E β (xs ++ ys) (vs ++ us)
  | [], _, [], _, _, h => h
  | [], _, _ :: _, _, h, _ => h.elim
  | _ :: _, _, [], _, h, _ => h.elim
  | _ :: xs, _, _ :: vs, _, h, k => ⟨h.1, repL_append h.2 k⟩
theorem repL_take : ∀ {xs : List C} {vs : List Value}, repL E β xs vs → ∀ n, repL E β (xs.take n) (vs.take n)
  | [], [], _, n => by simp [repL]
  | [], _ :: _, h, _ => h.elim
  | _ :: _, [], h, _ => h.elim
  | _ :: xs, _ :: vs, h, 0 => by simp [repL]
  | _ :: xs, _ :: vs, h, n + 1 => ⟨h.1, repL_take h.2 n⟩
theorem repL_drop : ∀ {xs : List C} {vs : List Value}, repL E β xs vs → ∀ n, repL E β (xs.drop n) (vs.drop n)
  | [], [], _, n => by simp [repL]
  | [], _ :: _, h, _ => h.elim
  | _ :: _, [], h, _ => h.elim
  | _ :: xs, _ :: vs, h, 0 => h
  | _ :: xs, _ :: vs, h, n + 1 => by simpa using repL_drop h.2 n
theorem repL_of_get : ∀ {xs : List C} {vs : List Value}, xs.length = vs.length → (∀ (i : Nat) (x : C), xs[i]? = some x → ∃ v, vs[i]? = some v ∧ x.rep E β v) → repL E β xs vs
  | [], [], _, _ => trivial
  | [], _ :: _, h, _ => by simp at h
  | _ :: _, [], h, _ => by simp at h
  | x :: xs, v :: vs, h, k => by
    refine ⟨?_, repL_of_get (by simpa using h) (fun i y hy => ?_)⟩
    · obtain ⟨u, hu, hr⟩ := k 0 x rfl
      simp at hu; subst hu; exact hr
    · obtain ⟨u, hu, hr⟩ := k (i + 1) y (by simpa using hy)
      exact ⟨u, by simpa using hu, hr⟩
theorem C.rep_one {x : C} {v : Value} (h : x.rep E β v) : v.oneCell' = true := by
  cases x <;> simp only [C.rep] at h
  case p => obtain ⟨_, _, rfl⟩ := h; rfl
  case s => obtain ⟨_, _, a, n, c, rfl, _⟩ := h; rfl
  case sz => obtain ⟨a, rfl⟩ := h; rfl
  all_goals subst h; rfl
theorem C.rep_cells {x : C} {v : Value} (h : x.rep E β v) : v.cells = #[v] := by
  have := C.rep_one h
  cases v <;> first | rfl | (simp [Value.oneCell'] at this)
/-- A value's cells. -/
def W.cells : W → List C
  | .c x => [x]
  | .g xs => xs
theorem W.rep_cells {x : W} {v : Value} (h : x.rep E β v) : repL E β x.cells v.cells.toList := by
  cases x with
  | c x => simp only [W.rep] at h; rw [C.rep_cells h]; exact ⟨h, trivial⟩
  | g xs => obtain ⟨cs, rfl, h⟩ := h; exact h
theorem repL_one : ∀ {xs : List C} {vs : List Value}, repL E β xs vs → ∀ v ∈ vs, v.oneCell' = true
  | [], [], _, v, hv => by cases hv
  | [], _ :: _, h, _, _ => h.elim
  | _ :: _, [], h, _, _ => h.elim
  | x :: xs, u :: vs, h, v, hv => by
    cases hv with
    | head => exact C.rep_one h.1
    | tail _ hm => exact repL_one h.2 v hm

/-! The map may grow. -/
theorem C.rep_le {x : C} {v : Value} (hb : β.le β') (h : x.rep E β v) : x.rep E β' v := by
  cases x <;> simp only [C.rep] at h ⊢
  case p => obtain ⟨pl, h1, h2⟩ := h; exact ⟨pl, hb _ _ h1, h2⟩
  case s => obtain ⟨pl, h1, h2⟩ := h; exact ⟨pl, hb _ _ h1, h2⟩
  all_goals exact h
theorem repL_le (hb : β.le β') : ∀ {xs : List C} {vs : List Value}, repL E β xs vs → repL E β' xs vs
  | [], [], _ => trivial
  | [], _ :: _, h => h.elim
  | _ :: _, [], h => h.elim
  | x :: xs, v :: vs, h => ⟨C.rep_le hb h.1, repL_le hb h.2⟩
theorem W.rep_le {x : W} {v : Value} (hb : β.le β') (h : x.rep E β v) : x.rep E β' v := by
  cases x with
  | c x => exact C.rep_le hb h
  | g xs => obtain ⟨cs, rfl, h⟩ := h; exact ⟨cs, rfl, repL_le hb h⟩
theorem repWs_le (hb : β.le β') : ∀ {xs : List W} {vs : List Value}, repWs E β xs vs → repWs E β' xs vs
  | [], [], _ => trivial
  | [], _ :: _, h => h.elim
  | _ :: _, [], h => h.elim
  | x :: xs, v :: vs, h => ⟨W.rep_le hb h.1, repWs_le hb h.2⟩
theorem V.rep_le {x : V} {v : Value} (hb : β.le β') (h : x.rep E β v) : x.rep E β' v := by
  cases x with
  | w x => exact W.rep_le hb h
  | t xs => obtain ⟨vs, rfl, h⟩ := h; exact ⟨vs, rfl, repWs_le hb h⟩
  | u => trivial
theorem repWs_get : ∀ {xs : List W} {vs : List Value}, repWs E β xs vs → ∀ {i : Nat} {x : W}, xs[i]? = some x → ∃ v, vs[i]? = some v ∧ x.rep E β v
  | [], [], _, i, x, h => by simp at h
  | [], _ :: _, h, _, _, _ => h.elim
  | _ :: _, [], h, _, _, _ => h.elim
  | y :: xs, v :: vs, h, 0, x, hx => by simp at hx; subst hx; exact ⟨v, rfl, h.1⟩
  | y :: xs, v :: vs, h, i + 1, x, hx => by simp at hx; simpa using repWs_get h.2 hx
/-- A block stays what it stands for while its object stays. -/
theorem cell_of_heap {b o : Nat} (h : w'.heap[b]? = w.heap[b]?) : w'.cell? ⟨b, o, none⟩ = w.cell? ⟨b, o, none⟩ := by simp [World.cell?, h]
theorem MB.rep_keep {m : MB} {pl : Place} (h : m.rep E β w pl) (hb : β.le β') (hk : pl.sz ≠ 0 → w'.heap[pl.b]? = w.heap[pl.b]?) : m.rep E β' w' pl := by
  obtain ⟨rw', k⟩ := m
  obtain ⟨h1, h2⟩ := h
  refine ⟨?_, fun e => ?_⟩
  · cases k with
    | cells xs =>
      refine ⟨h1.1, fun i x hx => ?_⟩
      have hlt := (List.getElem?_eq_some_iff.1 hx).1
      have hne : pl.sz ≠ 0 := fun e => by have := h1.1; omega
      obtain ⟨v, hv, hr⟩ := h1.2 i x hx
      exact ⟨v, (cell_of_heap (hk hne)).trans hv, C.rep_le hb hr⟩
    | row ks l =>
      refine ⟨h1.1, h1.2.1, fun i z hz => ?_⟩
      have hlt := (List.getElem?_eq_some_iff.1 hz).1
      have hne : pl.sz ≠ 0 := fun e => by have := h1.2.1; omega
      exact (cell_of_heap (hk hne)).trans (h1.2.2 i z hz)
  · rcases h2 e with h2 | ⟨h2, arr, ty, h3, h4⟩
    · exact .inl h2
    · by_cases hne : pl.sz = 0
      · exact .inl hne
      · exact .inr ⟨h2, arr, ty, (hk hne).trans h3, h4⟩
end
end Go.Proofs.Ytlgiibchnnaceaa.Sx
