/- Sx, part 20: contracts: a function's answer by a pattern, told once. Conditions: none. -/
import Derived.Test.YtlgiibchnnaceaaSxL
set_option linter.unusedVariables false
set_option linter.unusedSimpArgs false
namespace Go.Proofs.Ytlgiibchnnaceaa.Sx
open Go Go.RowKit

/-! A contract: patterns of what is handed in, over variables 0, .. and blocks 0, ..; the answer over them and new blocks. -/
structure Tmpl where
  vs : List V
  bs : Bs
  n : Nat
  res : O Res
structure Rn where
  b : Nat
  σ : List T
  π : List (Option Nat)
  m : Nat
  nb : Nat
def Rn.nm (s : Rn) (j : Nat) : Option Nat := if Nat.ble s.m j then some (s.nb + (j - s.m)) else match nthO s.π j with
  | some x => x
  | none => none
def Rn.t (s : Rn) (k : K3) (t : T) : T := (t.sub s.b s.σ).tidy k
def rnC (s : Rn) : C → Option C
  | .i k t => some (.i k (s.t .i t))
  | .b t => some (.b (s.t .b t))
  | .p j e st r => (s.nm j).map fun j' => .p j' (s.t .i e) st r
  | .s j st r o l => (s.nm j).map fun j' => .s j' st r (s.t .i o) (s.t .i l)
  | c => some c
def rnL (s : Rn) : List C → Option (List C)
  | [] => some []
  | c :: cs => match rnC s c, rnL s cs with
    | some x, some xs => some (x :: xs)
    | _, _ => none
def rnW (s : Rn) : W → Option W
  | .c x => (rnC s x).map .c
  | .g xs => (rnL s xs).map .g
def rnWs (s : Rn) : List W → Option (List W)
  | [] => some []
  | c :: cs => match rnW s c, rnWs s cs with
    | some x, some xs => some (x :: xs)
    | _, _ => none
def rnV (s : Rn) : V → Option V
  | .w x => (rnW s x).map .w
  | .t xs => (rnWs s xs).map .t
  | .u => some .u
def rnB (s : Rn) : Blk → Option Blk
  | .cells xs => (rnL s xs).map .cells
  | .row ks l => some (.row ks (s.t .l l))
def rnE (s : Rn) : List (Nat × Option MB) → Option (List (Nat × Option MB))
  | [] => some []
  | (j, none) :: l => match s.nm j, rnE s l with
    | some j', some r => if hasK r j' then none else some ((j', none) :: r)
    | _, _ => none
  | (j, some m) :: l => match s.nm j, rnB s m.k, rnE s l with
    | some j', some k, some r => if hasK r j' then none else some ((j', some ⟨m.rw, k⟩) :: r)
    | _, _, _ => none
def rnR (s : Rn) : O Res → O Res
  | .ret r => match rnV s r.val, rnE s r.eff with
    | some v, some e => if Nat.ble s.m r.nb then .ret ⟨v, e, s.nb + (r.nb - s.m)⟩ else .fail 263
    | _, _ => .fail 260
  | .split t x y => splT (s.t .b t) (rnR s x) (rnR s y)
  | .chk t x => chkT (s.t .b t) (rnR s x)
  | .fail n => .fail n
def mtVs (m : Mt) : List V → List V → Mt
  | p :: ps, x :: xs => mtVs (mtV m p x) ps xs
  | _, _ => m
def mtBs (m : Mt) (bs : Bs) : Bs → Mt
  | [] => m
  | (j, p) :: l => match look m.π j with
    | some (some j') => match look bs j' with
      | some x => mtBs (mtB m p.k x.k) bs l
      | none => mtBs m bs l
    | some none => (match p.k with
      | .row _ t => mtBs (m.bindT t .nil) bs l
      | _ => mtBs m bs l)
    | none => mtBs m bs l
def okVs (s : Sb) : List V → List V → Bool
  | [], [] => true
  | p :: ps, x :: xs => okV s p x && okVs s ps xs
  | _, _ => false
/-- Is a block of the caller's seen twice, and by one name to be written? -/
def twice (π : List (Option Nat)) (j : Nat) (i : Nat) : Bs → Bool
  | [] => false
  | (k, m) :: l => (!Nat.beq k i && (match nthO π k with
    | some (some j') => Nat.beq j j'
    | _ => false)) || twice π j i l
def okBs (s : Sb) (bs all : Bs) : Bs → Bool
  | [] => true
  | (i, m) :: l => (match nthO s.π i with
    | some (some j) => (match look bs j with
      | some x => okM s m x
      | none => false) && (!m.rw || !twice s.π j i all)
    | some none => okPh s m.k
    | none => false) && okBs s bs all l
def Tmpl.con0 (t : Tmpl) : Con := fun fa vs bs nb =>
  let m := lenN t.bs
  let mt := mtBs (mtVs ⟨0, 0, [], []⟩ t.vs vs) bs t.bs
  let σ := finT mt 0 t.n
  let π := finN mt 0 m
  let s : Sb := ⟨0, σ, 0, π⟩
  if okVs s t.vs vs && (okBs s bs t.bs t.bs && (keysLow m t.bs && Nat.ble m (lenN π))) then rnR ⟨0, σ, π, m, nb⟩ t.res else .fail 261

def TmplOk (P : Program) (Φ : Sig) (f : FuncId) (t : Tmpl) : Prop :=
  ∀ (ρ : Env) (res : Res), t.res.val (T.den Φ ρ) = some res → ∀ (args : List Value) (β : Map) (w : World), repVs (T.den Φ ρ) β t.vs args → inHeap β w → memRep (T.den Φ ρ) β w (look t.bs) → (∀ j, lenN t.bs ≤ j → β j = none) →
    Calls P f args.toArray w fun e w' => ∃ v β', e = .returned v ∧ res.val.rep (T.den Φ ρ) β' v ∧ StepR (T.den Φ ρ) (look t.bs) β w (lenN t.bs) res.eff res.nb β' w'

section
variable {Φ : Sig} {ρ : Env} {P : Program}
abbrev Rn.env (s : Rn) (Φ : Sig) (ρ : Env) : Env := upd ρ s.b (s.σ.map (T.den Φ ρ))
theorem rn_i (s : Rn) (t : T) : ((s.t .i t).den Φ ρ).int = (t.den Φ (s.env Φ ρ)).int := by rw [Rn.t, tidy_i, sub_den]
theorem rn_b (s : Rn) (t : T) : ((s.t .b t).den Φ ρ).bool = (t.den Φ (s.env Φ ρ)).bool := by rw [Rn.t, tidy_b, sub_den]
theorem rn_l (s : Rn) (t : T) : ((s.t .l t).den Φ ρ).list = (t.den Φ (s.env Φ ρ)).list := by rw [Rn.t, tidy_l, sub_den]
theorem rnR_some {s : Rn} {res : Res} : ∀ {o : O Res}, (rnR s o).val (T.den Φ ρ) = some res → ∃ r, o.val (T.den Φ (s.env Φ ρ)) = some r ∧ rnV s r.val = some res.val ∧ rnE s r.eff = some res.eff ∧ res.nb = s.nb + (r.nb - s.m) ∧ s.m ≤ r.nb
  | .ret r, h => by
    simp only [rnR] at h
    split at h
    · rename_i v e hv he
      split at h
      · rename_i hm
        simp only [O.val] at h
        injection h with h
        subst h
        exact ⟨r, rfl, hv, he, rfl, Nat.le_of_ble_eq_true hm⟩
      · cases h
    · cases h
  | .split t x y, h => by
    simp only [rnR] at h
    rw [splT_val hEb, rn_b] at h
    simp only [O.val]
    split at h
    · rename_i hc; rw [if_pos hc]; exact rnR_some h
    · rename_i hc; rw [if_neg hc]; exact rnR_some h
  | .chk t x, h => by
    simp only [rnR] at h
    obtain ⟨h1, h2⟩ := chkT_some hEb h
    rw [rn_b] at h1
    simp only [O.val]
    rw [if_pos h1]; exact rnR_some h2
  | .fail _, h => by cases h
structure Goes (s : Rn) (βg β : Map) : Prop where
  at_ : ∀ j j' pl, s.nm j = some j' → βg j = some pl → β j' = some pl
section
variable {s : Rn} {βg β : Map}
theorem rnC_rep (hg : Goes s βg β) {c x : C} {v : Value} (h : rnC s c = some x) (hr : c.rep (T.den Φ (s.env Φ ρ)) βg v) : x.rep (T.den Φ ρ) β v := by
  cases c <;> simp only [rnC, Option.some.injEq, Option.map_eq_some_iff] at h <;> simp only [C.rep] at hr
  case i k t => subst h; simp only [C.rep, rn_i]; exact hr
  case b t => subst h; simp only [C.rep, rn_b]; exact hr
  case p j e st r =>
    obtain ⟨j', hj, rfl⟩ := h
    obtain ⟨pl, hp, hv⟩ := hr
    simp only [C.rep, rn_i]
    exact ⟨pl, hg.at_ _ _ _ hj hp, hv⟩
  case s j st r o l =>
    obtain ⟨j', hj, rfl⟩ := h
    obtain ⟨pl, hp, hv⟩ := hr
    simp only [C.rep, rn_i]
    exact ⟨pl, hg.at_ _ _ _ hj hp, hv⟩
  all_goals (subst h; exact hr)
theorem rnL_rep (hg : Goes s βg β) : ∀ {cs xs : List C} {vs : List Value}, rnL s cs = some xs → repL (T.den Φ (s.env Φ ρ)) βg cs vs → repL (T.den Φ ρ) β xs vs
  | [], xs, [], h, _ => by simp only [rnL, Option.some.injEq] at h; subst h; trivial
  | [], _, _ :: _, _, hr => hr.elim
  | _ :: _, _, [], _, hr => hr.elim
  | c :: cs, xs, v :: vs, h, hr => by
    simp only [rnL] at h
    split at h
    · rename_i y ys h1 h2
      injection h with h
      subst h
      exact ⟨rnC_rep hg h1 hr.1, rnL_rep hg h2 hr.2⟩
    · cases h
theorem rnW_rep (hg : Goes s βg β) {c x : W} {v : Value} (h : rnW s c = some x) (hr : c.rep (T.den Φ (s.env Φ ρ)) βg v) : x.rep (T.den Φ ρ) β v := by
  cases c with
  | c c =>
    simp only [rnW, Option.map_eq_some_iff] at h
    obtain ⟨y, hy, rfl⟩ := h
    exact rnC_rep hg hy hr
  | g cs =>
    simp only [rnW, Option.map_eq_some_iff] at h
    obtain ⟨y, hy, rfl⟩ := h
    obtain ⟨a, rfl, hr⟩ := hr
    exact ⟨a, rfl, rnL_rep hg hy hr⟩
theorem rnWs_rep (hg : Goes s βg β) : ∀ {cs xs : List W} {vs : List Value}, rnWs s cs = some xs → repWs (T.den Φ (s.env Φ ρ)) βg cs vs → repWs (T.den Φ ρ) β xs vs
  | [], xs, [], h, _ => by simp only [rnWs, Option.some.injEq] at h; subst h; trivial
  | [], _, _ :: _, _, hr => hr.elim
  | _ :: _, _, [], _, hr => hr.elim
  | c :: cs, xs, v :: vs, h, hr => by
    simp only [rnWs] at h
    split at h
    · rename_i y ys h1 h2
      injection h with h
      subst h
      exact ⟨rnW_rep hg h1 hr.1, rnWs_rep hg h2 hr.2⟩
    · cases h
theorem rnV_rep (hg : Goes s βg β) {c x : V} {v : Value} (h : rnV s c = some x) (hr : c.rep (T.den Φ (s.env Φ ρ)) βg v) : x.rep (T.den Φ ρ) β v := by
  cases c with
  | w c =>
    simp only [rnV, Option.map_eq_some_iff] at h
    obtain ⟨y, hy, rfl⟩ := h
    exact rnW_rep hg hy hr
  | t cs =>
    simp only [rnV, Option.map_eq_some_iff] at h
    obtain ⟨y, hy, rfl⟩ := h
    obtain ⟨a, rfl, hr⟩ := hr
    exact ⟨a, rfl, rnWs_rep hg hy hr⟩
  | u => simp only [rnV, Option.some.injEq] at h; subst h; trivial
theorem rnL_get : ∀ {cs xs : List C}, rnL s cs = some xs → cs.length = xs.length ∧ ∀ (i : Nat) (x : C), xs[i]? = some x → ∃ c, cs[i]? = some c ∧ rnC s c = some x
  | [], xs, h => by simp only [rnL, Option.some.injEq] at h; subst h; exact ⟨rfl, fun i x h => by simp at h⟩
  | c :: cs, xs, h => by
    simp only [rnL] at h
    split at h
    · rename_i y ys h1 h2
      injection h with h
      subst h
      obtain ⟨g1, g2⟩ := rnL_get h2
      refine ⟨by simp [g1], fun i x hx => ?_⟩
      cases i with
      | zero => simp only [List.getElem?_cons_zero, Option.some.injEq] at hx; subst hx; exact ⟨c, rfl, h1⟩
      | succ i => simp only [List.getElem?_cons_succ] at hx ⊢; exact g2 i x hx
    · cases h
theorem rnB_rep (hg : Goes s βg β) {k x : Blk} {w : World} {pl : Place} (h : rnB s k = some x) (hr : k.rep (T.den Φ (s.env Φ ρ)) βg w pl) : x.rep (T.den Φ ρ) β w pl := by
  cases k with
  | cells cs =>
    simp only [rnB, Option.map_eq_some_iff] at h
    obtain ⟨y, hy, rfl⟩ := h
    obtain ⟨g1, g2⟩ := rnL_get hy
    refine ⟨by rw [← g1]; exact hr.1, fun i x hx => ?_⟩
    obtain ⟨c, hc, hrc⟩ := g2 i x hx
    obtain ⟨v, hv, hrv⟩ := hr.2 i c hc
    exact ⟨v, hv, rnC_rep hg hrc hrv⟩
  | row ks l =>
    simp only [rnB, Option.some.injEq] at h
    subst h
    simp only [Blk.rep, rn_l]; exact hr
end
theorem rnE_spec {s : Rn} : ∀ {e r : List (Nat × Option MB)}, rnE s e = some r → (∀ j, hasK e j = true → ∃ j', s.nm j = some j' ∧ hasK r j' = true) ∧
    (∀ j', hasK r j' = true → ∃ j, s.nm j = some j' ∧ hasK e j = true ∧ (lookM r j' = none ↔ lookM e j = none) ∧ ∀ m', lookM r j' = some m' → ∃ m, lookM e j = some m ∧ m'.rw = m.rw ∧ rnB s m.k = some m'.k) ∧
    (∀ j j', hasK e j = true → s.nm j = some j' → (lookM r j' = none ↔ lookM e j = none) ∧ ∀ m', lookM r j' = some m' → ∃ m, lookM e j = some m ∧ m'.rw = m.rw ∧ rnB s m.k = some m'.k)
  | [], r, h => by
    simp only [rnE, Option.some.injEq] at h
    subst h
    exact ⟨fun j hj => (by cases hj), fun j hj => (by cases hj), fun j j' hj => (by cases hj)⟩
  | (k, o) :: e, r, h => by
    have main : ∃ k' o' r', s.nm k = some k' ∧ rnE s e = some r' ∧ hasK r' k' = false ∧ r = (k', o') :: r' ∧ (o' = none ↔ o = none) ∧ (∀ m', o' = some m' → ∃ m, o = some m ∧ m'.rw = m.rw ∧ rnB s m.k = some m'.k) := by
      cases o with
      | none =>
        simp only [rnE] at h
        split at h
        · rename_i j' r' h1 h2
          split at h
          · cases h
          · rename_i h3
            injection h with h
            exact ⟨j', none, r', h1, h2, by simpa using h3, h.symm, Iff.rfl, fun m' h => (by cases h)⟩
        · cases h
      | some m =>
        simp only [rnE] at h
        split at h
        · rename_i j' k' r' h1 h2 h3
          split at h
          · cases h
          · rename_i h4
            injection h with h
            refine ⟨j', some ⟨m.rw, k'⟩, r', h1, h3, by simpa using h4, h.symm, ⟨fun h => (by cases h), fun h => (by cases h)⟩, fun m' h => ?_⟩
            injection h with h
            subst h
            exact ⟨m, rfl, rfl, h2⟩
        · cases h
    obtain ⟨k', o', r', h1, h2, h3, rfl, h4, h5⟩ := main
    obtain ⟨g1, g2, g3⟩ := rnE_spec h2
    have bk : ∀ {a b : Nat}, a ≠ b → Nat.beq a b = false := fun {a b} hab => by
      cases h : Nat.beq a b with
      | false => rfl
      | true => exact absurd (Nat.eq_of_beq_eq_true h) hab
    have third : ∀ j j', hasK ((k, o) :: e) j = true → s.nm j = some j' → (lookM ((k', o') :: r') j' = none ↔ lookM ((k, o) :: e) j = none) ∧ ∀ m', lookM ((k', o') :: r') j' = some m' → ∃ m, lookM ((k, o) :: e) j = some m ∧ m'.rw = m.rw ∧ rnB s m.k = some m'.k := by
      intro j j' hj hn
      by_cases e1 : k = j
      · subst e1
        rw [h1] at hn
        injection hn with hn
        subst hn
        simp only [lookM, Nat.beq_refl, if_true]
        exact ⟨h4, h5⟩
      · simp only [hasK, bk e1, Bool.false_or] at hj
        obtain ⟨j2, q1, q2⟩ := g1 j hj
        rw [hn] at q1
        injection q1 with q1
        subst q1
        have e2 : k' ≠ j' := fun e => by rw [e, q2] at h3; cases h3
        simp only [lookM, bk e1, bk e2, Bool.false_eq_true, if_false]
        exact g3 j j' hj hn
    refine ⟨fun j hj => ?_, fun j' hj' => ?_, third⟩
    · by_cases e1 : k = j
      · subst e1; exact ⟨k', h1, by simp [hasK]⟩
      · simp only [hasK, bk e1, Bool.false_or] at hj
        obtain ⟨j2, q1, q2⟩ := g1 j hj
        exact ⟨j2, q1, by simp [hasK, q2]⟩
    · by_cases e1 : k' = j'
      · subst e1
        have hk : hasK ((k, o) :: e) k = true := by simp [hasK]
        exact ⟨k, h1, hk, third k k' hk h1⟩
      · simp only [hasK, bk e1, Bool.false_or] at hj'
        obtain ⟨j, q1, q2, _⟩ := g2 j' hj'
        have hk : hasK ((k, o) :: e) j = true := by simp [hasK, q2]
        exact ⟨j, q1, hk, third j j' hk q1⟩
theorem okVs_rep {s : Sb} {β1 β2 : Map} (hf : Fits s β1 β2) : ∀ {ps xs : List V} {vs : List Value}, okVs s ps xs = true → repVs (T.den Φ ρ) β1 xs vs → repVs (T.den Φ (s.env Φ ρ)) β2 ps vs
  | [], [], [], _, _ => trivial
  | [], [], _ :: _, _, h => h.elim
  | [], _ :: _, _, h, _ => by simp [okVs] at h
  | _ :: _, [], _, h, _ => by simp [okVs] at h
  | _ :: _, _ :: _, [], _, h => h.elim
  | p :: ps, x :: xs, v :: vs, h, hr => by
    simp only [okVs, Bool.and_eq_true] at h
    exact ⟨okV_rep hf h.1 hr.1, okVs_rep hf h.2 hr.2⟩
theorem twice_false {π : List (Option Nat)} {j i : Nat} : ∀ {all : Bs}, twice π j i all = false → ∀ k m, look all k = some m → k ≠ i → nthO π k ≠ some (some j)
  | (k0, m0) :: all, h, k, m, hk, hne => by
    simp only [twice, Bool.or_eq_false_iff, Bool.and_eq_false_iff] at h
    simp only [look] at hk
    split at hk
    · rename_i e
      have e := Nat.eq_of_beq_eq_true e
      subst e
      intro hπ
      rw [hπ] at h
      rcases h.1 with h | h
      · simp only [Bool.not_eq_false'] at h
        exact hne (Nat.eq_of_beq_eq_true h)
      · simp at h
    · exact twice_false h.2 k m hk hne
theorem okBs_mem {s : Sb} {bs all : Bs} : ∀ {l : Bs}, okBs s bs all l = true → ∀ {i : Nat} {m : MB}, look l i = some m → (∃ j x, nthO s.π i = some (some j) ∧ look bs j = some x ∧ okM s m x = true ∧ (m.rw = true → twice s.π j i all = false)) ∨ (nthO s.π i = some none ∧ okPh s m.k = true)
  | (k, m0) :: l, h, i, m, hi => by
    simp only [okBs, Bool.and_eq_true] at h
    simp only [look] at hi
    split at hi
    · rename_i e
      have e := Nat.eq_of_beq_eq_true e
      subst e
      injection hi with hi
      subst hi
      obtain ⟨h1, _⟩ := h
      split at h1
      · rename_i j hj
        left
        simp only [Bool.and_eq_true, Bool.or_eq_true, Bool.not_eq_true'] at h1
        obtain ⟨h1, h2⟩ := h1
        split at h1
        · rename_i x hx
          exact ⟨j, x, hj, hx, h1, fun hr => by rcases h2 with h2 | h2; · rw [hr] at h2; cases h2
                                                · exact h2⟩
        · cases h1
      · rename_i hj
        exact .inr ⟨hj, h1⟩
      · cases h1
    · exact okBs_mem h.2 hi

/-- A contract that is so is so wherever its patterns fit. -/
theorem con0_ok {f : FuncId} {t : Tmpl} (ht : TmplOk P Φ f t) : ConOk P Φ f t.con0 := by
  intro ρ fa hfa vs bs nb res hres args β w hargs hb hm hfree
  unfold Tmpl.con0 at hres
  simp only at hres
  generalize hmm : mtBs (mtVs ⟨0, 0, [], []⟩ t.vs vs) bs t.bs = mt at hres
  generalize hσ : finT mt 0 t.n = σ at hres
  generalize hπ : finN mt 0 (lenN t.bs) = π at hres
  split at hres
  case isFalse => cases hres
  rename_i hck
  simp only [Bool.and_eq_true] at hck
  obtain ⟨c1, c2, c3, c4⟩ := hck
  have hπl : π.length = lenN t.bs := by
    rw [← hπ]
    have : ∀ (n j : Nat), (finN mt j n).length = n := by
      intro n
      induction n with
      | zero => intro j; rfl
      | succ n ih => intro j; simp [finN, ih]
    exact this _ _
  obtain ⟨r, hr, hv, he, hnb, hmle⟩ := rnR_some hres
  have hmle : lenN t.bs ≤ r.nb := hmle
  have hnb : res.nb = nb + (r.nb - lenN t.bs) := hnb
  let βg : Map := fun j => match nthO π j with
    | some (some j') => β j'
    | some none => some ⟨0, 0, 0⟩
    | none => none
  have g1 : ∀ j j', nthO π j = some (some j') → βg j = β j' := fun j j' h => by simp only [βg, h]
  have g2 : ∀ j, nthO π j = some none → βg j = some ⟨0, 0, 0⟩ := fun j h => by simp only [βg, h]
  have g3 : ∀ j, lenN t.bs ≤ j → βg j = none := fun j h => by simp only [βg, nthO_get]; rw [List.getElem?_eq_none (by omega)]
  have fits : Fits ⟨0, σ, 0, π⟩ β βg := by
    refine ⟨fun j j' pl hj hp => ?_, fun j hj => ?_⟩
    · have hj : nthO π (j - 0) = some (some j') := by simpa [nmOf] using hj
      rw [g1 j j' hj]; exact hp
    · have hj : nthO π (j - 0) = some none := by simpa [nmOf] using hj
      exact g2 j hj
  have hargs' := okVs_rep fits c1 hargs
  have hb' : inHeap βg w := by
    intro j pl hj hs
    simp only [βg] at hj
    split at hj
    · exact hb _ pl hj hs
    · injection hj with hj; subst hj; exact absurd rfl hs
    · cases hj
  have hm' : memRep (T.den Φ (upd ρ 0 (σ.map (T.den Φ ρ)))) βg w (look t.bs) := by
    refine ⟨fun i m hi => ?_, fun i k m m' pl pl' hne hi hk hrw hp hp' hs hs' => ?_⟩
    · rcases okBs_mem c2 hi with ⟨j, x, e1, e2, e3, _⟩ | ⟨e1, e2⟩
      · obtain ⟨pl, hp, hrx⟩ := hm.1 j x e2
        exact ⟨pl, by rw [g1 i j e1]; exact hp, (okM_rep fits e3 hrx).1⟩
      · exact ⟨_, g2 i e1, okPh_rep (s := ⟨0, σ, 0, π⟩) e2, fun _ => .inl rfl⟩
    · rcases okBs_mem c2 hi with ⟨j, x, e1, e2, e3, e4⟩ | ⟨e1, e2⟩
      · rcases okBs_mem c2 hk with ⟨j', x', f1, f2, f3, f4⟩ | ⟨f1, f2⟩
        · rw [g1 i j e1] at hp
          rw [g1 k j' f1] at hp'
          have hjj : j ≠ j' := fun e => by
            subst e
            exact twice_false (e4 hrw) k m' hk hne.symm f1
          obtain ⟨pl2, hp2, hrx⟩ := hm.1 j x e2
          exact hm.2 j j' x x' pl pl' hjj e2 f2 ((okM_rep fits e3 hrx).2 hrw) hp hp' hs hs'
        · rw [g2 k f1] at hp'; injection hp' with hp'; subst hp'; exact absurd rfl hs'
      · rw [g2 i e1] at hp; injection hp with hp; subst hp; exact absurd rfl hs
  refine Calls.mono (ht _ r hr args βg w hargs' hb' hm' g3) ?_
  rintro e w' ⟨x, β', rfl, hx, st⟩
  -- the new names
  let β2 : Map := fun j => if nb ≤ j ∧ j < nb + (r.nb - lenN t.bs) then β' (lenN t.bs + (j - nb)) else β j
  have bnew : ∀ j, isNew nb res.nb j → β2 j = β' (lenN t.bs + (j - nb)) := fun j hj => if_pos (c := nb ≤ j ∧ j < nb + (r.nb - lenN t.bs)) (by unfold isNew at hj; omega)
  have bold : ∀ j, ¬ isNew nb res.nb j → β2 j = β j := fun j hj => if_neg (c := nb ≤ j ∧ j < nb + (r.nb - lenN t.bs)) (by unfold isNew at hj; omega)
  have b2le : β.le β2 := fun j pl hj => by
    rw [bold j (fun hn => by rw [hfree j hn] at hj; cases hj)]; exact hj
  have nmLo : ∀ j j', j < lenN t.bs → Rn.nm ⟨0, σ, π, lenN t.bs, nb⟩ j = some j' → nthO π j = some (some j') := by
    intro j j' hj hn
    simp only [Rn.nm] at hn
    rw [if_neg (by intro h; have := Nat.le_of_ble_eq_true h; omega)] at hn
    split at hn
    · rename_i x hx; rw [hx, hn]
    · cases hn
  have nmHi : ∀ j, lenN t.bs ≤ j → Rn.nm ⟨0, σ, π, lenN t.bs, nb⟩ j = some (nb + (j - lenN t.bs)) := by
    intro j hj
    simp only [Rn.nm]
    rw [if_pos (Nat.ble_eq.mpr hj)]
  have notNew : ∀ j, j < lenN t.bs → ¬ isNew (lenN t.bs) r.nb j := fun j hj hn => by unfold isNew at hn; omega
  have goes : Goes ⟨0, σ, π, lenN t.bs, nb⟩ β' β2 := by
    refine ⟨fun j j' pl hn hp => ?_⟩
    rcases Nat.lt_or_ge j (lenN t.bs) with hl | hl
    · have h1 := nmLo j j' hl hn
      rw [st.old j (notNew j hl), g1 j j' h1] at hp
      exact b2le _ _ hp
    · rw [nmHi j hl] at hn
      injection hn with hn
      subst hn
      have hlt : j < r.nb := by
        rcases Nat.lt_or_ge j r.nb with h | h
        · exact h
        · rw [st.old j (fun hn => by unfold isNew at hn; omega), g3 j hl] at hp; cases hp
      rw [bnew _ (by unfold isNew; omega), show lenN t.bs + (nb + (j - lenN t.bs) - nb) = j from by omega]
      exact hp
  obtain ⟨s1, s2, s3⟩ := rnE_spec he
  have lowKey : ∀ i m, look t.bs i = some m → i < lenN t.bs := fun i m h => keysLow_has c3 h
  have oldKey : ∀ j, hasK r.eff j = true → ¬ isNew (lenN t.bs) r.nb j → j < lenN t.bs := fun j hj hn => by
    obtain ⟨m, hm, _⟩ := st.wr j hj hn
    exact lowKey j m hm
  refine ⟨x, β2, rfl, rnV_rep goes hv hx, ?_⟩
  refine ⟨by omega, b2le, bold, st.os, st.tape, st.output, st.size, fun b hbs hk => ?_, fun j m hj => ?_, fun j hj hn => ?_, fun j pl hn hj hs => ?_, fun j k m m' pl pl' hne hn hn' hj hk hrw hp hp' hs hs' => ?_⟩
  · refine st.kept b hbs (fun j pl hj hn hp hs => ?_)
    have hl := oldKey j hj hn
    obtain ⟨j', q1, q2⟩ := s1 j hj
    have h1 := nmLo j j' hl q1
    rw [g1 j j' h1] at hp
    exact hk j' pl q2 (fun hn => by rw [hfree j' hn] at hp; cases hp) hp hs
  · have hk : hasK res.eff j = true := by
      cases h : hasK res.eff j with
      | true => rfl
      | false => rw [lookM_none h] at hj; cases hj
    obtain ⟨i, q1, q2, _, q3⟩ := s2 j hk
    obtain ⟨mg, hmg, hrw, hbk⟩ := q3 m hj
    obtain ⟨pl, hp, hrp⟩ := st.mem i mg hmg
    exact ⟨pl, goes.at_ _ _ _ q1 hp, rnB_rep goes hbk hrp.1, fun h => hrp.2 (by rw [← hrw]; exact h)⟩
  · obtain ⟨i, q1, q2, _⟩ := s2 j hj
    have hni : ¬ isNew (lenN t.bs) r.nb i := fun hi => by
      rw [nmHi i hi.1] at q1
      injection q1 with q1
      refine hn ?_
      unfold isNew at hi ⊢
      omega
    have hl := oldKey i q2 hni
    obtain ⟨m0, hm0, hrw⟩ := st.wr i q2 hni
    have h1 := nmLo i j hl q1
    rcases okBs_mem c2 hm0 with ⟨j', x', e1, e2, e3, _⟩ | ⟨e1, _⟩
    · rw [h1] at e1
      injection e1 with e1
      injection e1 with e1
      subst e1
      obtain ⟨pl2, hp2, hrx⟩ := hm.1 j x' e2
      exact ⟨x', e2, (okM_rep fits e3 hrx).2 hrw⟩
    · rw [h1] at e1; cases e1
  · rw [bnew j hn] at hj
    obtain ⟨h1, h2⟩ := st.new (lenN t.bs + (j - nb)) pl (by unfold isNew at hn ⊢; omega) hj hs
    refine ⟨h1, h2.imp id ?_⟩
    rintro ⟨k, pk, a1, a2, a3, a4, a5, a6⟩
    have hl := oldKey k a1 a3
    obtain ⟨k', q1, q2⟩ := s1 k a1
    have h1 := nmLo k k' hl q1
    rw [g1 k k' h1] at a4
    exact ⟨k', pk, q2, (s3 k k' a1 q1).1.mpr a2, fun hn => (by rw [hfree k' hn] at a4; cases a4), a4, a5, a6⟩
  · rw [bnew j hn] at hp
    rw [bnew k hn'] at hp'
    have key : ∀ j m, isNew nb res.nb j → lookM res.eff j = some m → ∃ mg, lookM r.eff (lenN t.bs + (j - nb)) = some mg ∧ m.rw = mg.rw := by
      intro j m hn hj
      have hk : hasK res.eff j = true := by
        cases h : hasK res.eff j with
        | true => rfl
        | false => rw [lookM_none h] at hj; cases hj
      obtain ⟨i, q1, q2, _, q3⟩ := s2 j hk
      obtain ⟨mg, hmg, hrw, _⟩ := q3 m hj
      have hil : lenN t.bs ≤ i := by
        rcases Nat.lt_or_ge i (lenN t.bs) with h | h
        · exfalso
          have h1 := nmLo i j h q1
          obtain ⟨pl, hp, _⟩ := st.mem i mg hmg
          rw [st.old i (notNew i h), g1 i j h1, hfree j hn] at hp
          cases hp
        · exact h
      rw [nmHi i hil] at q1
      injection q1 with q1
      refine ⟨mg, ?_, hrw⟩
      rw [show lenN t.bs + (j - nb) = i from by omega]; exact hmg
    obtain ⟨a, ha, har⟩ := key j m hn hj
    obtain ⟨b, hb2, _⟩ := key k m' hn' hk
    exact st.excl _ _ a b pl pl' (by unfold isNew at hn hn'; omega) (by unfold isNew at hn ⊢; omega) (by unfold isNew at hn' ⊢; omega) ha hb2 (by rw [← har]; exact hrw) hp hp' hs hs'
end
end Go.Proofs.Ytlgiibchnnaceaa.Sx
