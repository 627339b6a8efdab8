/- Sx, part 21: what is handed in as a piece of a row is seen as a row of its own. Conditions: none. -/
import Derived.Test.YtlgiibchnnaceaaSxN
set_option linter.unusedVariables false
set_option linter.unusedSimpArgs false
namespace Go.Proofs.Ytlgiibchnnaceaa.Sx
open Go Go.RowKit

/-- The view is the cells of block j from element o on. -/
structure Vw where
  j : Nat
  st : Nat
  o : T
def takeF (fa : Facts) (n l : T) : T := if leF fa (lenF fa l) 0 n then l else mkTake n l
def viewable (pbs : Bs) : V → Bool
  | .w (.c (.s i _ _ _ _)) => match look pbs i with
    | some m => !m.rw
    | none => false
  | _ => false
def viewOf (fa : Facts) (bs : Bs) (nb : Nat) : V → Option (V × MB × Vw × List T)
  | .w (.c (.s j st r o l)) => match look bs j with
    | some m => match m.k with
      | .row ks L => if Nat.beq ks.length st && (Nat.ble 1 st && Nat.beq r 0) then
          let Lv := takeF fa (mkMul l (.num (.ofNat st))) (mkDrop (mkMul o (.num (.ofNat st))) L)
          if Nat.beq st 1 then some (.c (.s nb st 0 (.num 0) (.c1 .len Lv)), ⟨false, .row ks Lv⟩, ⟨j, st, o⟩, [mkEq l (lenF fa Lv)])
          else some (.c (.s nb st 0 (.num 0) l), ⟨false, .row ks Lv⟩, ⟨j, st, o⟩, [])
        else none
      | _ => none
    | none => none
  | _ => none
structure Vws where
  vs : List V
  bs : Bs
  vw : List Vw
  ck : List T
def viewVs (fa : Facts) (bs pbs : Bs) : Nat → List V → List V → Vws
  | nb, x :: xs, p :: ps => match (if viewable pbs p then viewOf fa bs nb x else none) with
    | some (v, m, vw, c) =>
      let r := viewVs fa bs pbs (nb + 1) xs ps
      ⟨v :: r.vs, (nb, m) :: r.bs, vw :: r.vw, c ++ r.ck⟩
    | none =>
      let r := viewVs fa bs pbs nb xs ps
      ⟨x :: r.vs, r.bs, r.vw, r.ck⟩
  | _, xs, _ => ⟨xs, [], [], []⟩
def seenBy (j : Nat) : List Vw → Bool
  | [] => false
  | v :: l => Nat.beq v.j j || seenBy j l
def calm (vw : List Vw) : Bs → Bs
  | [] => []
  | (j, m) :: l => (j, if seenBy j vw then ⟨false, m.k⟩ else m) :: calm vw l
def chkAll {α : Type} : List T → O α → O α
  | [], x => x
  | t :: l, x => chkT t (chkAll l x)
def nthV : List Vw → Nat → Option Vw
  | [], _ => none
  | v :: _, 0 => some v
  | _ :: l, i + 1 => nthV l i
def unC (nb : Nat) (vw : List Vw) : C → Option C
  | .s i st r o l => if Nat.ble nb i && Nat.ble (i + 1) (nb + lenN vw) then (match nthV vw (i - nb) with
      | some v => if Nat.beq v.st st && Nat.beq r 0 then some (.s v.j st 0 (mkAdd v.o o) l) else none
      | none => none) else some (.s i st r o l)
  | .p i e st r => if Nat.ble nb i && Nat.ble (i + 1) (nb + lenN vw) then none else some (.p i e st r)
  | c => some c
def mapL (f : C → Option C) : List C → Option (List C)
  | [] => some []
  | c :: cs => match f c, mapL f cs with
    | some x, some xs => some (x :: xs)
    | _, _ => none
def mapW (f : C → Option C) : W → Option W
  | .c x => (f x).map .c
  | .g xs => (mapL f xs).map .g
def mapWs (f : C → Option C) : List W → Option (List W)
  | [] => some []
  | c :: cs => match mapW f c, mapWs f cs with
    | some x, some xs => some (x :: xs)
    | _, _ => none
def mapV (f : C → Option C) : V → Option V
  | .w x => (mapW f x).map .w
  | .t xs => (mapWs f xs).map .t
  | .u => some .u
def mapB (f : C → Option C) : Blk → Option Blk
  | .cells xs => (mapL f xs).map .cells
  | .row ks l => some (.row ks l)
def mapE (f : C → Option C) : List (Nat × Option MB) → Option (List (Nat × Option MB))
  | [] => some []
  | (j, none) :: l => (mapE f l).map fun r => (j, none) :: r
  | (j, some m) :: l => match mapB f m.k, mapE f l with
    | some k, some r => some ((j, some ⟨m.rw, k⟩) :: r)
    | _, _ => none
def viewCon (t : Tmpl) (c : Con) : Con := fun fa vs bs nb =>
  let r := viewVs fa bs t.bs nb vs t.vs
  if allLow nb (namesVs vs) && (keysLow nb bs && allLow nb (namesBs bs)) then
    chkAll r.ck ((c fa r.vs (calm r.vw bs ++ r.bs) (nb + lenN r.vw)).bind fun res => match mapV (unC nb r.vw) res.val, mapE (unC nb r.vw) res.eff with
      | some v, some e => .ret ⟨v, e, res.nb⟩
      | _, _ => .fail 265)
  else .fail 266
def Tmpl.con (t : Tmpl) : Con := viewCon t t.con0

section
variable {Φ : Sig} {ρ : Env} {P : Program}
theorem chkAll_some {α : Type} {x : O α} {a : α} : ∀ {l : List T}, (chkAll l x).val (T.den Φ ρ) = some a → (∀ t ∈ l, (t.den Φ ρ).bool = true) ∧ x.val (T.den Φ ρ) = some a
  | [], h => ⟨fun t ht => (by cases ht), h⟩
  | t :: l, h => by
    simp only [chkAll] at h
    obtain ⟨h1, h2⟩ := chkT_some hEb h
    obtain ⟨h3, h4⟩ := chkAll_some h2
    refine ⟨fun u hu => ?_, h4⟩
    rcases List.mem_cons.mp hu with e | hu
    · rw [e]; exact h1
    · exact h3 u hu
theorem takeF_ok {fa : Facts} (hf : fa.hold Φ ρ) (n l : T) : ((takeF fa n l).den Φ ρ).list = (l.den Φ ρ).list.take (n.den Φ ρ).int.toNat := by
  unfold takeF
  split
  · rename_i h
    have := leF_ok hf h
    rw [lenF_ok hf] at this
    rw [List.take_of_length_le (by omega)]
  · exact den_take Φ ρ n l
/-! One piece. -/
def cut (pl : Place) (d : Nat) : Place := ⟨pl.b, pl.o + d, pl.sz - d⟩
theorem viewOf_ok {fa : Facts} (hf : fa.hold Φ ρ) {bs : Bs} {nb : Nat} {x v : V} {m : MB} {vw : Vw} {ck : List T} (h : viewOf fa bs nb x = some (v, m, vw, ck)) {β : Map} {w : World} {xv : Value} (hx : x.rep (T.den Φ ρ) β xv) (hm : memRep (T.den Φ ρ) β w (look bs)) (hc : ∀ t ∈ ck, (t.den Φ ρ).bool = true) :
    m.rw = false ∧ (∃ ks l, m.k = .row ks l) ∧ ∃ pl, β vw.j = some pl ∧ 0 ≤ (vw.o.den Φ ρ).int ∧ (vw.o.den Φ ρ).int.toNat * vw.st ≤ pl.sz ∧ m.rep (T.den Φ ρ) β w (cut pl ((vw.o.den Φ ρ).int.toNat * vw.st)) ∧ (∃ m0, look bs vw.j = some m0) ∧
      ∀ β', β' nb = some (cut pl ((vw.o.den Φ ρ).int.toNat * vw.st)) → v.rep (T.den Φ ρ) β' xv := by
  unfold viewOf at h
  split at h
  · rename_i j st r o l
    split at h
    · rename_i m0 hj
      split at h
      · rename_i ks L hk
        split at h
        · rename_i hck
          simp only [Bool.and_eq_true] at hck
          obtain ⟨c1, c2, c3⟩ := hck
          have c1 := Nat.eq_of_beq_eq_true c1
          have c2 := Nat.le_of_ble_eq_true c2
          have c3 := Nat.eq_of_beq_eq_true c3
          subst c3
          obtain ⟨pl, hp, hr⟩ := hm.1 j m0 hj
          simp only [V.rep, W.rep, C.rep] at hx
          obtain ⟨pl', hp', a, n, c, rfl, hn, hnc, ho, hsz, ha⟩ := hx
          rw [hp] at hp'
          injection hp' with hp'
          subst hp'
          have hrow := hr.1
          rw [hk] at hrow
          simp only [Blk.rep] at hrow
          obtain ⟨r1, r2, r3⟩ := hrow
          generalize hLv : takeF fa (mkMul l (.num (.ofNat st))) (mkDrop (mkMul o (.num (.ofNat st))) L) = Lv at h
          have hden : (Lv.den Φ ρ).list = ((L.den Φ ρ).list.drop ((o.den Φ ρ).int.toNat * st)).take ((l.den Φ ρ).int.toNat * st) := by
            rw [← hLv, takeF_ok hf, den_drop, den_mul, den_mul]
            simp only [T.den, D.int_i, Int.ofNat_eq_natCast]
            have e1 : ((l.den Φ ρ).int * (st : Int)).toNat = (l.den Φ ρ).int.toNat * st := by
              obtain ⟨z, hz⟩ := Int.eq_ofNat_of_zero_le (show 0 ≤ (l.den Φ ρ).int by omega)
              rw [hz, ← Int.natCast_mul, Int.toNat_natCast, Int.toNat_natCast]
            have e2 : ((o.den Φ ρ).int * (st : Int)).toNat = (o.den Φ ρ).int.toNat * st := by
              obtain ⟨z, hz⟩ := Int.eq_ofNat_of_zero_le ho
              rw [hz, ← Int.natCast_mul, Int.toNat_natCast, Int.toNat_natCast]
            rw [e1, e2]
          have hosz : (o.den Φ ρ).int.toNat * st ≤ pl.sz := by
            have : (o.den Φ ρ).int.toNat * st ≤ ((o.den Φ ρ).int.toNat + c) * st := Nat.mul_le_mul_right _ (by omega)
            omega
          have hrepm : rowRep w (cut pl ((o.den Φ ρ).int.toNat * st)) ks (Lv.den Φ ρ).list := by
            refine ⟨r1, ?_, fun i z hz => ?_⟩
            · rw [hden, List.length_take, List.length_drop]
              simp only [cut]; omega
            · rw [hden, List.getElem?_take] at hz
              split at hz
              · rw [List.getElem?_drop] at hz
                have := r3 _ z hz
                simp only [cut]
                rw [Nat.add_assoc, this, ← c1, Nat.add_comm, Nat.add_mul_mod_self_right]
              · cases hz
          have hcap : (0 + (0 + c) * st) ≤ pl.sz - (o.den Φ ρ).int.toNat * st := by
            rw [Nat.add_mul] at hsz
            simp only [Nat.zero_add] at hsz ⊢
            omega
          split at h
          · rename_i h1
            injection h with h
            injection h with e1 h
            injection h with e2 h
            injection h with e3 e4
            subst e1 e2 e3 e4
            refine ⟨rfl, ⟨_, _, rfl⟩, pl, hp, ho, hosz, ⟨hrepm, fun h => (by cases h)⟩, ⟨m0, hj⟩, fun β' hβ => ?_⟩
            have hl := hc _ List.mem_cons_self
            rw [den_eq, lenF_ok hf] at hl
            have hl := by simpa using hl
            refine ⟨_, hβ, a, n, c, rfl, ?_, hnc, by simp [T.den], ?_, fun h => ?_⟩
            · simp only [T.den, U1.den, D.int_i]; rw [hn, hl]
            · simp only [T.den, D.int_i, cut, Int.toNat_zero]; exact hcap
            · rw [ha h]
              simp only [T.den, D.int_i, cut, Int.toNat_zero, Nat.zero_mul, Nat.add_zero, Nat.zero_add]
          · injection h with h
            injection h with e1 h
            injection h with e2 h
            injection h with e3 e4
            subst e1 e2 e3 e4
            refine ⟨rfl, ⟨_, _, rfl⟩, pl, hp, ho, hosz, ⟨hrepm, fun h => (by cases h)⟩, ⟨m0, hj⟩, fun β' hβ => ?_⟩
            refine ⟨_, hβ, a, n, c, rfl, hn, hnc, by simp [T.den], ?_, fun h => ?_⟩
            · simp only [T.den, D.int_i, cut, Int.toNat_zero]; exact hcap
            · rw [ha h]
              simp only [T.den, D.int_i, cut, Int.toNat_zero, Nat.zero_mul, Nat.add_zero, Nat.zero_add]
        · cases h
      · cases h
    · cases h
  · cases h
theorem nthV_get : ∀ (l : List Vw) (i : Nat), nthV l i = l[i]?
  | [], i => by simp [nthV]
  | v :: l, 0 => rfl
  | v :: l, i + 1 => by simpa [nthV] using nthV_get l i
/-- All pieces. -/
theorem viewVs_ok {fa : Facts} (hf : fa.hold Φ ρ) {bs pbs : Bs} {β : Map} {w : World} (hm : memRep (T.den Φ ρ) β w (look bs)) : ∀ (nb : Nat) (xs ps : List V) (vals : List Value), repVs (T.den Φ ρ) β xs vals → (∀ t ∈ (viewVs fa bs pbs nb xs ps).ck, (t.den Φ ρ).bool = true) →
    (∀ (i : Nat) (v : Vw), (viewVs fa bs pbs nb xs ps).vw[i]? = some v → ∃ pl, β v.j = some pl ∧ 0 ≤ (v.o.den Φ ρ).int ∧ (v.o.den Φ ρ).int.toNat * v.st ≤ pl.sz ∧ ∃ m0, look bs v.j = some m0) ∧
    (∀ i m, look (viewVs fa bs pbs nb xs ps).bs i = some m → nb ≤ i ∧ m.rw = false ∧ (∃ ks l, m.k = .row ks l) ∧ ∃ v, (viewVs fa bs pbs nb xs ps).vw[i - nb]? = some v ∧ ∃ pl, β v.j = some pl ∧ m.rep (T.den Φ ρ) β w (cut pl ((v.o.den Φ ρ).int.toNat * v.st))) ∧
    (∀ β' : Map, (∀ j pl, j ∈ namesVs xs → β j = some pl → β' j = some pl) → (∀ (i : Nat) (v : Vw) pl, (viewVs fa bs pbs nb xs ps).vw[i]? = some v → β v.j = some pl → β' (nb + i) = some (cut pl ((v.o.den Φ ρ).int.toNat * v.st))) → repVs (T.den Φ ρ) β' (viewVs fa bs pbs nb xs ps).vs vals)
  | nb, [], ps, vals, hv, hc => by
    have e : viewVs fa bs pbs nb [] ps = ⟨[], [], [], []⟩ := by cases ps <;> rfl
    rw [e]
    refine ⟨fun i v h => (by simp at h), fun i m h => (by cases h), fun β' _ _ => ?_⟩
    cases vals with
    | nil => trivial
    | cons _ _ => exact hv.elim
  | nb, x :: xs, [], vals, hv, hc => by
    refine ⟨fun i v h => (by simp [viewVs] at h), fun i m h => (by cases h), fun β' h1 _ => ?_⟩
    have hk : ∀ (vs : List V) (vals : List Value), (∀ j ∈ namesVs vs, ∃ pl, β j = some pl ∧ β' j = some pl) → repVs (T.den Φ ρ) β vs vals → repVs (T.den Φ ρ) β' vs vals := by
      intro vs vals hn hr
      let βm : Map := fun j => if j ∈ namesVs vs then β j else none
      have hle : βm.le β := fun j pl hj => by
        simp only [βm] at hj
        split at hj
        · exact hj
        · cases hj
      have hle' : βm.le β' := fun j pl hj => by
        simp only [βm] at hj
        split at hj
        · rename_i hjn
          obtain ⟨p, e1, e2⟩ := hn j hjn
          rw [e1] at hj
          injection hj with hj
          rw [← hj]; exact e2
        · cases hj
      have hr1 := repVs_back hle (fun j hj => by
        obtain ⟨p, e1, _⟩ := hn j hj
        exact ⟨p, by simp only [βm, if_pos hj]; exact e1⟩) hr
      have up : ∀ {vs : List V} {vals : List Value}, repVs (T.den Φ ρ) βm vs vals → repVs (T.den Φ ρ) β' vs vals := by
        intro vs
        induction vs with
        | nil => intro vals h; cases vals with
          | nil => trivial
          | cons _ _ => exact h.elim
        | cons v vs ih => intro vals h; cases vals with
          | nil => exact h.elim
          | cons y ys => exact ⟨V.rep_le hle' h.1, ih h.2⟩
      exact up hr1
    refine hk _ _ (fun j hj => ?_) hv
    obtain ⟨pl, hp⟩ := repVs_known hv j hj
    exact ⟨pl, hp, h1 j pl hj hp⟩
  | nb, x :: xs, p :: ps, [], hv, hc => hv.elim
  | nb, x :: xs, p :: ps, y :: ys, hv, hc => by
    have one : ∀ (β' : Map), (∀ j pl, j ∈ x.nm → β j = some pl → β' j = some pl) → x.rep (T.den Φ ρ) β' y := by
      intro β' h1
      let βm : Map := fun j => if j ∈ x.nm then β j else none
      have hle : βm.le β := fun j pl hj => by
        simp only [βm] at hj
        split at hj
        · exact hj
        · cases hj
      have hle' : βm.le β' := fun j pl hj => by
        simp only [βm] at hj
        split at hj
        · rename_i hjn; exact h1 j pl hjn hj
        · cases hj
      refine V.rep_le hle' (V.rep_back hle (fun j hj => ?_) hv.1)
      obtain ⟨pl, hp⟩ := V.rep_known hv.1 j hj
      exact ⟨pl, by simp only [βm, if_pos hj]; exact hp⟩
    simp only [viewVs] at hc ⊢
    split at hc
    · rename_i v m vw ck hvo
      have hvo' : viewOf fa bs nb x = some (v, m, vw, ck) := by
        split at hvo
        · exact hvo
        · cases hvo
      simp only at hc ⊢
      obtain ⟨q1, q1b, pl, q2, q3, q4, q5, q6, q7⟩ := viewOf_ok hf hvo' hv.1 hm (fun t ht => hc t (List.mem_append.mpr (.inl ht)))
      obtain ⟨g1, g2, g3⟩ := viewVs_ok hf hm (nb + 1) xs ps ys hv.2 (fun t ht => hc t (List.mem_append.mpr (.inr ht)))
      refine ⟨fun i v' h => ?_, fun i m' h => ?_, fun β' h1 h2 => ⟨?_, ?_⟩⟩
      · cases i with
        | zero => simp only [List.getElem?_cons_zero, Option.some.injEq] at h; subst h; exact ⟨pl, q2, q3, q4, q6⟩
        | succ i => simp only [List.getElem?_cons_succ] at h; exact g1 i v' h
      · simp only [look] at h
        split at h
        · rename_i e
          have e := Nat.eq_of_beq_eq_true e
          subst e
          injection h with h
          subst h
          exact ⟨Nat.le_refl _, q1, q1b, vw, by simp, pl, q2, q5⟩
        · obtain ⟨k1, k2, k2b, v', k3, k4⟩ := g2 i m' h
          refine ⟨by omega, k2, k2b, v', ?_, k4⟩
          rw [show i - nb = (i - (nb + 1)) + 1 from by omega, List.getElem?_cons_succ]; exact k3
      · exact q7 β' (by have := h2 0 vw pl rfl q2; simpa using this)
      · refine g3 β' (fun j pl hj => h1 j pl (by simp only [namesVs, List.mem_append]; exact .inr hj)) (fun i v' pl' hi hp => ?_)
        have := h2 (i + 1) v' pl' (by simpa using hi) hp
        rw [show nb + 1 + i = nb + (i + 1) from by omega]; exact this
    · simp only at hc ⊢
      obtain ⟨g1, g2, g3⟩ := viewVs_ok hf hm nb xs ps ys hv.2 hc
      exact ⟨g1, g2, fun β' h1 h2 => ⟨one β' (fun j pl hj => h1 j pl (by simp only [namesVs, List.mem_append]; exact .inl hj)), g3 β' (fun j pl hj => h1 j pl (by simp only [namesVs, List.mem_append]; exact .inr hj)) h2⟩⟩

/-! Cell by cell. -/
section
variable {f : C → Option C} {E E' : Ev} {β β' : Map} {w : World} (hf : ∀ c x v, f c = some x → c.rep E β v → x.rep E' β' v)
include hf
theorem mapL_rep : ∀ {cs xs : List C} {vs : List Value}, mapL f cs = some xs → repL E β cs vs → repL E' β' xs vs
  | [], xs, [], h, _ => by simp only [mapL, Option.some.injEq] at h; subst h; trivial
  | [], _, _ :: _, _, hr => hr.elim
  | _ :: _, _, [], _, hr => hr.elim
  | c :: cs, xs, v :: vs, h, hr => by
    simp only [mapL] at h
    split at h
    · rename_i y ys h1 h2
      injection h with h
      subst h
      exact ⟨hf _ _ _ h1 hr.1, mapL_rep h2 hr.2⟩
    · cases h
theorem mapW_rep {c x : W} {v : Value} (h : mapW f c = some x) (hr : c.rep E β v) : x.rep E' β' v := by
  cases c with
  | c c =>
    simp only [mapW, Option.map_eq_some_iff] at h
    obtain ⟨y, hy, rfl⟩ := h
    exact hf _ _ _ hy hr
  | g cs =>
    simp only [mapW, Option.map_eq_some_iff] at h
    obtain ⟨y, hy, rfl⟩ := h
    obtain ⟨a, rfl, hr⟩ := hr
    exact ⟨a, rfl, mapL_rep hf hy hr⟩
theorem mapWs_rep : ∀ {cs xs : List W} {vs : List Value}, mapWs f cs = some xs → repWs E β cs vs → repWs E' β' xs vs
  | [], xs, [], h, _ => by simp only [mapWs, Option.some.injEq] at h; subst h; trivial
  | [], _, _ :: _, _, hr => hr.elim
  | _ :: _, _, [], _, hr => hr.elim
  | c :: cs, xs, v :: vs, h, hr => by
    simp only [mapWs] at h
    split at h
    · rename_i y ys h1 h2
      injection h with h
      subst h
      exact ⟨mapW_rep hf h1 hr.1, mapWs_rep h2 hr.2⟩
    · cases h
theorem mapV_rep {c x : V} {v : Value} (h : mapV f c = some x) (hr : c.rep E β v) : x.rep E' β' v := by
  cases c with
  | w c =>
    simp only [mapV, Option.map_eq_some_iff] at h
    obtain ⟨y, hy, rfl⟩ := h
    exact mapW_rep hf hy hr
  | t cs =>
    simp only [mapV, Option.map_eq_some_iff] at h
    obtain ⟨y, hy, rfl⟩ := h
    obtain ⟨a, rfl, hr⟩ := hr
    exact ⟨a, rfl, mapWs_rep hf hy hr⟩
  | u => simp only [mapV, Option.some.injEq] at h; subst h; trivial
omit hf in
theorem mapL_get : ∀ {cs xs : List C}, mapL f cs = some xs → cs.length = xs.length ∧ ∀ (i : Nat) (x : C), xs[i]? = some x → ∃ c, cs[i]? = some c ∧ f c = some x
  | [], xs, h => by simp only [mapL, Option.some.injEq] at h; subst h; exact ⟨rfl, fun i x h => by simp at h⟩
  | c :: cs, xs, h => by
    simp only [mapL] at h
    split at h
    · rename_i y ys h1 h2
      injection h with h
      subst h
      obtain ⟨g1, g2⟩ := mapL_get h2
      refine ⟨by simp [g1], fun i x hx => ?_⟩
      cases i with
      | zero => simp only [List.getElem?_cons_zero, Option.some.injEq] at hx; subst hx; exact ⟨c, rfl, h1⟩
      | succ i => simp only [List.getElem?_cons_succ] at hx ⊢; exact g2 i x hx
    · cases h
end
theorem mapB_rep {f : C → Option C} {E : Ev} {β β' : Map} {w : World} (hf : ∀ c x v, f c = some x → c.rep E β v → x.rep E β' v) {k x : Blk} {pl : Place} (h : mapB f k = some x) (hr : k.rep E β w pl) : x.rep E β' w pl := by
  cases k with
  | cells cs =>
    simp only [mapB, Option.map_eq_some_iff] at h
    obtain ⟨y, hy, rfl⟩ := h
    obtain ⟨g1, g2⟩ := mapL_get hy
    refine ⟨by rw [← g1]; exact hr.1, fun i x hx => ?_⟩
    obtain ⟨c, hc, hrc⟩ := g2 i x hx
    obtain ⟨v, hv, hrv⟩ := hr.2 i c hc
    exact ⟨v, hv, hf _ _ _ hrc hrv⟩
  | row ks l => simp only [mapB, Option.some.injEq] at h; subst h; exact hr
theorem mapE_spec {f : C → Option C} : ∀ {e r : List (Nat × Option MB)}, mapE f e = some r → ∀ j, hasK r j = hasK e j ∧ (lookM r j = none ↔ lookM e j = none) ∧ ∀ m', lookM r j = some m' → ∃ m, lookM e j = some m ∧ m'.rw = m.rw ∧ mapB f m.k = some m'.k
  | [], r, h, j => by
    simp only [mapE, Option.some.injEq] at h
    subst h
    exact ⟨rfl, Iff.rfl, fun m h => (by cases h)⟩
  | (k, none) :: e, r, h, j => by
    simp only [mapE, Option.map_eq_some_iff] at h
    obtain ⟨r', h1, rfl⟩ := h
    obtain ⟨g1, g2, g3⟩ := mapE_spec h1 j
    simp only [hasK, lookM, g1]
    refine ⟨trivial, ?_, ?_⟩
    · split
      · exact Iff.rfl
      · exact g2
    · split
      · exact fun m h => by cases h
      · exact g3
  | (k, some m) :: e, r, h, j => by
    simp only [mapE] at h
    split at h
    · rename_i k' r' h1 h2
      injection h with h
      subst h
      obtain ⟨g1, g2, g3⟩ := mapE_spec h2 j
      simp only [hasK, lookM, g1]
      refine ⟨trivial, ?_, ?_⟩
      · split
        · exact ⟨fun h => (by cases h), fun h => (by cases h)⟩
        · exact g2
      · split
        · intro m2 hm
          injection hm with hm
          subst hm
          exact ⟨m, rfl, rfl, h1⟩
        · exact g3
    · cases h
theorem calm_look {vw : List Vw} : ∀ (bs : Bs) (j : Nat), (∀ m, look (calm vw bs) j = some m → ∃ m0, look bs j = some m0 ∧ m.k = m0.k ∧ (m.rw = true → m0 = m ∧ seenBy j vw = false)) ∧ (look bs j = none → look (calm vw bs) j = none) ∧ (∀ m0, look bs j = some m0 → ∃ m, look (calm vw bs) j = some m)
  | [], j => ⟨fun m h => (by cases h), fun _ => rfl, fun m h => (by cases h)⟩
  | (k, x) :: bs, j => by
    obtain ⟨h1, h2, h3⟩ := calm_look (vw := vw) bs j
    simp only [calm, look]
    by_cases e : Nat.beq k j = true
    · rw [if_pos e, if_pos e]
      have e := Nat.eq_of_beq_eq_true e
      subst e
      refine ⟨fun m h => ?_, fun h => (by cases h), fun m _ => ⟨_, rfl⟩⟩
      injection h with h
      subst h
      refine ⟨x, rfl, ?_, ?_⟩
      · split <;> rfl
      · split
        · intro h; cases h
        · rename_i hs; exact fun _ => ⟨rfl, by simpa using hs⟩
    · rw [if_neg e, if_neg e]
      exact ⟨h1, h2, h3⟩
theorem seenBy_mem : ∀ {vw : List Vw} {j : Nat}, seenBy j vw = false → ∀ (i : Nat) (v : Vw), vw[i]? = some v → v.j ≠ j
  | v0 :: vw, j, h, i, v, hi => by
    simp only [seenBy, Bool.or_eq_false_iff] at h
    cases i with
    | zero =>
      simp only [List.getElem?_cons_zero, Option.some.injEq] at hi
      subst hi
      intro e
      rw [e, Nat.beq_refl] at h
      cases h.1
    | succ i => simp only [List.getElem?_cons_succ] at hi; exact seenBy_mem h.2 i v hi
theorem look_app {α : Type} {l m : List (Nat × α)} {t : Nat} {x : α} (h : look (l ++ m) t = some x) : look l t = some x ∨ (look l t = none ∧ look m t = some x) := by
  rw [look_append] at h
  cases hl : look l t with
  | some y => rw [hl] at h; exact .inl h
  | none => rw [hl] at h; exact .inr ⟨rfl, h⟩

theorem view_ok {f : FuncId} {t : Tmpl} {c : Con} (hcon : ConOk P Φ f c) : ConOk P Φ f (viewCon t c) := by
  intro ρ fa hfa vs bs nb res hres args β w hargs hb hm hfree
  unfold viewCon at hres
  simp only at hres
  split at hres
  case isFalse => cases hres
  rename_i hck
  simp only [Bool.and_eq_true] at hck
  obtain ⟨c1, c2, c3⟩ := hck
  obtain ⟨hcks, hres⟩ := chkAll_some hres
  obtain ⟨res0, h1, h2⟩ := O.bind_some hres
  split at h2
  case h_2 => cases h2
  rename_i v e hv he
  simp only [O.val] at h2
  injection h2 with h2
  subst h2
  obtain ⟨g1, g2, g3⟩ := viewVs_ok hfa (pbs := t.bs) hm nb vs t.vs args hargs hcks
  generalize viewVs fa bs t.bs nb vs t.vs = r at *
  rw [lenN_eq] at h1
  -- the map with the pieces
  let βs : Map := fun j => if j < nb then β j else match r.vw[j - nb]? with
    | some v => (β v.j).map fun pl => cut pl ((v.o.den Φ ρ).int.toNat * v.st)
    | none => none
  have bLo : ∀ j, j < nb → βs j = β j := fun j hj => by simp only [βs, if_pos hj]
  have bVw : ∀ (i : Nat) (v : Vw) pl, r.vw[i]? = some v → β v.j = some pl → βs (nb + i) = some (cut pl ((v.o.den Φ ρ).int.toNat * v.st)) := fun i v pl hi hp => by
    simp only [βs, if_neg (show ¬ nb + i < nb from by omega), Nat.add_sub_cancel_left, hi, hp, Option.map_some]
  have bHi : ∀ j, nb + r.vw.length ≤ j → βs j = none := fun j hj => by
    simp only [βs, if_neg (show ¬ j < nb from by omega)]
    rw [List.getElem?_eq_none (by omega)]
  have bInv : ∀ j pl, nb ≤ j → βs j = some pl → ∃ v p0, r.vw[j - nb]? = some v ∧ β v.j = some p0 ∧ pl = cut p0 ((v.o.den Φ ρ).int.toNat * v.st) := by
    intro j pl hj hp
    simp only [βs, if_neg (show ¬ j < nb from by omega)] at hp
    split at hp
    · rename_i v hvj
      simp only [Option.map_eq_some_iff] at hp
      obtain ⟨p0, hp0, e⟩ := hp
      exact ⟨v, p0, hvj, hp0, e.symm⟩
    · cases hp
  have knownLo : ∀ j, j < nb → ∀ pl, β j = some pl → βs j = some pl := fun j hj pl hp => by rw [bLo j hj]; exact hp
  have hargs' := g3 βs (fun j pl hj hp => knownLo j (allLow_mem c1 j hj) pl hp) bVw
  have hb' : inHeap βs w := by
    intro j pl hj hs
    rcases Nat.lt_or_ge j nb with hl | hl
    · rw [bLo j hl] at hj; exact hb j pl hj hs
    · obtain ⟨v, p0, e1, e2, e3⟩ := bInv j pl hl hj
      subst e3
      exact hb v.j p0 e2 (by simp only [cut] at hs; omega)
  let βr : Map := fun j => if j < nb then β j else none
  have rle : βr.le β := fun j pl hj => by
    simp only [βr] at hj
    split at hj
    · exact hj
    · cases hj
  have rles : βr.le βs := fun j pl hj => by
    simp only [βr] at hj
    split at hj
    · rename_i hl; rw [bLo j hl]; exact hj
    · cases hj
  have blk : ∀ j m, look bs j = some m → ∀ pl, m.rep (T.den Φ ρ) β w pl → m.k.rep (T.den Φ ρ) βs w pl := by
    intro j m hj pl hr
    refine Blk.rep_le rles (Blk.rep_back rle (fun i hi => ?_) hr.1)
    obtain ⟨p, hp⟩ := Blk.rep_known hr.1 i hi
    exact ⟨p, by simp only [βr]; rw [if_pos (allLow_mem c3 i (namesBs_mem hj i hi))]; exact hp⟩
  have lowC : ∀ j m, look (calm r.vw bs) j = some m → j < nb := fun j m h => by
    obtain ⟨m0, h0, _⟩ := (calm_look bs j).1 m h
    exact keysLow_has c2 h0
  have hm' : memRep (T.den Φ ρ) βs w (look (calm r.vw bs ++ r.bs)) := by
    have one : ∀ j m, look (calm r.vw bs ++ r.bs) j = some m → ∃ pl, βs j = some pl ∧ m.rep (T.den Φ ρ) βs w pl := by
      intro j m hj
      rcases look_app hj with h | ⟨_, h⟩
      · obtain ⟨m0, h0, hk, hrw⟩ := (calm_look bs j).1 m h
        obtain ⟨pl, hp, hr⟩ := hm.1 j m0 h0
        refine ⟨pl, knownLo j (keysLow_has c2 h0) pl hp, by rw [hk]; exact blk j m0 h0 pl hr, fun e => ?_⟩
        obtain ⟨e1, _⟩ := hrw e
        exact hr.2 (by rw [e1]; exact e)
      · obtain ⟨k1, k2, ⟨ks, l, hk⟩, v, k3, pl, k4, k5⟩ := g2 j m h
        have := bVw (j - nb) v pl k3 k4
        rw [show nb + (j - nb) = j from by omega] at this
        refine ⟨_, this, ?_, fun e => (by rw [k2] at e; cases e)⟩
        have := k5.1
        rw [hk] at this ⊢
        exact this
    refine ⟨one, fun j j' m m' pl pl' hne hj hj' hrw hp hp' hs hs' => ?_⟩
    rcases look_app hj with h | ⟨_, h⟩
    · obtain ⟨m0, h0, _, hr0⟩ := (calm_look bs j).1 m h
      obtain ⟨e0, hseen⟩ := hr0 hrw
      subst e0
      have hjl := keysLow_has c2 h0
      rw [bLo j hjl] at hp
      rcases look_app hj' with h' | ⟨_, h'⟩
      · obtain ⟨m1, h1', _⟩ := (calm_look bs j').1 m' h'
        rw [bLo j' (keysLow_has c2 h1')] at hp'
        exact hm.2 j j' m0 m1 pl pl' hne h0 h1' hrw hp hp' hs hs'
      · obtain ⟨k1, _, _, v, k3, p0, k4, _⟩ := g2 j' m' h'
        have e := bVw (j' - nb) v p0 k3 k4
        rw [show nb + (j' - nb) = j' from by omega, hp'] at e
        injection e with e
        subst e
        obtain ⟨_, _, _, _, m2, hm2⟩ := g1 _ v k3
        exact hm.2 j v.j m0 m2 pl p0 (fun e => seenBy_mem hseen _ v k3 e.symm) h0 hm2 hrw hp k4 hs (by simp only [cut] at hs'; omega)
    · obtain ⟨_, k2, _⟩ := g2 j m h
      rw [k2] at hrw; cases hrw
  have hfree' : ∀ j, isNew (nb + r.vw.length) res0.nb j → βs j = none := fun j hj => bHi j hj.1
  refine Calls.mono (hcon ρ fa hfa _ _ _ _ h1 args βs w hargs' hb' hm' hfree') ?_
  rintro e' w' ⟨x, β', rfl, hx, st⟩
  have hge := st.ge
  let β2 : Map := fun j => if nb ≤ j ∧ j < res0.nb then (if j < nb + r.vw.length then none else β' j) else β j
  have bnew : ∀ j, isNew nb res0.nb j → β2 j = if j < nb + r.vw.length then none else β' j := fun j hj => if_pos (c := nb ≤ j ∧ j < res0.nb) hj
  have bold : ∀ j, ¬ isNew nb res0.nb j → β2 j = β j := fun j hj => if_neg (c := nb ≤ j ∧ j < res0.nb) hj
  have b2le : β.le β2 := fun j pl hj => by
    rw [bold j (fun hn => by rw [hfree j hn] at hj; cases hj)]; exact hj
  have oldP : ∀ j, ¬ isNew (nb + r.vw.length) res0.nb j → β' j = βs j := st.old
  have up : ∀ j pl, ¬ (nb ≤ j ∧ j < nb + r.vw.length) → β' j = some pl → β2 j = some pl := by
    intro j pl hnv hp
    rcases Nat.lt_or_ge j nb with hl | hl
    · rw [oldP j (fun hn => by unfold isNew at hn; omega), bLo j hl] at hp
      exact b2le j pl hp
    · have hn : isNew nb res0.nb j := by
        refine ⟨hl, ?_⟩
        rcases Nat.lt_or_ge j res0.nb with h | h
        · exact h
        · rw [oldP j (fun hn => by unfold isNew at hn; omega), bHi j (by omega)] at hp; cases hp
      rw [bnew j hn, if_neg (by omega)]; exact hp
  have cell : ∀ c x v, unC nb r.vw c = some x → c.rep (T.den Φ ρ) β' v → x.rep (T.den Φ ρ) β2 v := by
    intro c x v hun hr
    unfold unC at hun
    split at hun
    · rename_i i st' r' o l
      split at hun
      · rename_i hin
        simp only [Bool.and_eq_true] at hin
        have hin1 := Nat.le_of_ble_eq_true hin.1
        have hin2 := Nat.le_of_ble_eq_true hin.2
        rw [lenN_eq] at hin2
        split at hun
        · rename_i vw hvw
          rw [nthV_get] at hvw
          split at hun
          · rename_i hst
            simp only [Bool.and_eq_true] at hst
            have e1 := Nat.eq_of_beq_eq_true hst.1
            have e2 := Nat.eq_of_beq_eq_true hst.2
            injection hun with hun
            subst hun e2
            obtain ⟨p0, k1, k2, k3, _⟩ := g1 _ vw hvw
            obtain ⟨pl, hp, a, n, cc, rfl, hn, hnc, ho, hsz, ha⟩ := hr
            rw [oldP i (fun hn => by unfold isNew at hn; omega)] at hp
            have e := bVw (i - nb) vw p0 hvw k1
            rw [show nb + (i - nb) = i from by omega, hp] at e
            injection e with e
            subst e
            simp only [cut, Nat.zero_add] at hsz ha
            rw [e1] at k3 hsz ha
            have et : ((vw.o.den Φ ρ).int + (o.den Φ ρ).int).toNat = (vw.o.den Φ ρ).int.toNat + (o.den Φ ρ).int.toNat := by omega
            refine ⟨p0, b2le _ _ k1, a, n, cc, rfl, hn, hnc, ?_, ?_, fun h => ?_⟩
            · rw [den_add]; omega
            · rw [den_add, et, Nat.zero_add, Nat.add_assoc, Nat.add_mul]
              omega
            · rw [ha h, den_add, et, Nat.add_mul, Nat.zero_add, Nat.add_assoc]
          · cases hun
        · cases hun
      · rename_i hin
        injection hun with hun
        subst hun
        obtain ⟨pl, hp, rest⟩ := hr
        exact ⟨pl, up i pl (fun hc => hin (by simp only [Bool.and_eq_true, lenN_eq]; exact ⟨Nat.ble_eq.mpr hc.1, Nat.ble_eq.mpr hc.2⟩)) hp, rest⟩
    · rename_i i e st' r'
      split at hun
      · cases hun
      · rename_i hin
        injection hun with hun
        subst hun
        obtain ⟨pl, hp, rest⟩ := hr
        exact ⟨pl, up i pl (fun hc => hin (by simp only [Bool.and_eq_true, lenN_eq]; exact ⟨Nat.ble_eq.mpr hc.1, Nat.ble_eq.mpr hc.2⟩)) hp, rest⟩
    · rename_i h1 h2
      injection hun with hun
      subst hun
      cases c with
      | p j e st' r' => exact absurd rfl (h2 j e st' r')
      | s j st' r' o l => exact absurd rfl (h1 j st' r' o l)
      | _ => exact hr
  have spec := mapE_spec he
  have keyOld : ∀ j, hasK e j = true → ¬ isNew nb res0.nb j → ¬ isNew (nb + r.vw.length) res0.nb j := fun j _ hn hn' => hn ⟨by have := hn'.1; omega, hn'.2⟩
  -- a written block is none of the pieces
  have wrOld : ∀ j, hasK res0.eff j = true → ¬ isNew (nb + r.vw.length) res0.nb j → j < nb ∧ ∃ m, look bs j = some m ∧ m.rw = true := by
    intro j hj hn
    obtain ⟨m, hm0, hrw⟩ := st.wr j hj hn
    rcases look_app hm0 with h | ⟨_, h⟩
    · obtain ⟨m0, h0, _, hr0⟩ := (calm_look bs j).1 m h
      obtain ⟨e0, _⟩ := hr0 hrw
      subst e0
      exact ⟨keysLow_has c2 h0, m0, h0, hrw⟩
    · obtain ⟨_, k2, _⟩ := g2 j m h
      rw [k2] at hrw; cases hrw
  refine ⟨x, β2, rfl, mapV_rep cell hv hx, ?_⟩
  refine ⟨by show nb ≤ res0.nb; omega, b2le, bold, st.os, st.tape, st.output, st.size, fun b hbs hk => ?_, fun j m hj => ?_, fun j hj hn => ?_, fun j pl hn hj hs => ?_, fun j k m m' pl pl' hne hn hn' hj hk hrw hp hp' hs hs' => ?_⟩
  · refine st.kept b hbs (fun j pl hj hn hp hs => ?_)
    obtain ⟨hl, _⟩ := wrOld j hj hn
    rw [bLo j hl] at hp
    exact hk j pl (by rw [(spec j).1]; exact hj) (fun hn' => by have := hn'.1; omega) hp hs
  · obtain ⟨m0, h0, hrw, hkk⟩ := (spec j).2.2 m hj
    obtain ⟨pl, hp, hr⟩ := st.mem j m0 h0
    have hkj : hasK res0.eff j = true := by
      cases h : hasK res0.eff j with
      | true => rfl
      | false => rw [lookM_none h] at h0; cases h0
    have hnv : ¬ (nb ≤ j ∧ j < nb + r.vw.length) := fun hc => by
      have := (wrOld j hkj (fun hn => by unfold isNew at hn; omega)).1
      omega
    exact ⟨pl, up j pl hnv hp, mapB_rep cell hkk hr.1, fun e => hr.2 (by rw [← hrw]; exact e)⟩
  · obtain ⟨_, m, h1, h2⟩ := wrOld j (by rw [← (spec j).1]; exact hj) (keyOld j hj hn)
    exact ⟨m, h1, h2⟩
  · rw [bnew j hn] at hj
    split at hj
    · cases hj
    · rename_i hge'
      obtain ⟨q1, q2⟩ := st.new j pl ⟨by omega, hn.2⟩ hj hs
      refine ⟨q1, q2.imp id ?_⟩
      rintro ⟨k, pk, a1, a2, a3, a4, a5, a6⟩
      obtain ⟨hl, _⟩ := wrOld k a1 a3
      rw [bLo k hl] at a4
      exact ⟨k, pk, by rw [(spec k).1]; exact a1, (spec k).2.1.mpr a2, fun hn => by have := hn.1; omega, a4, a5, a6⟩
  · rw [bnew j hn] at hp
    rw [bnew k hn'] at hp'
    split at hp
    · cases hp
    · split at hp'
      · cases hp'
      · obtain ⟨a, ha, har, _⟩ := (spec j).2.2 m hj
        obtain ⟨b, hb2, _⟩ := (spec k).2.2 m' hk
        exact st.excl j k a b pl pl' hne ⟨by omega, hn.2⟩ ⟨by omega, hn'.2⟩ ha hb2 (by rw [← har]; exact hrw) hp hp' hs hs'
theorem con_ok {f : FuncId} {t : Tmpl} (ht : TmplOk P Φ f t) : ConOk P Φ f t.con := view_ok (con0_ok ht)
end
end Go.Proofs.Ytlgiibchnnaceaa.Sx
