/- Sx, part 22: a contract from a function's tree. Conditions: none. -/
import Derived.Test.YtlgiibchnnaceaaSxM
set_option linter.unusedVariables false
set_option linter.unusedSimpArgs false
namespace Go.Proofs.Ytlgiibchnnaceaa.Sx
open Go Go.RowKit

/-! Two values by terms that stand for the same. -/
def eqC (E E' : Ev) : C → C → Prop
  | .i k t, .i k' t' => k = k' ∧ (E t).int = (E' t').int
  | .b t, .b t' => (E t).bool = (E' t').bool
  | .p j e st r, .p j' e' st' r' => j = j' ∧ st = st' ∧ r = r' ∧ (E e).int = (E' e').int
  | .s j st r o l, .s j' st' r' o' l' => j = j' ∧ st = st' ∧ r = r' ∧ (E o).int = (E' o').int ∧ (E l).int = (E' l').int
  | .pn, .pn => True
  | .sn, .sn => True
  | .sn, .sz => True
  | .sz, .sz => True
  | .fn f, .fn g => f = g
  | .nf, .nf => True
  | _, _ => False
def eqL (E E' : Ev) : List C → List C → Prop
  | [], [] => True
  | x :: xs, y :: ys => eqC E E' x y ∧ eqL E E' xs ys
  | _, _ => False
def eqW (E E' : Ev) : W → W → Prop
  | .c x, .c y => eqC E E' x y
  | .g xs, .g ys => eqL E E' xs ys
  | _, _ => False
def eqWs (E E' : Ev) : List W → List W → Prop
  | [], [] => True
  | x :: xs, y :: ys => eqW E E' x y ∧ eqWs E E' xs ys
  | _, _ => False
def eqV (E E' : Ev) : V → V → Prop
  | .w x, .w y => eqW E E' x y
  | .t xs, .t ys => eqWs E E' xs ys
  | _, .u => True
  | _, _ => False
def eqB (E E' : Ev) : Blk → Blk → Prop
  | .cells xs, .cells ys => eqL E E' xs ys
  | .row ks l, .row ks' l' => ks = ks' ∧ (E l).list = (E' l').list
  | _, _ => False
def eqE (E E' : Ev) : List (Nat × Option MB) → List (Nat × Option MB) → Prop
  | [], [] => True
  | (j, none) :: r, (j', none) :: r' => j = j' ∧ eqE E E' r r'
  | (j, some m) :: r, (j', some m') :: r' => j = j' ∧ m.rw = m'.rw ∧ eqB E E' m.k m'.k ∧ eqE E E' r r'
  | _, _ => False
section
variable {E E' : Ev} {β : Map} {w : World}
theorem eqC_rep {x y : C} {v : Value} (h : eqC E E' x y) (hr : x.rep E β v) : y.rep E' β v := by
  unfold eqC at h
  split at h <;> simp only [C.rep] at hr ⊢
  · rw [← h.1, ← h.2]; exact hr
  · rw [← h]; exact hr
  · obtain ⟨rfl, rfl, rfl, h⟩ := h; rw [← h]; exact hr
  · obtain ⟨rfl, rfl, rfl, h1, h2⟩ := h; rw [← h1, ← h2]; exact hr
  · exact hr
  · exact hr
  · exact ⟨_, hr⟩
  · exact hr
  · rw [← h]; exact hr
  · exact hr
  · exact h.elim
theorem eqL_rep : ∀ {xs ys : List C} {vs : List Value}, eqL E E' xs ys → repL E β xs vs → repL E' β ys vs
  | [], [], [], _, _ => trivial
  | [], [], _ :: _, _, hr => hr.elim
  | [], _ :: _, _, h, _ => h.elim
  | _ :: _, [], _, h, _ => h.elim
  | _ :: _, _ :: _, [], _, hr => hr.elim
  | x :: xs, y :: ys, v :: vs, h, hr => ⟨eqC_rep h.1 hr.1, eqL_rep h.2 hr.2⟩
theorem eqW_rep {x y : W} {v : Value} (h : eqW E E' x y) (hr : x.rep E β v) : y.rep E' β v := by
  unfold eqW at h
  split at h
  · exact eqC_rep h hr
  · obtain ⟨cs, rfl, hr⟩ := hr; exact ⟨cs, rfl, eqL_rep h hr⟩
  · exact h.elim
theorem eqWs_rep : ∀ {xs ys : List W} {vs : List Value}, eqWs E E' xs ys → repWs E β xs vs → repWs E' β ys vs
  | [], [], [], _, _ => trivial
  | [], [], _ :: _, _, hr => hr.elim
  | [], _ :: _, _, h, _ => h.elim
  | _ :: _, [], _, h, _ => h.elim
  | _ :: _, _ :: _, [], _, hr => hr.elim
  | x :: xs, y :: ys, v :: vs, h, hr => ⟨eqW_rep h.1 hr.1, eqWs_rep h.2 hr.2⟩
theorem eqV_rep {x y : V} {v : Value} (h : eqV E E' x y) (hr : x.rep E β v) : y.rep E' β v := by
  unfold eqV at h
  split at h
  · exact eqW_rep h hr
  · obtain ⟨cs, rfl, hr⟩ := hr; exact ⟨cs, rfl, eqWs_rep h hr⟩
  · trivial
  · exact h.elim
theorem eqL_get : ∀ {xs ys : List C}, eqL E E' xs ys → xs.length = ys.length ∧ ∀ (i : Nat) (y : C), ys[i]? = some y → ∃ x, xs[i]? = some x ∧ eqC E E' x y
  | [], [], _ => ⟨rfl, fun i y h => by simp at h⟩
  | [], _ :: _, h => h.elim
  | _ :: _, [], h => h.elim
  | x :: xs, y :: ys, h => by
    obtain ⟨h1, h2⟩ := eqL_get h.2
    refine ⟨by simp [h1], fun i z hz => ?_⟩
    cases i with
    | zero => simp only [List.getElem?_cons_zero, Option.some.injEq] at hz; subst hz; exact ⟨x, rfl, h.1⟩
    | succ i => simp only [List.getElem?_cons_succ] at hz ⊢; exact h2 i z hz
theorem eqB_rep {x y : Blk} {pl : Place} (h : eqB E E' x y) (hr : x.rep E β w pl) : y.rep E' β w pl := by
  unfold eqB at h
  split at h
  · obtain ⟨h1, h2⟩ := eqL_get h
    refine ⟨by rw [← h1]; exact hr.1, fun i y hy => ?_⟩
    obtain ⟨x, hx, he⟩ := h2 i y hy
    obtain ⟨v, hv, hrv⟩ := hr.2 i x hx
    exact ⟨v, hv, eqC_rep he hrv⟩
  · simp only [Blk.rep] at hr ⊢
    rw [← h.1, ← h.2]; exact hr
  · exact h.elim
theorem eqE_spec : ∀ {e e' : List (Nat × Option MB)}, eqE E E' e e' → ∀ j, hasK e' j = hasK e j ∧ (lookM e' j = none ↔ lookM e j = none) ∧ ∀ m', lookM e' j = some m' → ∃ m, lookM e j = some m ∧ m.rw = m'.rw ∧ eqB E E' m.k m'.k
  | [], [], _, j => ⟨rfl, Iff.rfl, fun m h => by cases h⟩
  | [], _ :: _, h, _ => by simp [eqE] at h
  | _ :: _, [], h, _ => by simp [eqE] at h
  | (k, none) :: e, (k', none) :: e', h, j => by
    simp only [eqE] at h
    obtain ⟨rfl, h⟩ := h
    obtain ⟨h1, h2, h3⟩ := eqE_spec h j
    refine ⟨by simp only [hasK, h1], ?_, ?_⟩ <;> simp only [lookM]
    · split
      · exact Iff.rfl
      · exact h2
    · split
      · exact fun m h => by cases h
      · exact h3
  | (k, some m) :: e, (k', some m') :: e', h, j => by
    simp only [eqE] at h
    obtain ⟨rfl, hrw, hb, h⟩ := h
    obtain ⟨h1, h2, h3⟩ := eqE_spec h j
    refine ⟨by simp only [hasK, h1], ?_, ?_⟩ <;> simp only [lookM]
    · split
      · exact ⟨fun h => (by cases h), fun h => (by cases h)⟩
      · exact h2
    · split
      · intro m2 hm
        injection hm with hm
        subst hm
        exact ⟨m, rfl, hrw, hb⟩
      · exact h3
  | (_, none) :: _, (_, some _) :: _, h, _ => by simp [eqE] at h
  | (_, some _) :: _, (_, none) :: _, h, _ => by simp [eqE] at h
theorem StepR.same {bs : Nat → Option MB} {β β' : Map} {w w' : World} {nb nb' : Nat} {eff eff' : List (Nat × Option MB)} (h : StepR E bs β w nb eff nb' β' w') (he : eqE E E' eff eff') : StepR E' bs β w nb eff' nb' β' w' := by
  have hs := eqE_spec he
  refine ⟨h.ge, h.le, h.old, h.os, h.tape, h.output, h.size, fun b hb hk => h.kept b hb (fun j pl hj => hk j pl (by rw [(hs j).1]; exact hj)), fun j m hj => ?_, fun j hj => h.wr j (by rw [← (hs j).1]; exact hj), fun j pl hn hj hp => ?_, fun j k m m' pl pl' hne hn hn' hj hk hrw => ?_⟩
  · obtain ⟨m0, h1, h2, h3⟩ := (hs j).2.2 m hj
    obtain ⟨pl, hp, hr⟩ := h.mem j m0 h1
    exact ⟨pl, hp, eqB_rep h3 hr.1, fun e => hr.2 (by rw [h2]; exact e)⟩
  · obtain ⟨h1, h2⟩ := h.new j pl hn hj hp
    refine ⟨h1, h2.imp id ?_⟩
    rintro ⟨k, pk, a1, a2, a3⟩
    exact ⟨k, pk, by rw [(hs k).1]; exact a1, (hs k).2.1.mpr a2, a3⟩
  · obtain ⟨a, h1, h2, _⟩ := (hs j).2.2 m hj
    obtain ⟨b, h3, _⟩ := (hs k).2.2 m' hk
    exact h.excl j k a b pl pl' hne hn hn' h1 h3 (by rw [h2]; exact hrw)
end
/-- What a contract asks first. -/
def preF : O Res → Facts
  | .chk t x => addF t true (preF x)
  | _ => []
theorem preF_ok {Φ : Sig} {ρ : Env} {res : Res} : ∀ {o : O Res}, o.val (T.den Φ ρ) = some res → (preF o).hold Φ ρ
  | .ret _, _ => fun t p hm => by cases hm
  | .split .., _ => fun t p hm => by cases hm
  | .fail _, _ => fun t p hm => by cases hm
  | .chk t x, h => by
    simp only [O.val] at h
    split at h
    · rename_i hc; exact addF_ok hc (preF_ok h)
    · cases h
def Leaf (Φ : Sig) (ρ ρ' : Env) (res : Res) (r : V × St) : Prop :=
  eqV (T.den Φ ρ') (T.den Φ ρ) r.1 res.val ∧ eqE (T.den Φ ρ') (T.den Φ ρ) r.2.me res.eff ∧ r.2.nb ≤ res.nb
theorem StepR.grow {E : Ev} {bs : Nat → Option MB} {β β' : Map} {w w' : World} {nb nb' nb'' : Nat} {eff : List (Nat × Option MB)} (h : StepR E bs β w nb eff nb' β' w') (hf : ∀ j, nb ≤ j → β j = none) (hf' : ∀ j, nb' ≤ j → β' j = none) (hle : nb' ≤ nb'') : StepR E bs β w nb eff nb'' β' w' := by
  have big : ∀ j, ¬ isNew nb nb'' j → ¬ isNew nb nb' j := fun j hn hn' => hn ⟨hn'.1, by have := hn'.2; omega⟩
  have lows : ∀ j pl, ¬ isNew nb nb' j → β j = some pl → ¬ isNew nb nb'' j := fun j pl hn hp hn' => by rw [hf j hn'.1] at hp; cases hp
  have live : ∀ j pl, isNew nb nb'' j → β' j = some pl → isNew nb nb' j := fun j pl hn hp => ⟨hn.1, by
    rcases Nat.lt_or_ge j nb' with h | h
    · exact h
    · rw [hf' j h] at hp; cases hp⟩
  refine ⟨Nat.le_trans h.ge hle, h.le, fun j hn => h.old j (big j hn), h.os, h.tape, h.output, h.size, fun b hb hk => h.kept b hb (fun j pl hj hn hp => hk j pl hj (lows j pl hn hp) hp), h.mem, fun j hj hn => h.wr j hj (big j hn), fun j pl hn hj hs => ?_, fun j k m m' pl pl' hne hn hn' hj hk hrw hp hp' => h.excl j k m m' pl pl' hne (live j pl hn hp) (live k pl' hn' hp') hj hk hrw hp hp'⟩
  obtain ⟨h1, h2⟩ := h.new j pl (live j pl hn hj) hj hs
  refine ⟨h1, h2.imp id ?_⟩
  rintro ⟨k, pk, a1, a2, a3, a4, a5⟩
  exact ⟨k, pk, a1, a2, lows k pk a3 a4, a4, a5⟩
theorem tmpl_of {P : Program} {Φ : Sig} {A : Anns} {cons : List (Nat × Con)} {d : Nat} {f : FuncId} {t : Tmpl} {tree : M (V × St)} (hcons : ConsOk P Φ cons) (hev : funTree (ctxN P A cons d) A f t.vs t.bs t.n (preF t.res) = tree)
    (h : ∀ ρ res, t.res.val (T.den Φ ρ) = some res → ∃ J, tree.ok Φ J (fun _ _ => False) ρ (fun _ ρ' r => Leaf Φ ρ ρ' res r)) : TmplOk P Φ f t := by
  intro ρ res hres args β w hargs hb hm hfree
  obtain ⟨J, hok⟩ := h ρ res hres
  rw [← hev] at hok
  have hX : CallOk (ctxN P A cons d).P Φ (ctxN P A cons d).call := by rw [ctxN_P]; exact ctxN_ok hcons d
  have hc := fun_sound hX (M.ok_bind hok) (preF_ok hres) hargs hb hm hfree
  rw [ctxN_P] at hc
  refine Calls.mono hc ?_
  rintro e w' ⟨x, v, B', ρ', S', β', rfl, ⟨k1, k2, k3⟩, hv, hd, _⟩
  have st := (hd.step (v := v) hfree).same k2
  refine ⟨x, β', rfl, eqV_rep k1 hv, ?_⟩
  exact st.grow hfree hd.free k3
end Go.Proofs.Ytlgiibchnnaceaa.Sx
