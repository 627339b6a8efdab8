/- Sx, part 16: terms for variables, names for names: what stands for what. Conditions: none. -/
import Derived.Test.YtlgiibchnnaceaaSxC
import Derived.Test.YtlgiibchnnaceaaSxX
set_option linter.unusedVariables false
set_option linter.unusedSimpArgs false
namespace Go.Proofs.Ytlgiibchnnaceaa.Sx
open Go Go.RowKit

def nthD : List D → Nat → D
  | [], _ => .l []
  | d :: _, 0 => d
  | _ :: l, i + 1 => nthD l i
/-- New values for the variables b, b + 1, .. -/
def upd (ρ : Env) (b : Nat) (ds : List D) : Env := fun i => if b ≤ i ∧ i < b + ds.length then nthD ds (i - b) else ρ i
theorem upd_lo {ρ : Env} {b i : Nat} (ds : List D) (h : i < b) : upd ρ b ds i = ρ i := by unfold upd; rw [if_neg (by omega)]
theorem upd_agree {ρ ρ' : Env} {b : Nat} {ds : List D} {n : Nat} (h : ∀ i, i < b → ρ i = ρ' i) (hn : n ≤ b + ds.length) : ∀ i, i < n → upd ρ b ds i = upd ρ' b ds i := by
  intro i hi
  unfold upd
  split
  · rfl
  · exact h i (by omega)
theorem lenN_eq {α : Type} : ∀ l : List α, lenN l = l.length
  | [] => rfl
  | _ :: l => by simp [lenN, lenN_eq l]
section
variable {Φ : Sig} {ρ ρ' : Env}
theorem nthS_den : ∀ (σ : List T) (i : Nat), (nthS σ i).den Φ ρ = nthD (σ.map (T.den Φ ρ)) i
  | [], i => by simp [nthS, nthD, T.den]
  | t :: σ, 0 => rfl
  | t :: σ, i + 1 => by simpa [nthS, nthD] using nthS_den σ i
theorem sub_den (b : Nat) (σ : List T) : ∀ t : T, (t.sub b σ).den Φ ρ = t.den Φ (upd ρ b (σ.map (T.den Φ ρ)))
  | .var i => by
    simp only [T.sub, T.den, upd, List.length_map]
    by_cases h : b ≤ i ∧ i < b + σ.length
    · rw [if_pos h, if_pos (by simp [lenN_eq, Nat.ble_eq, h.1]; omega)]
      exact nthS_den σ _
    · rw [if_neg h, if_neg (by simp [lenN_eq, Nat.ble_eq]; omega)]
      rfl
  | .num _ => rfl
  | .bol _ => rfl
  | .nil => rfl
  | .cons x l => by simp only [T.sub, T.den, sub_den b σ x, sub_den b σ l]
  | .wr k x => by simp only [T.sub, T.den, sub_den b σ x]
  | .bits o k x y => by simp only [T.sub, T.den, sub_den b σ x, sub_den b σ y]
  | .c1 o x => by simp only [T.sub, T.den, sub_den b σ x]
  | .c2 o x y => by simp only [T.sub, T.den, sub_den b σ x, sub_den b σ y]
  | .ite c x y => by simp only [T.sub, T.den, sub_den b σ c, sub_den b σ x, sub_den b σ y]
  | .set l i x => by simp only [T.sub, T.den, sub_den b σ l, sub_den b σ i, sub_den b σ x]
  | .spl l i s => by simp only [T.sub, T.den, sub_den b σ l, sub_den b σ i, sub_den b σ s]
  | .fn f x y z => by simp only [T.sub, T.den, sub_den b σ x, sub_den b σ y, sub_den b σ z]
theorem lo_den {n : Nat} (h : ∀ i, i < n → ρ i = ρ' i) : ∀ t : T, t.lo n = true → t.den Φ ρ = t.den Φ ρ'
  | .var i, ht => h i (Nat.le_of_ble_eq_true ht)
  | .num _, _ => rfl
  | .bol _, _ => rfl
  | .nil, _ => rfl
  | .cons x l, ht => by simp only [T.lo, Bool.and_eq_true] at ht; simp only [T.den, lo_den h x ht.1, lo_den h l ht.2]
  | .wr k x, ht => by simp only [T.lo] at ht; simp only [T.den, lo_den h x ht]
  | .bits o k x y, ht => by simp only [T.lo, Bool.and_eq_true] at ht; simp only [T.den, lo_den h x ht.1, lo_den h y ht.2]
  | .c1 o x, ht => by simp only [T.lo] at ht; simp only [T.den, lo_den h x ht]
  | .c2 o x y, ht => by simp only [T.lo, Bool.and_eq_true] at ht; simp only [T.den, lo_den h x ht.1, lo_den h y ht.2]
  | .ite c x y, ht => by simp only [T.lo, Bool.and_eq_true] at ht; simp only [T.den, lo_den h c ht.1, lo_den h x ht.2.1, lo_den h y ht.2.2]
  | .set l i x, ht => by simp only [T.lo, Bool.and_eq_true] at ht; simp only [T.den, lo_den h l ht.1, lo_den h i ht.2.1, lo_den h x ht.2.2]
  | .spl l i s, ht => by simp only [T.lo, Bool.and_eq_true] at ht; simp only [T.den, lo_den h l ht.1, lo_den h i ht.2.1, lo_den h s ht.2.2]
  | .fn f x y z, ht => by simp only [T.lo, Bool.and_eq_true] at ht; simp only [T.den, lo_den h x ht.1, lo_den h y ht.2.1, lo_den h z ht.2.2]

/-! Values whose variables are below n do not hang on the others. -/
section
variable {n : Nat} {β : Map}
theorem C.rep_lo (h : ∀ i, i < n → ρ i = ρ' i) {x : C} {v : Value} (hx : x.lo n = true) (hr : x.rep (T.den Φ ρ) β v) : x.rep (T.den Φ ρ') β v := by
  cases x <;> simp only [C.rep, C.lo, Bool.and_eq_true] at hx hr ⊢
  case i k t => rw [← lo_den h t hx]; exact hr
  case b t => rw [← lo_den h t hx]; exact hr
  case p j e st r => rw [← lo_den h e hx]; exact hr
  case s j st r o len => rw [← lo_den h o hx.1, ← lo_den h len hx.2]; exact hr
  all_goals exact hr
theorem repL_lo (h : ∀ i, i < n → ρ i = ρ' i) : ∀ {xs : List C} {vs : List Value}, loL n xs = true → repL (T.den Φ ρ) β xs vs → repL (T.den Φ ρ') β xs vs
  | [], [], _, _ => trivial
  | [], _ :: _, _, hr => hr.elim
  | _ :: _, [], _, hr => hr.elim
  | x :: xs, v :: vs, hx, hr => by
    simp only [loL, Bool.and_eq_true] at hx
    exact ⟨C.rep_lo h hx.1 hr.1, repL_lo h hx.2 hr.2⟩
theorem W.rep_lo (h : ∀ i, i < n → ρ i = ρ' i) {x : W} {v : Value} (hx : x.lo n = true) (hr : x.rep (T.den Φ ρ) β v) : x.rep (T.den Φ ρ') β v := by
  cases x with
  | c x => exact C.rep_lo h hx hr
  | g xs => obtain ⟨cs, rfl, hr⟩ := hr; exact ⟨cs, rfl, repL_lo h hx hr⟩
theorem repWs_lo (h : ∀ i, i < n → ρ i = ρ' i) : ∀ {xs : List W} {vs : List Value}, loWs n xs = true → repWs (T.den Φ ρ) β xs vs → repWs (T.den Φ ρ') β xs vs
  | [], [], _, _ => trivial
  | [], _ :: _, _, hr => hr.elim
  | _ :: _, [], _, hr => hr.elim
  | x :: xs, v :: vs, hx, hr => by
    simp only [loWs, Bool.and_eq_true] at hx
    exact ⟨W.rep_lo h hx.1 hr.1, repWs_lo h hx.2 hr.2⟩
theorem V.rep_lo (h : ∀ i, i < n → ρ i = ρ' i) {x : V} {v : Value} (hx : x.lo n = true) (hr : x.rep (T.den Φ ρ) β v) : x.rep (T.den Φ ρ') β v := by
  cases x with
  | w x => exact W.rep_lo h hx hr
  | t xs => obtain ⟨cs, rfl, hr⟩ := hr; exact ⟨cs, rfl, repWs_lo h hx hr⟩
  | u => trivial
theorem loL_get : ∀ {xs : List C} {i : Nat} {x : C}, loL n xs = true → xs[i]? = some x → x.lo n = true
  | [], _, _, _, h => by simp at h
  | y :: xs, 0, x, hl, h => by
    simp only [List.getElem?_cons_zero, Option.some.injEq] at h
    simp only [loL, Bool.and_eq_true] at hl
    rw [← h]; exact hl.1
  | y :: xs, i + 1, x, hl, h => by
    simp only [List.getElem?_cons_succ] at h
    simp only [loL, Bool.and_eq_true] at hl
    exact loL_get hl.2 h
theorem Blk.rep_lo (h : ∀ i, i < n → ρ i = ρ' i) {w : World} {pl : Place} {k : Blk} (hk : k.lo n = true) (hr : k.rep (T.den Φ ρ) β w pl) : k.rep (T.den Φ ρ') β w pl := by
  cases k with
  | cells xs =>
    refine ⟨hr.1, fun i x hx => ?_⟩
    obtain ⟨v, hv, hrv⟩ := hr.2 i x hx
    exact ⟨v, hv, C.rep_lo h (loL_get hk hx) hrv⟩
  | row ks l => simp only [Blk.rep] at hr ⊢; rw [← lo_den h l hk]; exact hr
theorem loTm_look : ∀ {tm : List (Nat × V)} {t : Nat} {v : V}, loTm n tm = true → look tm t = some v → v.lo n = true
  | (k, x) :: tm, t, v, hl, h => by
    simp only [loTm, Bool.and_eq_true] at hl
    simp only [look] at h
    split at h
    · injection h with h; rw [← h]; exact hl.1
    · exact loTm_look hl.2 h
theorem loMe_look : ∀ {me : List (Nat × Option MB)} {j : Nat} {m : MB}, loMe n me = true → lookM me j = some m → m.k.lo n = true
  | (k, x) :: me, j, m, hl, h => by
    simp only [lookM] at h
    cases x with
    | none =>
      simp only [loMe] at hl
      split at h
      · cases h
      · exact loMe_look hl h
    | some x =>
      simp only [loMe, Bool.and_eq_true] at hl
      split at h
      · injection h with h; rw [← h]; exact hl.1
      · exact loMe_look hl.2 h
theorem loFa_hold (h : ∀ i, i < n → ρ i = ρ' i) : ∀ {fa : Facts}, loFa n fa = true → fa.hold Φ ρ → fa.hold Φ ρ'
  | [], _, _ => fun t p hm => by cases hm
  | (u, q) :: fa, hl, hf => by
    simp only [loFa, Bool.and_eq_true] at hl
    intro t p hm
    rcases List.mem_cons.mp hm with e | hm
    · injection e with e1 e2
      subst e1 e2
      rw [← lo_den h t hl.1]
      exact hf t p List.mem_cons_self
    · exact loFa_hold h hl.2 (fun t p hm => hf t p (List.mem_cons_of_mem _ hm)) t p hm
end

/-! Names that the map knows. -/
section
variable {E : Ev} {β β' : Map} {w : World}
def known (β : Map) (ns : List Nat) : Prop := ∀ j ∈ ns, ∃ pl, β j = some pl
theorem C.rep_known {x : C} {v : Value} (h : x.rep E β v) : known β x.nm := by
  cases x <;> simp only [C.rep, C.nm] at h ⊢
  case p => obtain ⟨pl, h1, _⟩ := h; exact fun j hj => by simp at hj; subst hj; exact ⟨pl, h1⟩
  case s => obtain ⟨pl, h1, _⟩ := h; exact fun j hj => by simp at hj; subst hj; exact ⟨pl, h1⟩
  all_goals exact fun j hj => by simp at hj
theorem C.rep_back {x : C} {v : Value} (hb : β'.le β) (hk : known β' x.nm) (h : x.rep E β v) : x.rep E β' v := by
  cases x <;> simp only [C.rep, C.nm] at h hk ⊢
  case p =>
    obtain ⟨pl, h1, h2⟩ := h
    obtain ⟨pl', h3⟩ := hk _ List.mem_cons_self
    have := hb _ _ h3
    rw [h1] at this
    injection this with this
    subst this
    exact ⟨pl, h3, h2⟩
  case s =>
    obtain ⟨pl, h1, h2⟩ := h
    obtain ⟨pl', h3⟩ := hk _ List.mem_cons_self
    have := hb _ _ h3
    rw [h1] at this
    injection this with this
    subst this
    exact ⟨pl, h3, h2⟩
  all_goals exact h
theorem repL_known : ∀ {xs : List C} {vs : List Value}, repL E β xs vs → known β (namesL xs)
  | [], [], _ => fun j hj => by simp [namesL] at hj
  | [], _ :: _, h => h.elim
  | _ :: _, [], h => h.elim
  | x :: xs, v :: vs, h => fun j hj => by
    simp only [namesL, List.mem_append] at hj
    exact hj.elim (C.rep_known h.1 j) (repL_known h.2 j)
theorem repL_back (hb : β'.le β) : ∀ {xs : List C} {vs : List Value}, known β' (namesL xs) → repL E β xs vs → repL E β' xs vs
  | [], [], _, _ => trivial
  | [], _ :: _, _, h => h.elim
  | _ :: _, [], _, h => h.elim
  | x :: xs, v :: vs, hk, h => ⟨C.rep_back hb (fun j hj => hk j (by simp only [namesL, List.mem_append]; exact .inl hj)) h.1, repL_back hb (fun j hj => hk j (by simp only [namesL, List.mem_append]; exact .inr hj)) h.2⟩
theorem W.rep_known {x : W} {v : Value} (h : x.rep E β v) : known β x.nm := by
  cases x with
  | c x => exact C.rep_known h
  | g xs => obtain ⟨cs, rfl, h⟩ := h; exact repL_known h
theorem W.rep_back {x : W} {v : Value} (hb : β'.le β) (hk : known β' x.nm) (h : x.rep E β v) : x.rep E β' v := by
  cases x with
  | c x => exact C.rep_back hb hk h
  | g xs => obtain ⟨cs, rfl, h⟩ := h; exact ⟨cs, rfl, repL_back hb hk h⟩
theorem repWs_known : ∀ {xs : List W} {vs : List Value}, repWs E β xs vs → known β (namesWs xs)
  | [], [], _ => fun j hj => by simp [namesWs] at hj
  | [], _ :: _, h => h.elim
  | _ :: _, [], h => h.elim
  | x :: xs, v :: vs, h => fun j hj => by
    simp only [namesWs, List.mem_append] at hj
    exact hj.elim (W.rep_known h.1 j) (repWs_known h.2 j)
theorem repWs_back (hb : β'.le β) : ∀ {xs : List W} {vs : List Value}, known β' (namesWs xs) → repWs E β xs vs → repWs E β' xs vs
  | [], [], _, _ => trivial
  | [], _ :: _, _, h => h.elim
  | _ :: _, [], _, h => h.elim
  | x :: xs, v :: vs, hk, h => ⟨W.rep_back hb (fun j hj => hk j (by simp only [namesWs, List.mem_append]; exact .inl hj)) h.1, repWs_back hb (fun j hj => hk j (by simp only [namesWs, List.mem_append]; exact .inr hj)) h.2⟩
theorem V.rep_known {x : V} {v : Value} (h : x.rep E β v) : known β x.nm := by
  cases x with
  | w x => exact W.rep_known h
  | t xs => obtain ⟨cs, rfl, h⟩ := h; exact repWs_known h
  | u => exact fun j hj => by simp [V.nm] at hj
theorem V.rep_back {x : V} {v : Value} (hb : β'.le β) (hk : known β' x.nm) (h : x.rep E β v) : x.rep E β' v := by
  cases x with
  | w x => exact W.rep_back hb hk h
  | t xs => obtain ⟨cs, rfl, h⟩ := h; exact ⟨cs, rfl, repWs_back hb hk h⟩
  | u => trivial
theorem namesL_get : ∀ {xs : List C} {i : Nat} {x : C}, xs[i]? = some x → ∀ j ∈ x.nm, j ∈ namesL xs
  | [], _, _, h => by simp at h
  | y :: xs, 0, x, h => fun j hj => by
    simp only [List.getElem?_cons_zero, Option.some.injEq] at h
    subst h
    simp only [namesL, List.mem_append]; exact .inl hj
  | y :: xs, i + 1, x, h => fun j hj => by
    simp only [List.getElem?_cons_succ] at h
    simp only [namesL, List.mem_append]; exact .inr (namesL_get h j hj)
theorem namesL_inv : ∀ {xs : List C} {j : Nat}, j ∈ namesL xs → ∃ (i : Nat) (x : C), xs[i]? = some x ∧ j ∈ x.nm
  | [], j, h => by simp [namesL] at h
  | y :: xs, j, h => by
    simp only [namesL, List.mem_append] at h
    rcases h with h | h
    · exact ⟨0, y, rfl, h⟩
    · obtain ⟨i, x, hx, hj⟩ := namesL_inv h
      exact ⟨i + 1, x, by simpa using hx, hj⟩
theorem Blk.rep_known {k : Blk} {pl : Place} (h : k.rep E β w pl) : known β k.nm := by
  cases k with
  | cells xs =>
    intro j hj
    obtain ⟨i, x, hx, hjx⟩ := namesL_inv hj
    obtain ⟨v, _, hr⟩ := h.2 i x hx
    exact C.rep_known hr j hjx
  | row ks l => exact fun j hj => by simp [Blk.nm] at hj
theorem Blk.rep_back {k : Blk} {pl : Place} (hb : β'.le β) (hk : known β' k.nm) (h : k.rep E β w pl) : k.rep E β' w pl := by
  cases k with
  | cells xs =>
    refine ⟨h.1, fun i x hx => ?_⟩
    obtain ⟨v, hv, hr⟩ := h.2 i x hx
    exact ⟨v, hv, C.rep_back hb (fun j hj => hk j (namesL_get hx j hj)) hr⟩
  | row ks l => exact h
theorem Blk.rep_le {k : Blk} {pl : Place} (hb : β.le β') (h : k.rep E β w pl) : k.rep E β' w pl := by
  cases k with
  | cells xs =>
    refine ⟨h.1, fun i x hx => ?_⟩
    obtain ⟨v, hv, hr⟩ := h.2 i x hx
    exact ⟨v, hv, C.rep_le hb hr⟩
  | row ks l => exact h
end

/-! A pattern's instance. -/
structure Fits (s : Sb) (β1 β2 : Map) : Prop where
  at_ : ∀ j j' pl, nmOf s.nb s.π j = some (some j') → β1 j' = some pl → β2 j = some pl
  ph : ∀ j, nmOf s.nb s.π j = some none → β2 j = some ⟨0, 0, 0⟩
section
variable {s : Sb} {β1 β2 : Map} {ρ1 : Env}
abbrev Sb.env (s : Sb) (Φ : Sig) (ρ : Env) : Env := upd ρ s.b (s.σ.map (T.den Φ ρ))
theorem eqT_den {p t : T} (h : s.eqT p t = true) : p.den Φ (s.env Φ ρ1) = t.den Φ ρ1 := by
  unfold Sb.eqT at h
  rw [← T.beq_eq h, sub_den]
theorem eqN_int {p t : T} (h : s.eqN p t = true) : (p.den Φ (s.env Φ ρ1)).int = (t.den Φ ρ1).int := by
  unfold Sb.eqN at h
  rw [← T.beq_eq h, tidy_i, sub_den]
theorem isN_eq {x : Option (Option Nat)} {j : Nat} (h : isN x j = true) : x = some (some j) := by
  unfold isN at h
  split at h
  · rw [Nat.eq_of_beq_eq_true h]
  · cases h
theorem isPh_eq {x : Option (Option Nat)} (h : isPh x = true) : x = some none := by
  unfold isPh at h
  split at h
  · rfl
  · cases h
theorem kbeq_eq {a b : IntKind} (h : Nat.beq (knum a) (knum b) = true) : a = b := knum_inj (Nat.eq_of_beq_eq_true h)
theorem okC_rep (hf : Fits s β1 β2) {p x : C} {v : Value} (h : okC s p x = true) (hr : x.rep (T.den Φ ρ1) β1 v) : p.rep (T.den Φ (s.env Φ ρ1)) β2 v := by
  unfold okC at h
  split at h <;> (try simp only [Bool.and_eq_true] at h) <;> simp only [C.rep] at hr ⊢
  · rw [eqT_den h.2, kbeq_eq h.1]; exact hr
  · rw [eqT_den h]; exact hr
  · obtain ⟨h1, h2, h3, h4⟩ := h
    obtain ⟨pl, hp, hv⟩ := hr
    rw [eqT_den h2, Nat.eq_of_beq_eq_true h3, Nat.eq_of_beq_eq_true h4]
    exact ⟨pl, hf.at_ _ _ _ (isN_eq h1) hp, hv⟩
  · exact hr
  · obtain ⟨h1, h2, h3, h4, h5⟩ := h
    obtain ⟨pl, hp, hv⟩ := hr
    rw [eqT_den h2, eqT_den h3, Nat.eq_of_beq_eq_true h4, Nat.eq_of_beq_eq_true h5]
    exact ⟨pl, hf.at_ _ _ _ (isN_eq h1) hp, hv⟩
  · obtain ⟨h1, h2, h3, h4⟩ := h
    have e2 := eqN_int (Φ := Φ) (ρ1 := ρ1) h2
    have e3 := eqN_int (Φ := Φ) (ρ1 := ρ1) h3
    simp only [T.den, D.int_i] at e2 e3
    rw [e2, e3, Nat.eq_of_beq_eq_true h4]
    subst hr
    exact ⟨⟨0, 0, 0⟩, hf.ph _ (isPh_eq h1), none, 0, 0, rfl, by simp, Nat.le_refl _, by simp, by simp, fun h => by omega⟩
  · obtain ⟨h1, h2, h3, h4⟩ := h
    have e2 := eqN_int (Φ := Φ) (ρ1 := ρ1) h2
    have e3 := eqN_int (Φ := Φ) (ρ1 := ρ1) h3
    simp only [T.den, D.int_i] at e2 e3
    rw [e2, e3, Nat.eq_of_beq_eq_true h4]
    obtain ⟨a, rfl⟩ := hr
    exact ⟨⟨0, 0, 0⟩, hf.ph _ (isPh_eq h1), a, 0, 0, rfl, by simp, Nat.le_refl _, by simp, by simp, fun h => by omega⟩
  · exact hr
  · exact hr
  · rw [Nat.eq_of_beq_eq_true h]; exact hr
  · exact hr
  · cases h
theorem okL_rep (hf : Fits s β1 β2) : ∀ {ps xs : List C} {vs : List Value}, okL s ps xs = true → repL (T.den Φ ρ1) β1 xs vs → repL (T.den Φ (s.env Φ ρ1)) β2 ps vs
  | [], [], [], _, _ => trivial
  | [], [], _ :: _, _, h => h.elim
  | [], _ :: _, _, h, _ => by simp [okL] at h
  | _ :: _, [], _, h, _ => by simp [okL] at h
  | _ :: _, _ :: _, [], _, h => h.elim
  | p :: ps, x :: xs, v :: vs, h, hr => by
    simp only [okL, Bool.and_eq_true] at h
    exact ⟨okC_rep hf h.1 hr.1, okL_rep hf h.2 hr.2⟩
theorem okW_rep (hf : Fits s β1 β2) {p x : W} {v : Value} (h : okW s p x = true) (hr : x.rep (T.den Φ ρ1) β1 v) : p.rep (T.den Φ (s.env Φ ρ1)) β2 v := by
  unfold okW at h
  split at h
  · exact okC_rep hf h hr
  · obtain ⟨cs, rfl, hr⟩ := hr; exact ⟨cs, rfl, okL_rep hf h hr⟩
  · cases h
theorem okWs_rep (hf : Fits s β1 β2) : ∀ {ps xs : List W} {vs : List Value}, okWs s ps xs = true → repWs (T.den Φ ρ1) β1 xs vs → repWs (T.den Φ (s.env Φ ρ1)) β2 ps vs
  | [], [], [], _, _ => trivial
  | [], [], _ :: _, _, h => h.elim
  | [], _ :: _, _, h, _ => by simp [okWs] at h
  | _ :: _, [], _, h, _ => by simp [okWs] at h
  | _ :: _, _ :: _, [], _, h => h.elim
  | p :: ps, x :: xs, v :: vs, h, hr => by
    simp only [okWs, Bool.and_eq_true] at h
    exact ⟨okW_rep hf h.1 hr.1, okWs_rep hf h.2 hr.2⟩
theorem okV_rep (hf : Fits s β1 β2) {p x : V} {v : Value} (h : okV s p x = true) (hr : x.rep (T.den Φ ρ1) β1 v) : p.rep (T.den Φ (s.env Φ ρ1)) β2 v := by
  unfold okV at h
  split at h
  · trivial
  · exact okW_rep hf h hr
  · obtain ⟨cs, rfl, hr⟩ := hr; exact ⟨cs, rfl, okWs_rep hf h hr⟩
  · cases h
theorem okL_get : ∀ {ps xs : List C}, okL s ps xs = true → ps.length = xs.length ∧ ∀ (i : Nat) (p : C), ps[i]? = some p → ∃ x, xs[i]? = some x ∧ okC s p x = true
  | [], [], _ => ⟨rfl, fun i p h => by simp at h⟩
  | [], _ :: _, h => by simp [okL] at h
  | _ :: _, [], h => by simp [okL] at h
  | q :: ps, y :: xs, h => by
    simp only [okL, Bool.and_eq_true] at h
    obtain ⟨h1, h2⟩ := okL_get h.2
    refine ⟨by simp [h1], fun i p hp => ?_⟩
    cases i with
    | zero => simp only [List.getElem?_cons_zero, Option.some.injEq] at hp; subst hp; exact ⟨y, rfl, h.1⟩
    | succ i => simp only [List.getElem?_cons_succ] at hp ⊢; exact h2 i p hp
theorem kbeqL_eq' : ∀ {a b : List IntKind}, kbeqL a b = true → a = b
  | [], [], _ => rfl
  | [], _ :: _, h => by simp [kbeqL] at h
  | _ :: _, [], h => by simp [kbeqL] at h
  | x :: a, y :: b, h => by
    simp only [kbeqL, Bool.and_eq_true] at h
    rw [kbeq_eq h.1, kbeqL_eq' h.2]
theorem okB_rep (hf : Fits s β1 β2) {p x : Blk} {w : World} {pl : Place} (h : okB s p x = true) (hr : x.rep (T.den Φ ρ1) β1 w pl) : p.rep (T.den Φ (s.env Φ ρ1)) β2 w pl := by
  unfold okB at h
  split at h
  · obtain ⟨h1, h2⟩ := okL_get h
    refine ⟨by rw [h1]; exact hr.1, fun i q hq => ?_⟩
    obtain ⟨y, hy, hok⟩ := h2 i q hq
    obtain ⟨v, hv, hrv⟩ := hr.2 i y hy
    exact ⟨v, hv, okC_rep hf hok hrv⟩
  · simp only [Bool.and_eq_true] at h
    simp only [Blk.rep] at hr ⊢
    rw [kbeqL_eq' h.1, eqT_den h.2]; exact hr
  · cases h
theorem okM_rep (hf : Fits s β1 β2) {p x : MB} {w : World} {pl : Place} (h : okM s p x = true) (hr : x.rep (T.den Φ ρ1) β1 w pl) : p.rep (T.den Φ (s.env Φ ρ1)) β2 w pl ∧ (p.rw = true → x.rw = true) := by
  simp only [okM, Bool.and_eq_true, Bool.or_eq_true, Bool.not_eq_true'] at h
  have hrw : p.rw = true → x.rw = true := fun e => by rcases h.1 with h | h; · rw [e] at h; cases h
                                                      · exact h
  exact ⟨⟨okB_rep hf h.2 hr.1, fun e => hr.2 (hrw e)⟩, hrw⟩
theorem okPh_rep {p : Blk} {w : World} {β : Map} (h : okPh s p = true) : p.rep (T.den Φ (s.env Φ ρ1)) β w ⟨0, 0, 0⟩ := by
  unfold okPh at h
  split at h
  · refine ⟨by simp, ?_, fun i z hz => ?_⟩
    · rw [eqT_den h]; simp [T.den]
    · rw [eqT_den h] at hz; simp [T.den] at hz
  · exact ⟨by simp, fun i x hx => by simp at hx⟩
  · cases h
end
end
end Go.Proofs.Ytlgiibchnnaceaa.Sx
