/- Sx, part 17: what holds at a loop's head. Conditions: none. -/
import Derived.Test.YtlgiibchnnaceaaSxI
set_option linter.unusedVariables false
set_option linter.unusedSimpArgs false
namespace Go.Proofs.Ytlgiibchnnaceaa.Sx
open Go Go.RowKit

structure Sim (Φ : Sig) (ρ : Env) (en : En) (S : St) (β : Map) (a : Act) (w : World) : Prop where
  cur : ∃ d, S.me = d ++ en.base ∧ Cur (T.den Φ ρ) en S.tm S.me d β a w
  fa : S.fa.hold Φ ρ
  free : ∀ j, S.nb ≤ j → β j = none
  lo : en.nb0 ≤ S.nb
structure After (ρ : Env) (S : St) (β : Map) (ρ' : Env) (S' : St) (β' : Map) : Prop where
  rho : ∀ i, i < S.nv → ρ' i = ρ i
  nv : S.nv ≤ S'.nv
  nb : S.nb ≤ S'.nb
  beta : ∀ j, j < S.nb → β' j = β j
  tm : ∃ p, S'.tm = p ++ S.tm
  me : ∃ q, S'.me = q ++ S.me
theorem After.refl (ρ : Env) (S : St) (β : Map) : After ρ S β ρ S β := ⟨fun _ _ => rfl, Nat.le_refl _, Nat.le_refl _, fun _ _ => rfl, ⟨[], rfl⟩, ⟨[], rfl⟩⟩
theorem After.trans {ρ ρ' ρ'' : Env} {S S' S'' : St} {β β' β'' : Map} (h : After ρ S β ρ' S' β') (k : After ρ' S' β' ρ'' S'' β'') : After ρ S β ρ'' S'' β'' := by
  obtain ⟨p, hp⟩ := h.tm
  obtain ⟨p', hp'⟩ := k.tm
  obtain ⟨q, hq⟩ := h.me
  obtain ⟨q', hq'⟩ := k.me
  exact ⟨fun i hi => (k.rho i (Nat.lt_of_lt_of_le hi h.nv)).trans (h.rho i hi), Nat.le_trans h.nv k.nv, Nat.le_trans h.nb k.nb, fun j hj => (k.beta j (Nat.lt_of_lt_of_le hj h.nb)).trans (h.beta j hj),
    ⟨p' ++ p, by rw [hp', hp, List.append_assoc]⟩, ⟨q' ++ q, by rw [hq', hq, List.append_assoc]⟩⟩
theorem After.of_facts {ρ ρ' : Env} {S S' : St} {β β' : Map} {fa : Facts} (h : After ρ { S with fa := fa } β ρ' S' β') : After ρ S β ρ' S' β' := ⟨h.rho, h.nv, h.nb, h.beta, h.tm, h.me⟩
/-- The same but for what is known. -/
theorem Sim.facts {Φ : Sig} {ρ : Env} {en : En} {S : St} {β : Map} {a : Act} {w : World} (h : Sim Φ ρ en S β a w) {fa : Facts} (hf : fa.hold Φ ρ) : Sim Φ ρ en { S with fa := fa } β a w := ⟨h.cur, hf, h.free, h.lo⟩

/-! The checks, by what they say. -/
section
variable {s : Sb}
theorem okTm_mem {tm : List (Nat × V)} : ∀ {l : List (Nat × V)}, okTm s tm l = true → ∀ {t : Nat} {v : V}, look l t = some v → v = .u ∨ ∃ x, look tm t = some x ∧ okV s v x = true
  | [], _, t, v, h => by cases h
  | (k, y0) :: l, hok, t, v, h => by
    simp only [okTm, Bool.and_eq_true] at hok
    simp only [look] at h
    split at h
    · rename_i e
      injection h with h
      subst h
      rw [← Nat.eq_of_beq_eq_true e]
      obtain ⟨h1, _⟩ := hok
      split at h1
      · exact .inl rfl
      · split at h1
        · rename_i x hx; exact .inr ⟨x, hx, h1⟩
        · cases h1
    · exact okTm_mem hok.2 h
theorem okOld_mem {me : List (Nat × Option MB)} : ∀ {l : List (Nat × Option MB)}, okOld s me l = true → ∀ {j : Nat}, hasK l j = true → j < s.nb ∧ ∀ m, lookM l j = some m → ∃ x, lookM me j = some x ∧ okM s m x = true
  | [], _, j, h => by cases h
  | (k, none) :: l, hok, j, h => by
    simp only [okOld, Bool.and_eq_true] at hok
    simp only [hasK, Bool.or_eq_true] at h
    simp only [lookM]
    by_cases e : Nat.beq k j = true
    · rw [if_pos e]
      have := Nat.le_of_ble_eq_true hok.1
      have := Nat.eq_of_beq_eq_true e
      exact ⟨by omega, fun m hm => by cases hm⟩
    · rw [if_neg e]
      exact okOld_mem hok.2 (h.resolve_left e)
  | (k, some m0) :: l, hok, j, h => by
    simp only [okOld, Bool.and_eq_true] at hok
    simp only [hasK, Bool.or_eq_true] at h
    simp only [lookM]
    by_cases e : Nat.beq k j = true
    · rw [if_pos e]
      have := Nat.le_of_ble_eq_true hok.2.1
      have ej := Nat.eq_of_beq_eq_true e
      refine ⟨by omega, fun m hm => ?_⟩
      injection hm with hm
      subst hm
      obtain ⟨h1, _⟩ := hok
      split at h1
      · rename_i x hx; rw [← ej]; exact ⟨x, hx, h1⟩
      · cases h1
    · rw [if_neg e]
      exact okOld_mem hok.2.2 (h.resolve_left e)
theorem ownOld_mem {me : List (Nat × Option MB)} : ∀ {l : List (Nat × Option MB)}, ownOld me l = true → ∀ {j : Nat}, hasK l j = true → ∃ x, lookM me j = some x ∧ x.rw = true
  | [], _, j, h => by cases h
  | (k, m) :: l, hok, j, h => by
    simp only [ownOld, Bool.and_eq_true] at hok
    simp only [hasK, Bool.or_eq_true] at h
    rcases h with e | h
    · rw [← Nat.eq_of_beq_eq_true e]
      obtain ⟨h1, _⟩ := hok
      split at h1
      · rename_i x hx; exact ⟨x, hx, h1⟩
      · cases h1
    · exact ownOld_mem hok.2 h
theorem okNew_mem {me old : List (Nat × Option MB)} : ∀ {l : List MB} {π : List (Option Nat)} {seen : List Nat}, okNew s me old l π seen = true → π.length = l.length ∧
    (∀ (i : Nat) (m : MB), l[i]? = some m → (∃ j x, π[i]? = some (some j) ∧ lookM me j = some x ∧ okM s m x = true ∧ (s.nb ≤ j ∨ look old j = some none) ∧ j ∉ seen) ∨ (π[i]? = some none ∧ okPh s m.k = true)) ∧
    (∀ (i k j j' : Nat), i ≠ k → π[i]? = some (some j) → π[k]? = some (some j') → j ≠ j')
  | [], [], _, _ => ⟨rfl, fun i m h => by simp at h, fun i k j j' _ h => by simp at h⟩
  | [], _ :: _, _, h => by simp [okNew] at h
  | _ :: _, [], _, h => by simp [okNew] at h
  | m0 :: l, some j0 :: π, seen, h => by
    simp only [okNew, Bool.and_eq_true, Bool.or_eq_true, Bool.not_eq_true'] at h
    obtain ⟨h1, h2, h3, h4⟩ := h
    obtain ⟨g1, g2, g3⟩ := okNew_mem h4
    refine ⟨by simp [g1], fun i m hm => ?_, fun i k j j' hne hi hk => ?_⟩
    · cases i with
      | zero =>
        simp only [List.getElem?_cons_zero, Option.some.injEq] at hm
        subst hm
        left
        split at h1
        · rename_i x hx
          refine ⟨j0, x, rfl, hx, h1, ?_, fun hm => by rw [hasN_mem.mpr hm] at h3; cases h3⟩
          rcases h2 with h2 | h2
          · exact .inl (Nat.le_of_ble_eq_true h2)
          · right
            split at h2
            · assumption
            · cases h2
        · cases h1
      | succ i =>
        simp only [List.getElem?_cons_succ] at hm
        rcases g2 i m hm with ⟨j, x, k1, k2, k3, k4, k5⟩ | h
        · exact .inl ⟨j, x, by simpa using k1, k2, k3, k4, fun h => k5 (List.mem_cons_of_mem _ h)⟩
        · exact .inr (by simpa using h)
    · have fresh : ∀ (i j : Nat), π[i]? = some (some j) → j ≠ j0 := by
        intro i j hi e
        have hlt : i < l.length := by rw [← g1]; exact (List.getElem?_eq_some_iff.1 hi).1
        rcases g2 i _ (List.getElem?_eq_getElem hlt) with ⟨j', x, k1, _, _, _, k5⟩ | ⟨k1, _⟩
        · rw [hi] at k1
          injection k1 with k1
          injection k1 with k1
          subst k1
          exact k5 (by rw [e]; exact List.mem_cons_self)
        · rw [hi] at k1; cases k1
      cases i with
      | zero =>
        simp only [List.getElem?_cons_zero, Option.some.injEq] at hi
        cases k with
        | zero => exact absurd rfl hne
        | succ k =>
          simp only [List.getElem?_cons_succ] at hk
          rw [← hi]
          exact fun e => fresh k j' hk e.symm
      | succ i =>
        simp only [List.getElem?_cons_succ] at hi
        cases k with
        | zero =>
          simp only [List.getElem?_cons_zero, Option.some.injEq] at hk
          rw [← hk]; exact fresh i j hi
        | succ k =>
          simp only [List.getElem?_cons_succ] at hk
          exact g3 i k j j' (by omega) hi hk
  | m0 :: l, none :: π, seen, h => by
    simp only [okNew, Bool.and_eq_true] at h
    obtain ⟨g1, g2, g3⟩ := okNew_mem h.2
    refine ⟨by simp [g1], fun i m hm => ?_, fun i k j j' hne hi hk => ?_⟩
    · cases i with
      | zero =>
        simp only [List.getElem?_cons_zero, Option.some.injEq] at hm
        subst hm
        exact .inr ⟨rfl, h.1⟩
      | succ i =>
        simp only [List.getElem?_cons_succ] at hm
        rcases g2 i m hm with ⟨j, x, k1, k2⟩ | h
        · exact .inl ⟨j, x, by simpa using k1, k2⟩
        · exact .inr (by simpa using h)
    · cases i with
      | zero => simp at hi
      | succ i =>
        cases k with
        | zero => simp at hk
        | succ k =>
          simp only [List.getElem?_cons_succ] at hi hk
          exact g3 i k j j' (by omega) hi hk
theorem nthO_get : ∀ (π : List (Option Nat)) (i : Nat), nthO π i = π[i]?
  | [], i => by simp [nthO]
  | x :: π, 0 => rfl
  | x :: π, i + 1 => by simpa [nthO] using nthO_get π i
theorem newE_has : ∀ (l : List MB) (b j : Nat), hasK (newE b l) j = true ↔ b ≤ j ∧ j < b + l.length
  | [], b, j => by simp [newE, hasK]
  | m :: l, b, j => by
    simp only [newE, hasK, Bool.or_eq_true, newE_has l (b + 1) j, List.length_cons]
    constructor
    · rintro (h | h)
      · have := Nat.eq_of_beq_eq_true h; omega
      · omega
    · intro h
      by_cases e : b = j
      · exact .inl (by rw [e]; exact Nat.beq_refl _)
      · exact .inr (by omega)
theorem newE_look : ∀ (l : List MB) (b j : Nat) (m : MB), lookM (newE b l) j = some m → b ≤ j ∧ l[j - b]? = some m
  | [], b, j, m, h => by cases h
  | m0 :: l, b, j, m, h => by
    simp only [newE, lookM] at h
    split at h
    · rename_i e
      have e := Nat.eq_of_beq_eq_true e
      subst e
      simp only [Nat.sub_self, List.getElem?_cons_zero]
      exact ⟨Nat.le_refl _, h⟩
    · obtain ⟨h1, h2⟩ := newE_look l (b + 1) j m h
      refine ⟨by omega, ?_⟩
      rw [show j - b = (j - (b + 1)) + 1 from by omega, List.getElem?_cons_succ]
      exact h2
theorem hasK_look {α : Type} : ∀ {l : List (Nat × α)} {t : Nat}, hasK l t = true → ∃ v, look l t = some v
  | (k, v) :: l, t, h => by
    simp only [hasK, Bool.or_eq_true] at h
    simp only [look]
    by_cases e : Nat.beq k t = true
    · exact ⟨v, by rw [if_pos e]⟩
    · rw [if_neg e]; exact hasK_look (h.resolve_left e)
theorem look_lookM_none : ∀ {l : List (Nat × Option MB)} {j : Nat}, look l j = some none → hasK l j = true ∧ lookM l j = none
  | (k, v) :: l, j, h => by
    simp only [look] at h
    simp only [hasK, lookM]
    by_cases e : Nat.beq k j = true
    · rw [if_pos e] at h
      rw [if_pos e, e]
      injection h with h
      exact ⟨rfl, h⟩
    · rw [if_neg e] at h
      rw [if_neg e]
      obtain ⟨h1, h2⟩ := look_lookM_none h
      exact ⟨by rw [h1]; simp, h2⟩
end

/-- At a loop's head, from the state S1 (the loop's beginning or a round's end). -/
theorem head_sim {Φ : Sig} {en : En} {H : Head} {S S1 : St} {σ : List T} {π : List (Option Nat)} {ρe ρ1 : Env} {βe β1 : Map} {ae a : Act} {we w : World}
    (hstart : okStart H S = true) (hok : okHead H S.nv S.nb σ π S1 = true)
    (he : Sim Φ ρe en S βe ae we) (h1 : Sim Φ ρ1 en S1 β1 a w)
    (hfs : H.fa.hold Φ (upd ρe S.nv (σ.map (T.den Φ ρ1)))) (hρ : ∀ i, i < S.nv → ρ1 i = ρe i) (hβ : ∀ j, j < S.nb → β1 j = βe j)
    (k1 : ∀ t, hasK H.tm t = false → ∀ v, look S.tm t = some v → look S1.tm t = some v)
    (k2 : ∀ j, j < S.nb → hasK H.old j = false → lookM S1.me j = lookM S.me j)
    (k3 : ∀ d d1, S.me = d ++ en.base → S1.me = d1 ++ en.base → (∀ j, j < en.nb0 → hasK d1 j = true → hasK (H.old ++ (newE S.nb H.new ++ d)) j = true) ∧
      (∀ j, j < en.nb0 → hasK (H.old ++ (newE S.nb H.new ++ d)) j = true → (∃ m, lookM en.base j = some m ∧ m.rw = true)) ∧ (∀ k, k < en.nb0 → hasK H.old k = false → hasK d1 k = true → lookM d1 k = none → lookM d k = none)) :
    ∃ β2, Sim Φ (upd ρe S.nv (σ.map (T.den Φ ρ1))) en (H.st S) β2 a w ∧ (∀ j, j < S.nb → β2 j = βe j) ∧ (σ.map (T.den Φ ρ1)).length = H.n := by
  obtain ⟨d, hd, hce⟩ := he.cur
  obtain ⟨d1, hd1, hc1⟩ := h1.cur
  obtain ⟨q1, q2, q3⟩ := k3 d d1 hd hd1
  simp only [okStart, Bool.and_eq_true] at hstart
  obtain ⟨_, lo1, lo2, lo3, lo4, lo5, lo6, own⟩ := hstart
  simp only [okHead, Bool.and_eq_true] at hok
  obtain ⟨c1, c2, c3, c4⟩ := hok
  have hn : σ.length = H.n := by rw [← lenN_eq]; exact Nat.eq_of_beq_eq_true c1
  obtain ⟨n1, n2, n3⟩ := okNew_mem c4
  -- the new map
  let β2 : Map := fun j => if j < S.nb then βe j else match nthO π (j - S.nb) with
    | some (some j') => β1 j'
    | some none => some ⟨0, 0, 0⟩
    | none => none
  have b2lo : ∀ j, j < S.nb → β2 j = βe j := fun j hj => by simp only [β2, if_pos hj]
  have b2hi : ∀ i j', π[i]? = some (some j') → β2 (S.nb + i) = β1 j' := fun i j' hi => by
    simp only [β2, if_neg (show ¬ S.nb + i < S.nb from by omega), nthO_get, Nat.add_sub_cancel_left, hi]
  have b2ph : ∀ i, π[i]? = some none → β2 (S.nb + i) = some ⟨0, 0, 0⟩ := fun i hi => by
    simp only [β2, if_neg (show ¬ S.nb + i < S.nb from by omega), nthO_get, Nat.add_sub_cancel_left, hi]
  have fits : Fits ⟨S.nv, σ, S.nb, π⟩ β1 β2 := by
    refine ⟨fun j j' pl hj hp => ?_, fun j hj => ?_⟩
    · unfold nmOf at hj
      split at hj
      · rename_i hle
        have hle : S.nb ≤ j := Nat.le_of_ble_eq_true hle
        rw [nthO_get] at hj
        have := b2hi (j - S.nb) j' hj
        rw [show S.nb + (j - S.nb) = j from by omega] at this
        rw [this]; exact hp
      · rename_i hle
        injection hj with hj
        injection hj with hj
        subst hj
        have hlt : j < S.nb := by
          rcases Nat.lt_or_ge j S.nb with h | h
          · exact h
          · exact absurd (Nat.ble_eq.mpr h) hle
        rw [b2lo j hlt, ← hβ j hlt]; exact hp
    · unfold nmOf at hj
      split at hj
      · rename_i hle
        have hle : S.nb ≤ j := Nat.le_of_ble_eq_true hle
        rw [nthO_get] at hj
        have := b2ph (j - S.nb) hj
        rw [show S.nb + (j - S.nb) = j from by omega] at this
        exact this
      · cases hj
  have b2le1 : ∀ j, j < S.nb → β2 j = β1 j := fun j hj => by rw [b2lo j hj, hβ j hj]
  have ele : βe.le β1 := fun j pl hj => by
    rcases Nat.lt_or_ge j S.nb with h | h
    · rw [hβ j h]; exact hj
    · rw [he.free j h] at hj; cases hj
  have ele2 : βe.le β2 := fun j pl hj => by
    rcases Nat.lt_or_ge j S.nb with h | h
    · rw [b2lo j h]; exact hj
    · rw [he.free j h] at hj; cases hj
  -- the environment
  let ρ2 : Env := upd ρe S.nv (σ.map (T.den Φ ρ1))
  have agA : ∀ i, i < S.nv + H.n → upd ρ1 S.nv (σ.map (T.den Φ ρ1)) i = ρ2 i := upd_agree hρ (by rw [List.length_map, hn]; exact Nat.le_refl _)
  have agB : ∀ i, i < S.nv → ρ1 i = ρ2 i := fun i hi => by show _ = upd _ _ _ i; rw [upd_lo _ hi]; exact hρ i hi
  have agC : ∀ i, i < S.nv → ρe i = ρ2 i := fun i hi => by show _ = upd _ _ _ i; rw [upd_lo _ hi]
  -- the blocks that are seen at the head, and where they come from
  have src : ∀ j m, lookM (H.st S).me j = some m → (∃ j' x pl, lookM S1.me j' = some x ∧ β1 j' = some pl ∧ β2 j = some pl ∧ m.rep (T.den Φ ρ2) β2 w pl ∧ (m.rw = true → x.rw = true) ∧ ((j < S.nb ∧ j' = j) ∨ (S.nb ≤ j ∧ π[j - S.nb]? = some (some j') ∧ (S.nb ≤ j' ∨ look H.old j' = some none)))) ∨ (β2 j = some ⟨0, 0, 0⟩ ∧ m.rep (T.den Φ ρ2) β2 w ⟨0, 0, 0⟩) := by
    intro j m hj
    simp only [Head.st] at hj
    rw [lookM_append] at hj
    split at hj
    · rename_i hk
      obtain ⟨g1, g2⟩ := okOld_mem c3 hk
      obtain ⟨x, hx, hox⟩ := g2 m hj
      obtain ⟨pl, hp, hr⟩ := hc1.me.1 j x hx
      obtain ⟨r1, r2⟩ := okM_rep fits hox hr
      have hml : m.k.lo (S.nv + H.n) = true := loMe_look lo5 hj
      exact .inl ⟨j, x, pl, hx, hp, by rw [b2le1 j g1]; exact hp, ⟨Blk.rep_lo agA hml r1.1, r1.2⟩, r2, .inl ⟨g1, rfl⟩⟩
    · rename_i hk
      rw [lookM_append] at hj
      split at hj
      · obtain ⟨g1, g2⟩ := newE_look _ _ _ _ hj
        have hml : m.k.lo (S.nv + H.n) = true := by
          have : ∀ (l : List MB) (i : Nat), loMbs (S.nv + H.n) l = true → l[i]? = some m → m.k.lo (S.nv + H.n) = true := by
            intro l
            induction l with
            | nil => intro i _ h; simp at h
            | cons y l ih =>
              intro i hl h
              simp only [loMbs, Bool.and_eq_true] at hl
              cases i with
              | zero => simp only [List.getElem?_cons_zero, Option.some.injEq] at h; rw [← h]; exact hl.1
              | succ i => simp only [List.getElem?_cons_succ] at h; exact ih i hl.2 h
          exact this H.new _ lo6 g2
        have ej : S.nb + (j - S.nb) = j := by omega
        rcases n2 (j - S.nb) m g2 with ⟨j', x, e1, e2, e3, e4, _⟩ | ⟨e1, e2⟩
        · obtain ⟨pl, hp, hr⟩ := hc1.me.1 j' x e2
          obtain ⟨r1, r2⟩ := okM_rep fits e3 hr
          refine .inl ⟨j', x, pl, e2, hp, ?_, ⟨Blk.rep_lo agA hml r1.1, r1.2⟩, r2, .inr ⟨g1, e1, e4⟩⟩
          have := b2hi _ _ e1
          rw [ej] at this
          rw [this]; exact hp
        · refine .inr ⟨?_, Blk.rep_lo agA hml (okPh_rep e2), fun _ => .inl rfl⟩
          have := b2ph _ e1
          rw [ej] at this
          exact this
      · have hlt : j < S.nb := by
          rcases Nat.lt_or_ge j S.nb with h | h
          · exact h
          · obtain ⟨pl, hp, _⟩ := hce.me.1 j m hj
            rw [he.free j h] at hp; cases hp
        have hx := k2 j hlt (by simpa using hk)
        rw [hj] at hx
        obtain ⟨pl, hp, hr⟩ := hc1.me.1 j m hx
        obtain ⟨ple, hpe, hre⟩ := hce.me.1 j m hj
        have hml : m.k.lo S.nv = true := loMe_look lo2 hj
        have hkn : known β2 m.k.nm := fun i hi => by
          obtain ⟨p, hp⟩ := Blk.rep_known hre.1 i hi
          exact ⟨p, ele2 i p hp⟩
        have hkn1 : known βe m.k.nm := Blk.rep_known hre.1
        refine .inl ⟨j, m, pl, hx, hp, by rw [b2le1 j hlt]; exact hp, ⟨?_, hr.2⟩, id, .inl ⟨hlt, rfl⟩⟩
        exact Blk.rep_le ele2 (Blk.rep_back ele hkn1 (Blk.rep_lo agB hml hr.1))
  refine ⟨β2, ⟨⟨H.old ++ (newE S.nb H.new ++ d), ?_, ?_⟩, ?_, ?_, ?_⟩, b2lo, by rw [List.length_map]; exact hn⟩
  · simp only [Head.st, hd, List.append_assoc]
  · refine ⟨?_, ⟨?_, ?_⟩, ?_, hc1.size, hc1.defers, ?_, ?_⟩
    · -- slots
      intro t v hv hne
      simp only [Head.st] at hv
      rw [look_append] at hv
      cases hk : look H.tm t with
      | some y0 =>
        rw [hk] at hv
        injection hv with hv
        subst hv
        rcases okTm_mem c2 hk with e | ⟨x, hx, hox⟩
        · exact absurd e hne
        · have hxu : x ≠ .u := fun e => by
            subst e
            cases y0 <;> first | exact hne rfl | (simp [okV] at hox)
          obtain ⟨y, hy, hr⟩ := hc1.tm t x hx hxu
          exact ⟨y, hy, V.rep_lo agA (loTm_look lo4 hk) (okV_rep fits hox hr)⟩
      | none =>
        rw [hk] at hv
        have hv : look S.tm t = some v := hv
        have hkf : hasK H.tm t = false := by
          cases h : hasK H.tm t with
          | false => rfl
          | true => obtain ⟨y0, hu⟩ := hasK_look h; rw [hk] at hu; cases hu
        obtain ⟨y, hy, hr⟩ := hc1.tm t v (k1 t hkf v hv) hne
        obtain ⟨ye, _, hre⟩ := hce.tm t v hv hne
        exact ⟨y, hy, V.rep_le ele2 (V.rep_back ele (V.rep_known hre) (V.rep_lo agB (loTm_look lo1 hv) hr))⟩
    · -- blocks
      intro j m hj
      rcases src j m hj with ⟨j', x, pl, _, _, e3, e4, _⟩ | ⟨e1, e2⟩
      · exact ⟨pl, e3, e4⟩
      · exact ⟨_, e1, e2⟩
    · intro j k m m' pl pl' hne hj hk hrw hp hp' hs hs'
      rcases src j m hj with ⟨j', x, q, e1, e2, e3, e4, e5, e6⟩ | ⟨e1, _⟩
      · rcases src k m' hk with ⟨k', y, q', f1, f2, f3, f4, f5, f6⟩ | ⟨f1, _⟩
        · rw [e3] at hp; injection hp with hp; subst hp
          rw [f3] at hp'; injection hp' with hp'; subst hp'
          have seen : ∀ i m, lookM (H.st S).me i = some m → look H.old i ≠ some none := by
            intro i m hi hl
            obtain ⟨l1, l2⟩ := look_lookM_none hl
            simp only [Head.st] at hi
            rw [lookM_append, if_pos l1, l2] at hi
            cases hi
          have hne' : j' ≠ k' := by
            rcases e6 with ⟨a1, rfl⟩ | ⟨a1, a2, a3⟩
            · rcases f6 with ⟨b1, rfl⟩ | ⟨b1, b2, b3⟩
              · exact hne
              · rcases b3 with b3 | b3
                · omega
                · exact fun e => seen j' m hj (by rw [e]; exact b3)
            · rcases f6 with ⟨b1, rfl⟩ | ⟨b1, b2, b3⟩
              · rcases a3 with a3 | a3
                · omega
                · exact fun e => seen k' m' hk (by rw [← e]; exact a3)
              · exact n3 _ _ _ _ (by omega) a2 b2
          exact hc1.me.2 j' k' x y q q' hne' e1 f1 (e5 hrw) e2 f2 hs hs'
        · rw [f1] at hp'; injection hp' with hp'; subst hp'
          exact absurd rfl hs'
      · rw [e1] at hp; injection hp with hp; subst hp
        exact absurd rfl hs
    · -- the heap
      intro j pl hj hs
      rcases Nat.lt_or_ge j S.nb with h | h
      · rw [b2le1 j h] at hj
        exact hc1.heap j pl hj hs
      · simp only [β2, if_neg (show ¬ j < S.nb from by omega)] at hj
        split at hj
        · rename_i j' _; exact hc1.heap j' pl hj hs
        · injection hj with hj; subst hj; exact absurd rfl hs
        · cases hj
    · intro j
      simp only [Head.st, hd, List.append_assoc]
    · -- what was done
      have hr1 := hc1.run
      have back : ∀ k, k < en.nb0 → hasK d1 k = true → lookM d1 k = none → hasK (H.old ++ (newE S.nb H.new ++ d)) k = true ∧ lookM (H.old ++ (newE S.nb H.new ++ d)) k = none := by
        intro k hk g1 g2
        refine ⟨q1 k hk g1, ?_⟩
        rw [lookM_append]
        split
        · rename_i ho
          cases hl : lookM H.old k with
          | none => rfl
          | some m =>
            obtain ⟨_, g⟩ := okOld_mem c3 ho
            obtain ⟨x, hx, _⟩ := g m hl
            rw [hd1, lookM_append, if_pos g1, g2] at hx
            cases hx
        · rename_i ho
          rw [lookM_append]
          split
          · rename_i hw
            have := (newE_has _ _ _).mp hw
            have := he.lo
            omega
          · exact q3 k hk (by simpa using ho) g1 g2
      refine ⟨fun j hj => ?_, hr1.os, hr1.tape, hr1.output, hr1.size, fun b hb hh => ?_, fun j hj hlt => q2 j hlt hj, fun j pl hj hp hs => ?_⟩
      · have := he.lo
        rw [b2le1 j (by omega)]; exact hr1.old j hj
      · exact hr1.kept b hb (fun j pl hj hlt hp hs => hh j pl (q1 j hlt hj) hlt hp hs)
      · have prev : ∀ i pl, en.nb0 ≤ i → β1 i = some pl → pl.sz ≠ 0 → en.w0.heap.size ≤ pl.b ∨ ∃ k pk, hasK (H.old ++ (newE S.nb H.new ++ d)) k = true ∧ lookM (H.old ++ (newE S.nb H.new ++ d)) k = none ∧ k < en.nb0 ∧ en.β0 k = some pk ∧ pk.sz ≠ 0 ∧ pl.b = pk.b := by
          intro i pl hi hp hs
          rcases hr1.new i pl hi hp hs with h | ⟨k, pk, g1, g2, g3, g4⟩
          · exact .inl h
          · obtain ⟨l1, l2⟩ := back k g3 g1 g2
            exact .inr ⟨k, pk, l1, l2, g3, g4⟩
        rcases Nat.lt_or_ge j S.nb with h | h
        · rw [b2le1 j h] at hp
          exact prev j pl hj hp hs
        · simp only [β2, if_neg (show ¬ j < S.nb from by omega)] at hp
          split at hp
          · rename_i j' hπ
            rcases Nat.lt_or_ge j' en.nb0 with hl | hl
            · rw [nthO_get] at hπ
              rw [hr1.old j' hl] at hp
              have hlen : j - S.nb < H.new.length := by rw [← n1]; exact (List.getElem?_eq_some_iff.1 hπ).1
              rcases n2 (j - S.nb) _ (List.getElem?_eq_getElem hlen) with ⟨j2, x, e1, e2, e3, e4, _⟩ | ⟨e1, _⟩
              · rw [hπ] at e1
                injection e1 with e1
                injection e1 with e1
                subst e1
                have := he.lo
                rcases e4 with e4 | e4
                · have e4 : S.nb ≤ j' := e4
                  omega
                · obtain ⟨l1, l2⟩ := look_lookM_none e4
                  exact .inr ⟨j', pl, by rw [hasK_append, l1]; rfl, by rw [lookM_append, if_pos l1, l2], hl, hp, hs, rfl⟩
              · rw [hπ] at e1; cases e1
            · exact prev j' pl hl hp hs
          · injection hp with hp; subst hp; exact absurd rfl hs
          · cases hp
  · intro t p hm
    simp only [Head.st, List.mem_append] at hm
    rcases hm with hm | hm
    · exact hfs t p hm
    · exact loFa_hold agC lo3 he.fa t p hm
  · intro j hj
    have hj : S.nb + lenN H.new ≤ j := hj
    rw [lenN_eq] at hj
    simp only [β2, if_neg (show ¬ j < S.nb from by omega), nthO_get]
    rw [List.getElem?_eq_none (by omega)]
  · show en.nb0 ≤ S.nb + _
    have := he.lo
    omega
end Go.Proofs.Ytlgiibchnnaceaa.Sx
