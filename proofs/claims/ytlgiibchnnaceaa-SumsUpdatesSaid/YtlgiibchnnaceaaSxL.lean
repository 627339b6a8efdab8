/- Sx, part 19: functions and calls are as told. Conditions: none. -/
import Derived.Test.YtlgiibchnnaceaaSxK
set_option linter.unusedVariables false
set_option linter.unusedSimpArgs false
namespace Go.Proofs.Ytlgiibchnnaceaa.Sx
open Go Go.RowKit

/-! Results, one after the other. -/
theorem sem_bind_pure {α : Type} : ∀ x : Sem α, x.bind .pure = x := by
  intro x
  induction x <;> simp_all [Sem.bind]
  funext b; cases b <;> simp_all
theorem sem_bind_assoc {α β γ : Type} (f : α → Sem β) (g : β → Sem γ) : ∀ x : Sem α, (x.bind f).bind g = x.bind fun a => (f a).bind g := by
  intro x
  induction x <;> simp_all [Sem.bind]
  funext b; cases b <;> simp_all
theorem sem_lawful : LawfulMonad Sem := LawfulMonad.mk' Sem (fun x => sem_bind_pure x) (fun _ _ => rfl) (fun x f g => sem_bind_assoc f g x)
section
variable {Φ : Sig} {ρ : Env} {P : Program}
def resRun (a : Act) : ResultVar → Sem Value
  | .tmp t => pure (a.tmps.getD t undef)
  | .cell r t => do loadVar t (← asAddr (a.tmps.getD r undef))
theorem resW_ok {E : Ev} {β : Map} {a : Act} {w : World} {S : St} (hE : E = T.den Φ ρ) (ht : tmRep E β (look S.tm) a.tmps) (hm : memRep E β w (lookM S.me)) : ∀ (rs : List ResultVar) (ws : List W), (resW P S rs).val E = some ws → ∃ vs, (rs.mapM (resRun a)).run P w = .ok vs w ∧ repWs E β ws vs
  | [], ws, h => by
    simp only [resW, O.val] at h
    injection h with h
    subst h
    exact ⟨[], by simp [List.mapM_nil], trivial⟩
  | .tmp t :: rs, ws, h => by
    have := sem_lawful
    simp only [resW] at h
    split at h
    · rename_i x hx
      obtain ⟨r, h1, h2⟩ := O.bind_some h
      simp only [O.val] at h2
      injection h2 with h2
      subst h2
      obtain ⟨vs, g1, g2⟩ := resW_ok hE ht hm rs r h1
      obtain ⟨y, hy, hr⟩ := ht t _ hx (fun e => by cases e)
      refine ⟨y :: vs, ?_, hr, g2⟩
      have e : a.tmps.getD t undef = y := by rw [Array.getD_eq_getD_getElem?, hy]; rfl
      simp only [List.mapM_cons, resRun, e, Sem.run_bind, Sem.run_pure, Result.andThen_ok, g1]
    · cases h
  | .cell r t :: rs, ws, h => by
    have := sem_lawful
    simp only [resW] at h
    split at h
    · rename_i v hv
      obtain ⟨res, h1, h2⟩ := O.bind_some h
      split at h2
      · rename_i x hx
        obtain ⟨r', h3, h4⟩ := O.bind_some h2
        simp only [O.val] at h4
        injection h4 with h4
        subst h4
        obtain ⟨vs, g1, g2⟩ := resW_ok hE ht hm rs r' h3
        have hvu : v ≠ .u := fun e => by subst e; simp [opLoad, O.val] at h1
        obtain ⟨y, hy, hr⟩ := ht r v hv hvu
        subst hE
        obtain ⟨z, k1, k2, _⟩ := load_ok h1 hr (memRep_sub hm (fun j m h => look_fetch h))
        rw [hx] at k2
        refine ⟨z :: vs, ?_, k2, g2⟩
        have e : a.tmps.getD r undef = y := by rw [Array.getD_eq_getD_getElem?, hy]; rfl
        have hy' : ∃ ad, y = .pointer (some ad) := by
          unfold opLoad at h1
          split at h1
          · obtain ⟨pl, _, hq⟩ := hr; exact ⟨_, hq⟩
          · cases h1
        obtain ⟨ad, rfl⟩ := hy'
        simp only [Instr.loadAt, Instr.sureAddr, Sem.run_bind, Sem.run_pure, Result.andThen_ok] at k1
        simp only [List.mapM_cons, resRun, e, asAddr, Sem.run_bind, Sem.run_pure, Result.andThen_ok, k1, g1]
      · cases h2
    · cases h
theorem resV_ok {β : Map} {a : Act} {w : World} {S : St} {fn : Func} (ht : tmRep (T.den Φ ρ) β (look S.tm) a.tmps) (hm : memRep (T.den Φ ρ) β w (lookM S.me)) {v : V} (h : (resV P S fn.results.toList).val (T.den Φ ρ) = some v) :
    ∃ x, (results fn a.tmps).run P w = .ok x w ∧ v.rep (T.den Φ ρ) β x := by
  have := sem_lawful
  unfold resV at h
  obtain ⟨ws, h1, h2⟩ := O.bind_some h
  obtain ⟨vs, g1, g2⟩ := resW_ok rfl ht hm _ _ h1
  have hrun : (results fn a.tmps).run P w = .ok (if h : vs.toArray.size = 1 then vs.toArray[0] else .tuple vs.toArray) w := by
    have e : results fn a.tmps = fn.results.mapM (resRun a) >>= fun vs => pure (if h : vs.size = 1 then vs[0] else .tuple vs) := by
      unfold results
      congr 1
    rw [e, Array.mapM_eq_mapM_toList]
    simp only [Sem.run_bind, map_eq_pure_bind, g1, Result.andThen_ok, Sem.run_pure]
  split at h2
  · rename_i x
    simp only [O.val] at h2
    injection h2 with h2
    subst h2
    match vs, g2, hrun with
    | [y], g2, hrun => exact ⟨y, by simpa using hrun, g2.1⟩
  · rename_i hne
    simp only [O.val] at h2
    injection h2 with h2
    subst h2
    have hl : vs.length ≠ 1 := by
      intro e
      match vs, e, g2 with
      | [y], _, g2 =>
        match ws, hne, g2 with
        | [x], hne, _ => exact hne x rfl
        | [], _, g2 => exact g2
        | _ :: _ :: _, _, g2 => exact g2.2
    refine ⟨_, hrun, ?_⟩
    rw [dif_neg (by simpa using hl)]
    exact ⟨vs.toArray, rfl, by simpa using g2⟩

/-! A function's beginning. -/
theorem repVs_length {E : Ev} {β : Map} : ∀ {vs : List V} {xs : List Value}, repVs E β vs xs → vs.length = xs.length
  | [], [], _ => rfl
  | [], _ :: _, h => h.elim
  | _ :: _, [], h => h.elim
  | _ :: vs, _ :: xs, h => by simp [repVs_length h.2]
theorem initTm_look {E : Ev} {β : Map} : ∀ {vs : List V} {xs : List Value} (i : Nat) {t : Nat} {v : V}, repVs E β vs xs → look (initTm vs i) t = some v → i ≤ t ∧ ∃ x, xs[t - i]? = some x ∧ v.rep E β x
  | [], _, _, _, _, _, h => by cases h
  | _ :: _, [], _, _, _, hr, _ => hr.elim
  | y0 :: vs, x :: xs, i, t, v, hr, h => by
    simp only [initTm, look] at h
    split at h
    · rename_i e
      have e := Nat.eq_of_beq_eq_true e
      subst e
      injection h with h
      subst h
      exact ⟨Nat.le_refl _, x, by simp, hr.1⟩
    · obtain ⟨h1, y, h2, h3⟩ := initTm_look (i + 1) hr.2 h
      refine ⟨by omega, y, ?_, h3⟩
      rw [show t - i = (t - (i + 1)) + 1 from by omega, List.getElem?_cons_succ]; exact h2
theorem someMe_look : ∀ (bs : Bs) (j : Nat), lookM (someMe bs) j = look bs j
  | [], j => rfl
  | (k, m) :: bs, j => by simp only [someMe, lookM, look, someMe_look bs j]
theorem someMe_len : ∀ bs : Bs, lenN (someMe bs) = lenN bs
  | [] => rfl
  | (k, m) :: bs => by simp [someMe, lenN, someMe_len bs]

structure Done (Φ : Sig) (bs : Bs) (nb : Nat) (β : Map) (w : World) (ρ' : Env) (S' : St) (β' : Map) (w' : World) : Prop where
  me : memRep (T.den Φ ρ') β' w' (lookM S'.me)
  heap : inHeap β' w'
  run : ∃ d, S'.me = d ++ someMe bs ∧ Run (someMe bs) β w nb d β' w'
  free : ∀ j, S'.nb ≤ j → β' j = none
  lo : nb ≤ S'.nb
theorem fun_sound {X : Ctx} (hX : CallOk X.P Φ X.call) {J : Inv} {A : Anns} {f : FuncId} {vs : List V} {bs : Bs} {nb nv : Nat} {fa : Facts} {B : BK} {K : BK → Env → V × St → Prop} (h : (evFun X A f vs bs nb nv fa).ok Φ J B ρ K) (hfa : fa.hold Φ ρ)
    {args : List Value} {β : Map} {w : World} (hargs : repVs (T.den Φ ρ) β vs args) (hb : inHeap β w) (hm : memRep (T.den Φ ρ) β w (look bs)) (hfree : ∀ j, nb ≤ j → β j = none) :
    Calls X.P f args.toArray w fun e w' => ∃ x v B' ρ' S' β', e = .returned x ∧ K B' ρ' (v, S') ∧ v.rep (T.den Φ ρ') β' x ∧ Done Φ bs nb β w ρ' S' β' w' ∧ ∀ i, i < nv → ρ' i = ρ i := by
  unfold evFun at h
  split at h
  · exact h.elim
  rename_i fn hfn
  split at h
  · exact h.elim
  rename_i c hc
  split at h
  case isFalse => exact h.elim
  rename_i hsz
  have hsz : vs.length ≤ fn.ntmps := by rw [← lenN_eq]; exact Nat.le_of_ble_eq_true hsz
  have hl := repVs_length hargs
  refine calls_of_wp hfn hc ?_
  have hm' : memRep (T.den Φ ρ) β w (lookM (someMe bs)) := memRep_ext hm (someMe_look bs)
  have hsim : Sim Φ ρ ⟨fn.ntmps, someMe bs, β, w, nb⟩ ⟨initTm vs 0, someMe bs, nb, nv, fa⟩ β { tmps := args.toArray ++ Array.replicate (fn.ntmps - args.toArray.size) undef, defers := [] } w := by
    refine ⟨⟨[], rfl, ?_, hm', hb, ?_, rfl, fun _ => rfl, Run.start _ _ _ _ hfree⟩, hfa, hfree, Nat.le_refl _⟩
    · intro t v hv _
      obtain ⟨_, x, hx, hr⟩ := initTm_look 0 hargs hv
      refine ⟨x, ?_, hr⟩
      rw [Nat.sub_zero] at hx
      rw [Array.getElem?_append_left (by have := (List.getElem?_eq_some_iff.1 hx).1; simpa using this)]
      simpa using hx
    · simp; omega
  refine wp_mono (code_sound hX c _ B ρ _ (M.ok_bind h) β _ w hsim) ?_
  rintro e a' w' ⟨B', ρ', ⟨ex, S'⟩, β', h1, h2, h3, h4, h5⟩
  obtain ⟨d, hd, hcur⟩ := h3.cur
  have fin : (∃ v, (resV X.P S' fn.results.toList).val (T.den Φ ρ') = some v ∧ K B' ρ' (v, S')) → a'.defers = [] ∧ ∃ x, (results fn a'.tmps).run X.P w' = .ok x w' ∧ ∃ x' v B'' ρ'' S'' β'', Ending.returned x = .returned x' ∧ K B'' ρ'' (v, S'') ∧ v.rep (T.den Φ ρ'') β'' x' ∧ Done Φ bs nb β w ρ'' S'' β'' w' ∧ ∀ i, i < nv → ρ'' i = ρ i := by
    rintro ⟨v, g1, g2⟩
    obtain ⟨x, k1, k2⟩ := resV_ok hcur.tm hcur.me g1
    exact ⟨hcur.defers, x, k1, x, v, B', ρ', S', β', rfl, g2, k2, ⟨hcur.me, hcur.heap, ⟨d, hd, hcur.run⟩, h3.free, h3.lo⟩, h4.rho⟩
  subst h2
  cases ex with
  | norm => exact fin (M.ok_lift (M.ok_bind h1))
  | exit i => exact (show False from h1).elim
  | ret => exact fin (M.ok_lift (M.ok_bind h1))

/-! What a function has turned, as its caller sees it. -/
theorem firsts_look (old : Nat) : ∀ (l : List (Nat × Option MB)) (seen : List Nat) (j : Nat), j ∉ seen → lookM (firsts old l seen) j = lookM l j ∧ hasK (firsts old l seen) j = hasK l j
  | [], _, _, _ => ⟨rfl, rfl⟩
  | (k, m) :: l, seen, j, hj => by
    simp only [firsts]
    split
    · rename_i hs
      obtain ⟨h1, h2⟩ := firsts_look old l seen j hj
      have hne : k ≠ j := fun e => hj (by rw [← e]; exact hasN_mem.mp hs)
      have hb : Nat.beq k j = false := by
        cases h : Nat.beq k j with
        | false => rfl
        | true => exact absurd (Nat.eq_of_beq_eq_true h) hne
      rw [h1, h2]
      simp [lookM, hasK, hb]
    · simp only [lookM, hasK]
      by_cases e : Nat.beq k j = true
      · rw [if_pos e, if_pos e, e]; simp
      · have hne : j ∉ k :: seen := by
          intro hm
          rcases List.mem_cons.mp hm with h | h
          · exact e (by rw [h]; exact Nat.beq_refl _)
          · exact hj h
        obtain ⟨h1, h2⟩ := firsts_look old l (k :: seen) j hne
        rw [if_neg e, if_neg e, h1, h2]
        exact ⟨rfl, rfl⟩
theorem keepE_look (ns : List Nat) (nb hi : Nat) : ∀ (l : List (Nat × Option MB)) (j : Nat), (hasK (keepE ns nb hi l) j = true → hasK l j = true ∧ j < hi ∧ lookM (keepE ns nb hi l) j = lookM l j) ∧ (j < nb → j < hi → hasK (keepE ns nb hi l) j = hasK l j ∧ lookM (keepE ns nb hi l) j = lookM l j)
  | [], j => ⟨fun h => (by cases h), fun _ _ => ⟨rfl, rfl⟩⟩
  | (k, m) :: l, j => by
    obtain ⟨ih1, ih2⟩ := keepE_look ns nb hi l j
    simp only [keepE]
    by_cases hc : (Nat.ble nb k && !hasN ns k || Nat.ble hi k) = true
    · rw [if_pos hc]
      by_cases e : k = j
      · subst e
        have none : ∀ l : List (Nat × Option MB), hasK (keepE ns nb hi l) k = false := by
          intro l
          induction l with
          | nil => rfl
          | cons x l ih =>
            obtain ⟨k', m'⟩ := x
            simp only [keepE]
            split
            · exact ih
            · rename_i h'
              simp only [hasK, ih, Bool.or_false]
              cases hb : Nat.beq k' k with
              | false => rfl
              | true => rw [Nat.eq_of_beq_eq_true hb] at h'; exact absurd hc h'
        refine ⟨fun h => (by rw [none l] at h; cases h), fun h1 h2 => ?_⟩
        simp only [Bool.or_eq_true, Bool.and_eq_true] at hc
        rcases hc with ⟨h, _⟩ | h
        · have := Nat.le_of_ble_eq_true h; omega
        · have := Nat.le_of_ble_eq_true h; omega
      · have hb : Nat.beq k j = false := by
          cases h : Nat.beq k j with
          | false => rfl
          | true => exact absurd (Nat.eq_of_beq_eq_true h) e
        simp only [hasK, lookM, hb, Bool.false_or, Bool.false_eq_true, if_false]
        exact ⟨ih1, ih2⟩
    · rw [if_neg hc]
      simp only [hasK, lookM]
      by_cases e : Nat.beq k j = true
      · rw [if_pos e, if_pos e, e]
        refine ⟨fun _ => ⟨rfl, ?_, rfl⟩, fun _ _ => ⟨rfl, rfl⟩⟩
        simp only [Bool.or_eq_true, not_or] at hc
        have := hc.2
        rw [Nat.eq_of_beq_eq_true e] at this
        rcases Nat.lt_or_ge j hi with h | h
        · exact h
        · exact absurd (Nat.ble_eq.mpr h) this
      · rw [if_neg e, if_neg e]
        have e' : Nat.beq k j = false := by
          cases h : Nat.beq k j with
          | false => rfl
          | true => exact absurd h e
        rw [e', Bool.false_or, Bool.false_or]
        exact ⟨ih1, ih2⟩
theorem Done.step {bs : Bs} {nb : Nat} {β β' : Map} {w w' : World} {ρ' : Env} {S' : St} {v : V} (h : Done Φ bs nb β w ρ' S' β' w') (hfree : ∀ j, nb ≤ j → β j = none) : StepR (T.den Φ ρ') (look bs) β w nb (effOf v S' (lenN bs) nb) S'.nb β' w' := by
  obtain ⟨d, hd, hr⟩ := h.run
  have htake : takeN (lenN S'.me - lenN bs) S'.me = d := by rw [hd, ← someMe_len bs]; exact takeN_append d (someMe bs)
  have spec : ∀ j, (hasK (effOf v S' (lenN bs) nb) j = true → hasK d j = true ∧ j < S'.nb ∧ lookM (effOf v S' (lenN bs) nb) j = lookM d j) ∧ (j < nb → hasK (effOf v S' (lenN bs) nb) j = hasK d j ∧ lookM (effOf v S' (lenN bs) nb) j = lookM d j) := by
    intro j
    unfold effOf
    simp only [htake]
    obtain ⟨f1, f2⟩ := firsts_look nb d [] j (by simp)
    obtain ⟨k1, k2⟩ := keepE_look (onceN (namesBs (fetch (lookM S'.me) (onceN (namesBs (fetch (lookM S'.me) (onceN (v.nm ++ oldOf nb (firsts nb d [])) []))) (onceN (v.nm ++ oldOf nb (firsts nb d [])) [])))) (onceN (namesBs (fetch (lookM S'.me) (onceN (v.nm ++ oldOf nb (firsts nb d [])) []))) (onceN (v.nm ++ oldOf nb (firsts nb d [])) []))) nb S'.nb (firsts nb d []) j
    rw [f1, f2] at k1 k2
    exact ⟨k1, fun hj => k2 hj (Nat.lt_of_lt_of_le hj h.lo)⟩
  generalize effOf v S' (lenN bs) nb = eff at spec
  have hle : β.le β' := fun j pl hj => by
    rcases Nat.lt_or_ge j nb with hl | hl
    · rw [hr.old j hl]; exact hj
    · rw [hfree j hl] at hj; cases hj
  have live : ∀ j m, lookM eff j = some m → lookM S'.me j = some m := by
    intro j m hj
    have hk : hasK eff j = true := by
      cases h : hasK eff j with
      | true => rfl
      | false => rw [lookM_none h] at hj; cases hj
    obtain ⟨h1, _, h2⟩ := (spec j).1 hk
    rw [hd, lookM_append, if_pos h1, ← h2]; exact hj
  refine ⟨h.lo, hle, fun j hn => ?_, hr.os, hr.tape, hr.output, hr.size, fun b hb hk => ?_, fun j m hj => h.me.1 j m (live j m hj), fun j hj hn => ?_, fun j pl hn hj hs => ?_, fun j j' m m' pl pl' hne hn hn' hj hj' hrw hp hp' hs hs' => h.me.2 j j' m m' pl pl' hne (live j m hj) (live j' m' hj') hrw hp hp' hs hs'⟩
  · rcases Nat.lt_or_ge j nb with hl | hl
    · exact hr.old j hl
    · rw [hfree j hl, h.free j (by unfold isNew at hn; omega)]
  · refine hr.kept b hb (fun j pl hj hl hp hs => hk j pl ?_ (fun hn => by unfold isNew at hn; omega) hp hs)
    rw [((spec j).2 hl).1]; exact hj
  · obtain ⟨h1, h2, _⟩ := (spec j).1 hj
    have hl : j < nb := by unfold isNew at hn; omega
    obtain ⟨m, hm, hrw⟩ := hr.wr j h1 hl
    exact ⟨m, by rw [← someMe_look]; exact hm, hrw⟩
  · refine ⟨h.heap j pl hj hs, ?_⟩
    rcases hr.new j pl hn.1 hj hs with g | ⟨k, pk, g1, g2, g3, g4, g5, g6⟩
    · exact .inl g
    · obtain ⟨s1, s2⟩ := (spec k).2 g3
      exact .inr ⟨k, pk, by rw [s1]; exact g1, by rw [s2]; exact g2, fun hn => by unfold isNew at hn; omega, g4, g5, g6⟩

/-! Calls. -/
def ConOk (P : Program) (Φ : Sig) (f : FuncId) (c : Con) : Prop :=
  ∀ (ρ : Env) (fa : Facts), fa.hold Φ ρ → ∀ (vs : List V) (bs : Bs) (nb : Nat) (res : Res), (c fa vs bs nb).val (T.den Φ ρ) = some res → ∀ (args : List Value) (β : Map) (w : World), repVs (T.den Φ ρ) β vs args → inHeap β w → memRep (T.den Φ ρ) β w (look bs) →
    (∀ j, isNew nb res.nb j → β j = none) → Calls P f args.toArray w fun e w' => ∃ v β', e = .returned v ∧ res.val.rep (T.den Φ ρ) β' v ∧ StepR (T.den Φ ρ) (look bs) β w nb res.eff res.nb β' w'
theorem callOk_iff {call : Facts → FuncId → List V → Bs → Nat → O Res} (h : ∀ f, ConOk P Φ f (fun fa => call fa f)) : CallOk P Φ call :=
  fun ρ fa hfa f vs bs nb res hres args β w h1 h2 h3 h4 => h f ρ fa hfa vs bs nb res hres args β w h1 h2 h3 h4
theorem allLow_mem {nb : Nat} : ∀ {l : List Nat}, allLow nb l = true → ∀ j ∈ l, j < nb
  | k :: l, h, j, hj => by
    simp only [allLow, Bool.and_eq_true] at h
    rcases List.mem_cons.mp hj with e | hj
    · subst e; have := Nat.le_of_ble_eq_true h.1; omega
    · exact allLow_mem h.2 j hj
theorem keysLow_has {α : Type} {nb : Nat} : ∀ {l : List (Nat × α)}, keysLow nb l = true → ∀ {j : Nat} {x : α}, look l j = some x → j < nb
  | (k, y) :: l, h, j, x, hj => by
    simp only [keysLow, Bool.and_eq_true] at h
    simp only [look] at hj
    split at hj
    · rename_i e
      have := Nat.le_of_ble_eq_true h.1
      have := Nat.eq_of_beq_eq_true e
      omega
    · exact keysLow_has h.2 hj
theorem namesBs_mem : ∀ {bs : Bs} {j : Nat} {m : MB}, look bs j = some m → ∀ i ∈ m.k.nm, i ∈ namesBs bs
  | (k, x) :: bs, j, m, h, i, hi => by
    simp only [look] at h
    simp only [namesBs, List.mem_append]
    split at h
    · injection h with h; subst h; exact .inl hi
    · exact .inr (namesBs_mem h i hi)
theorem repVs_back {E : Ev} {β β' : Map} (hb : β'.le β) : ∀ {vs : List V} {xs : List Value}, known β' (namesVs vs) → repVs E β vs xs → repVs E β' vs xs
  | [], [], _, _ => trivial
  | [], _ :: _, _, h => h.elim
  | _ :: _, [], _, h => h.elim
  | v :: vs, x :: xs, hk, h => ⟨V.rep_back hb (fun j hj => hk j (by simp only [namesVs, List.mem_append]; exact .inl hj)) h.1, repVs_back hb (fun j hj => hk j (by simp only [namesVs, List.mem_append]; exact .inr hj)) h.2⟩
theorem repVs_known {E : Ev} {β : Map} : ∀ {vs : List V} {xs : List Value}, repVs E β vs xs → known β (namesVs vs)
  | [], [], _ => fun j hj => by simp [namesVs] at hj
  | [], _ :: _, h => h.elim
  | _ :: _, [], h => h.elim
  | v :: vs, x :: xs, h => fun j hj => by
    simp only [namesVs, List.mem_append] at hj
    exact hj.elim (V.rep_known h.1 j) (repVs_known h.2 j)
theorem StepR.widen {E : Ev} {bs : Nat → Option MB} {β βr β' : Map} {w w' : World} {nb nb' : Nat} {eff : List (Nat × Option MB)} (h : StepR E bs βr w nb eff nb' β' w') (hr : ∀ j, j < nb → βr j = β j) (hr' : ∀ j, nb ≤ j → βr j = none) (hfree : ∀ j, isNew nb nb' j → β j = none) :
    ∃ β'', β'.le β'' ∧ StepR E bs β w nb eff nb' β'' w' := by
  let β'' : Map := fun j => if nb ≤ j ∧ j < nb' then β' j else β j
  have bnew : ∀ j, isNew nb nb' j → β'' j = β' j := fun j hj => if_pos (c := nb ≤ j ∧ j < nb') hj
  have bold : ∀ j, ¬ isNew nb nb' j → β'' j = β j := fun j hj => if_neg (c := nb ≤ j ∧ j < nb') hj
  have hle : β'.le β'' := fun j pl hj => by
    by_cases hn : isNew nb nb' j
    · rw [bnew j hn]; exact hj
    · rw [h.old j hn] at hj
      rcases Nat.lt_or_ge j nb with hl | hl
      · rw [bold j hn, ← hr j hl]; exact hj
      · rw [hr' j hl] at hj; cases hj
  have hrle : βr.le β := fun j pl hj => by
    rcases Nat.lt_or_ge j nb with hl | hl
    · rw [← hr j hl]; exact hj
    · rw [hr' j hl] at hj; cases hj
  refine ⟨β'', hle, h.ge, fun j pl hj => ?_, bold, h.os, h.tape, h.output, h.size, fun b hb hk => ?_, fun j m hj => ?_, h.wr, fun j pl hn hj hs => ?_, fun j j' m m' pl pl' hne hn hn' hj hj' hrw hp hp' hs hs' => ?_⟩
  · by_cases hn : isNew nb nb' j
    · rw [hfree j hn] at hj; cases hj
    · rw [bold j hn]; exact hj
  · exact h.kept b hb (fun j pl hj hn hp hs => hk j pl hj hn (hrle j pl hp) hs)
  · obtain ⟨pl, h1, h2⟩ := h.mem j m hj
    exact ⟨pl, hle _ _ h1, Blk.rep_le hle h2.1, h2.2⟩
  · rw [bnew j hn] at hj
    obtain ⟨h1, h2⟩ := h.new j pl hn hj hs
    refine ⟨h1, h2.imp id ?_⟩
    rintro ⟨k, pk, g1, g2, g3, g4, g5, g6⟩
    exact ⟨k, pk, g1, g2, g3, hrle _ _ g4, g5, g6⟩
  · rw [bnew j hn] at hp
    rw [bnew j' hn'] at hp'
    exact h.excl j j' m m' pl pl' hne hn hn' hj hj' hrw hp hp' hs hs'
/-- A call that is run in place. -/
theorem callIn_ok {X : Ctx} (hX : CallOk X.P Φ X.call) (A : Anns) (f : FuncId) : ConOk X.P Φ f (fun fa => callIn X A fa f) := by
  intro ρ fa hfa vs bs nb res hres args β w hargs hb hm hfree
  simp only [callIn] at hres
  split at hres
  case isFalse => cases hres
  rename_i hck
  simp only [Bool.and_eq_true] at hck
  obtain ⟨c1, c2, c3⟩ := hck
  obtain ⟨⟨v, S'⟩, h1, h2⟩ := O.bind_some hres
  simp only [O.val] at h2
  injection h2 with h2
  subst h2
  let βr : Map := fun j => if j < nb then β j else none
  have r1 : ∀ j, j < nb → βr j = β j := fun j hj => by simp only [βr, if_pos hj]
  have r2 : ∀ j, nb ≤ j → βr j = none := fun j hj => by simp only [βr]; rw [if_neg (by omega)]
  have rle : βr.le β := fun j pl hj => by
    rcases Nat.lt_or_ge j nb with hl | hl
    · rw [← r1 j hl]; exact hj
    · rw [r2 j hl] at hj; cases hj
  have hk : ∀ ns : List Nat, (∀ j ∈ ns, j < nb) → known β ns → known βr ns := fun ns hl hk j hj => by rw [r1 j (hl j hj)]; exact hk j hj
  have hargs' : repVs (T.den Φ ρ) βr vs args := repVs_back rle (hk _ (allLow_mem c1) (repVs_known hargs)) hargs
  have hb' : inHeap βr w := fun j pl hj hs => hb j pl (rle j pl hj) hs
  have hm' : memRep (T.den Φ ρ) βr w (look bs) := by
    refine ⟨fun j m hj => ?_, fun j j' m m' pl pl' hne hj hj' hrw hp hp' hs hs' => hm.2 j j' m m' pl pl' hne hj hj' hrw (rle _ _ hp) (rle _ _ hp') hs hs'⟩
    obtain ⟨pl, g1, g2⟩ := hm.1 j m hj
    refine ⟨pl, by rw [r1 j (keysLow_has c2 hj)]; exact g1, Blk.rep_back rle (hk _ (fun i hi => allLow_mem c3 i (namesBs_mem hj i hi)) (Blk.rep_known g2.1)) g2.1, g2.2⟩
  refine Calls.mono (fun_sound (J := ⟨fun _ _ _ => False, fun _ _ _ => 0⟩) hX (B := fun _ _ => False) (M.ok_toO h1) hfa hargs' hb' hm' r2) ?_
  rintro e w' ⟨x, v', B', ρ', S2, β', rfl, ⟨rfl, e2⟩, hv, hdone, _⟩
  injection e2 with e2 e3
  subst e2 e3
  obtain ⟨β'', g1, g2⟩ := (hdone.step (v := v') r2).widen r1 r2 hfree
  exact ⟨x, β'', rfl, V.rep_le g1 hv, g2⟩
def ConsOk (P : Program) (Φ : Sig) (cons : List (Nat × Con)) : Prop := ∀ f c, findCon cons f = some c → ConOk P Φ f c
theorem ctxN_P {P : Program} {A : Anns} {cons : List (Nat × Con)} : ∀ n, (ctxN P A cons n).P = P
  | 0 => rfl
  | _ + 1 => rfl
theorem ctxN_ok {A : Anns} {cons : List (Nat × Con)} (h : ConsOk P Φ cons) : ∀ n, CallOk P Φ (ctxN P A cons n).call
  | 0 => callOk_iff fun f => by
    intro ρ fa hfa vs bs nb res hres
    simp only [ctxN] at hres
    split at hres
    · rename_i c hc; exact h f c hc ρ fa hfa vs bs nb res hres
    · cases hres
  | n + 1 => callOk_iff fun f => by
    intro ρ fa hfa vs bs nb res hres
    simp only [ctxN] at hres
    split at hres
    · rename_i c hc; exact h f c hc ρ fa hfa vs bs nb res hres
    · have hX : CallOk (ctxN P A cons n).P Φ (ctxN P A cons n).call := by rw [ctxN_P]; exact ctxN_ok h n
      have := callIn_ok hX A f
      rw [ctxN_P] at this
      exact this ρ fa hfa vs bs nb res hres
end
end Go.Proofs.Ytlgiibchnnaceaa.Sx
