/- Sx, part 12: regions, in the text's order and in any order. Conditions: none. -/
import Derived.Test.YtlgiibchnnaceaaSxR
import Derived.Test.YtlgiibchnnaceaaSxG
import Derived.Orders
set_option linter.unusedVariables false
set_option linter.unusedSimpArgs false
namespace Go.Proofs.Ytlgiibchnnaceaa.Sx
open Go Go.RowKit
section
variable {Φ : Sig} {ρ : Env}

theorem O.run_some {α γ : Type} {k : Facts → α → O γ} {b : γ} : ∀ {o : O α} {fa : Facts}, (O.run fa o k).val (T.den Φ ρ) = some b → fa.hold Φ ρ → ∃ a fa', o.val (T.den Φ ρ) = some a ∧ Facts.hold Φ ρ fa' ∧ (k fa' a).val (T.den Φ ρ) = some b
  | .ret a, fa, h, hf => ⟨a, fa, rfl, hf, h⟩
  | .fail _, _, h, _ => by simp [O.run, O.val] at h
  | .split t x y, fa, h, hf => by
    simp only [O.run] at h
    have hn := nrmB_ok hf t
    split at h
    · rename_i hd
      obtain ⟨a, fa', h1, h2⟩ := O.run_some h hf
      exact ⟨a, fa', by simp only [O.val]; rw [← hn, decF_ok hf hd, if_pos rfl]; exact h1, h2⟩
    · rename_i hd
      obtain ⟨a, fa', h1, h2⟩ := O.run_some h hf
      exact ⟨a, fa', by simp only [O.val]; rw [← hn, decF_ok hf hd, if_neg (by simp)]; exact h1, h2⟩
    · simp only [O.val] at h
      split at h
      · rename_i hp
        obtain ⟨a, fa', h1, h2⟩ := O.run_some h (addF_ok hp hf)
        exact ⟨a, fa', by simp only [O.val]; rw [← hn, if_pos hp]; exact h1, h2⟩
      · rename_i hp
        obtain ⟨a, fa', h1, h2⟩ := O.run_some h (addF_ok (by simpa using hp) hf)
        exact ⟨a, fa', by simp only [O.val]; rw [← hn, if_neg hp]; exact h1, h2⟩
  | .chk t x, fa, h, hf => by
    simp only [O.run] at h
    have hn := nrmB_ok hf t
    split at h
    · rename_i hd
      obtain ⟨a, fa', h1, h2⟩ := O.run_some h hf
      exact ⟨a, fa', by simp only [O.val]; rw [← hn, decF_ok hf hd, if_pos rfl]; exact h1, h2⟩
    · simp only [O.val] at h
      split at h
      · rename_i hp
        obtain ⟨a, fa', h1, h2⟩ := O.run_some h (addF_ok hp hf)
        exact ⟨a, fa', by simp only [O.val]; rw [← hn, if_pos hp]; exact h1, h2⟩
      · cases h
/-! Values made plain. -/
theorem nrmC_rep {fa : Facts} (hf : fa.hold Φ ρ) {β : Map} {x : C} {v : Value} (h : x.rep (T.den Φ ρ) β v) : (nrmC fa x).rep (T.den Φ ρ) β v := by
  cases x <;> simp only [nrmC, C.rep, nrmI_ok hf, nrmB_ok hf, nrmS_ok hf] at h ⊢ <;> exact h
theorem nrmV_rep {fa : Facts} (hf : fa.hold Φ ρ) {β : Map} {x : V} {v : Value} (h : x.rep (T.den Φ ρ) β v) : (nrmV fa x).rep (T.den Φ ρ) β v := by
  unfold nrmV
  split
  · exact nrmC_rep hf h
  · exact h

/-! Names. -/
theorem hasN_mem : ∀ {l : List Nat} {j : Nat}, hasN l j = true ↔ j ∈ l
  | [], j => by simp [hasN]
  | k :: l, j => by
    simp only [hasN, Bool.or_eq_true, List.mem_cons, hasN_mem (l := l)]
    constructor
    · rintro (h | h)
      · exact .inl (Nat.eq_of_beq_eq_true h).symm
      · exact .inr h
    · rintro (h | h)
      · subst h; exact .inl (Nat.beq_refl _)
      · exact .inr h
theorem onceN_acc : ∀ (l acc : List Nat) (j : Nat), j ∈ acc → j ∈ onceN l acc
  | [], acc, j, h => h
  | k :: l, acc, j, h => by
    simp only [onceN]
    split
    · exact onceN_acc l acc j h
    · exact onceN_acc l (k :: acc) j (List.mem_cons_of_mem _ h)
theorem fetch_congr {me me' : Nat → Option MB} : ∀ (ns : List Nat), (∀ j ∈ ns, me' j = me j) → fetch me' ns = fetch me ns
  | [], _ => rfl
  | j :: ns, h => by
    simp only [fetch, h j List.mem_cons_self, fetch_congr ns (fun i hi => h i (List.mem_cons_of_mem _ hi))]
theorem footN_congr {me me' : Nat → Option MB} (c : Bool) (vs : List V) (h : ∀ j ∈ footN c me vs, me' j = me j) : footN c me' vs = footN c me vs ∧ fetch me' (footN c me vs) = fetch me (footN c me vs) := by
  refine ⟨?_, fetch_congr _ h⟩
  unfold footN at h ⊢
  cases c with
  | false => rfl
  | true =>
    simp only [if_true] at h ⊢
    have e1 : fetch me' (onceN (namesVs vs) []) = fetch me (onceN (namesVs vs) []) := fetch_congr _ (fun j hj => h j (onceN_acc _ _ _ (onceN_acc _ _ _ hj)))
    rw [e1]
    have e2 : fetch me' (onceN (namesBs (fetch me (onceN (namesVs vs) []))) (onceN (namesVs vs) [])) = fetch me (onceN (namesBs (fetch me (onceN (namesVs vs) []))) (onceN (namesVs vs) [])) := fetch_congr _ (fun j hj => h j (onceN_acc _ _ _ hj))
    rw [e2]
theorem look_fetch {me : Nat → Option MB} : ∀ {ns : List Nat} {j : Nat} {m : MB}, look (fetch me ns) j = some m → me j = some m
  | [], _, _, h => by cases h
  | i :: ns, j, m, h => by
    simp only [fetch] at h
    split at h
    · rename_i m' hm
      simp only [look] at h
      split at h
      · rename_i e
        rw [← Nat.eq_of_beq_eq_true e, hm]; exact h
      · exact look_fetch h
    · exact look_fetch h
theorem memRep_sub {E : Ev} {β : Map} {w : World} {me me' : Nat → Option MB} (h : memRep E β w me) (hs : ∀ j m, me' j = some m → me j = some m) : memRep E β w me' :=
  ⟨fun j m hj => h.1 j m (hs j m hj), fun j j' m m' pl pl' hne hj hj' => h.2 j j' m m' pl pl' hne (hs j m hj) (hs j' m' hj')⟩

/-! Slots. -/
def tmRep (E : Ev) (β : Map) (tm : Nat → Option V) (tmps : Array Value) : Prop := ∀ t v, tm t = some v → v ≠ .u → ∃ x, tmps[t]? = some x ∧ v.rep E β x
theorem opdVs_congr {tm tm' : List (Nat × V)} : ∀ (xs : List Operand), (∀ t ∈ slotsOf xs, look tm' t = look tm t) → opdVs tm' xs = opdVs tm xs
  | [], _ => rfl
  | x :: xs, h => by
    have ih := opdVs_congr (tm := tm) (tm' := tm') xs (fun t ht => h t (by cases x <;> simp only [slotsOf] <;> first | exact ht | exact List.mem_cons_of_mem _ ht))
    simp only [opdVs, ih]
    congr 1
    cases x with
    | tmp t => simp only [opdV]; rw [h t (by simp [slotsOf])]
    | const v => rfl
    | global g => rfl
    | func f => rfl
theorem opdV_rep {β : Map} {tm : List (Nat × V)} {a : Act} (h : tmRep (T.den Φ ρ) β (look tm) a.tmps) (x : Operand) : (opdV tm x).rep (T.den Φ ρ) β (a.eval x) := by
  cases x with
  | tmp t =>
    simp only [opdV]
    split
    · rename_i v hv
      by_cases hne : v = .u
      · subst hne; trivial
      obtain ⟨y, hy, hr⟩ := h t v hv hne
      have : a.eval (.tmp t) = y := by
        simp only [Act.eval]
        rw [Array.getD_eq_getD_getElem?, hy]; rfl
      rw [this]; exact hr
    · trivial
  | const v => exact constV_ok v
  | global g => trivial
  | func f => rfl
theorem opdVs_rep {β : Map} {tm : List (Nat × V)} {a : Act} (h : tmRep (T.den Φ ρ) β (look tm) a.tmps) : ∀ xs : List Operand, repVs (T.den Φ ρ) β (opdVs tm xs) (xs.map a.eval)
  | [] => trivial
  | x :: xs => ⟨opdV_rep h x, opdVs_rep h xs⟩
theorem tmRep_le {E : Ev} {β β' : Map} {tm : Nat → Option V} {tmps : Array Value} (h : tmRep E β tm tmps) (hb : β.le β') : tmRep E β' tm tmps := fun t v hv hne => by
  obtain ⟨x, hx, hr⟩ := h t v hv hne
  exact ⟨x, hx, V.rep_le hb hr⟩
theorem tmRep_put {E : Ev} {β : Map} {tm : List (Nat × V)} {a : Act} {d : Option Nat} {v : V} {x : Value} (h : tmRep E β (look tm) a.tmps) (hv : v.rep E β x) (hd : dstOk d a.tmps.size = true) : tmRep E β (look (bind1 d v ++ tm)) (a.put d x).tmps := by
  cases d with
  | none => exact h
  | some d =>
    have hd := Nat.le_of_ble_eq_true hd
    intro t y0 hu hne
    simp only [bind1, List.cons_append, List.nil_append, look] at hu
    split at hu
    · rename_i e
      have e := Nat.eq_of_beq_eq_true e
      subst e
      injection hu with hu
      subst hu
      refine ⟨x, ?_, hv⟩
      simp only [Act.put]
      rw [Array.getElem?_setIfInBounds, if_pos rfl, if_pos (by omega)]
    · rename_i e
      obtain ⟨y, hy, hr⟩ := h t y0 hu hne
      refine ⟨y, ?_, hr⟩
      simp only [Act.put]
      rw [Array.getElem?_setIfInBounds_ne (fun e' => e (by rw [e']; exact Nat.beq_refl _))]
      exact hy
theorem put_size (a : Act) (d : Option Nat) (v : Value) : (a.put d v).tmps.size = a.tmps.size := by cases d <;> simp [Act.put]
theorem put_defers (a : Act) (d : Option Nat) (v : Value) : (a.put d v).defers = a.defers := by cases d <;> rfl

/-! One operation of a region. -/
def guardIs (Φ : Sig) (ρ : Env) (ops : Array Oper) (o : Oper) (tm : Nat → Option V) (p : Bool) : Prop :=
  match o.guard with
  | none => p = true
  | some (_, want) => ∃ d t, guardSlot ops o = some d ∧ tm d = some (.w (.c (.b t))) ∧ bbeq (t.den Φ ρ).bool want = p
def OpSpec (X : Ctx) (Φ : Sig) (ρ : Env) (ops : Array Oper) (n : Nat) (o : Oper) (S : St) (it : Item) : Prop :=
  dstOk o.dst n = true ∧ it.dst = o.dst ∧ it.nb = S.nb ∧ (∀ d, guardSlot ops o = some d → d ∈ it.sr) ∧ it.nb ≤ it.nb' ∧
  ((guardIs Φ ρ ops o (look S.tm) true ∧ (∀ t ∈ slotsOf o.op.operands.toList, t ∈ it.sr) ∧ it.br = footN (isCall o.op) (lookM S.me) (opdVs S.tm o.op.operands.toList) ∧
      ∃ fa res, Facts.hold Φ ρ fa ∧ (opCore X fa o.op (fetch (lookM S.me) it.br) S.nb (opdVs S.tm o.op.operands.toList)).val (T.den Φ ρ) = some res ∧ (∀ β v, res.val.rep (T.den Φ ρ) β v → it.val.rep (T.den Φ ρ) β v) ∧ it.eff = res.eff ∧ it.nb' = res.nb) ∨
   (guardIs Φ ρ ops o (look S.tm) false ∧ it.val = .u ∧ it.eff = [] ∧ it.nb' = S.nb))
theorem evRun_spec {X : Ctx} {ops : Array Oper} {o : Oper} {S : St} {fa fa' : Facts} {it : Item} (h : (evRun X ops o S fa).val (T.den Φ ρ) = some (it, fa')) (hf : fa.hold Φ ρ) : fa'.hold Φ ρ ∧ it.dst = o.dst ∧ it.nb = S.nb ∧ (∀ d, guardSlot ops o = some d → d ∈ it.sr) ∧ it.nb ≤ it.nb' ∧
    (∀ t ∈ slotsOf o.op.operands.toList, t ∈ it.sr) ∧ it.br = footN (isCall o.op) (lookM S.me) (opdVs S.tm o.op.operands.toList) ∧
      ∃ fa res, Facts.hold Φ ρ fa ∧ (opCore X fa o.op (fetch (lookM S.me) it.br) S.nb (opdVs S.tm o.op.operands.toList)).val (T.den Φ ρ) = some res ∧ (∀ β v, res.val.rep (T.den Φ ρ) β v → it.val.rep (T.den Φ ρ) β v) ∧ it.eff = res.eff ∧ it.nb' = res.nb := by
  unfold evRun at h
  obtain ⟨res, fa1, h1, h2, h3⟩ := O.run_some h hf
  split at h3
  case isFalse => cases h3
  rename_i hle
  simp only [O.val] at h3
  injection h3 with h3
  injection h3 with e1 e2
  subst e1 e2
  exact ⟨h2, rfl, rfl, fun d hd => by simp [hd], Nat.le_of_ble_eq_true hle, fun t ht => by simp [ht], rfl, fa, res, hf, h1, fun β v hr => nrmV_rep h2 hr, rfl, rfl⟩
theorem evOp_spec {X : Ctx} {ops : Array Oper} {n : Nat} {o : Oper} {S : St} {it : Item} {fa' : Facts} (h : (evOp X ops n o S).val (T.den Φ ρ) = some (it, fa')) (hf : S.fa.hold Φ ρ) : fa'.hold Φ ρ ∧ OpSpec X Φ ρ ops n o S it := by
  unfold evOp at h
  split at h
  · rename_i hd
    split at h
    · rename_i hg
      obtain ⟨h1, h2, h3, h4, h4b, h5, h6, h7⟩ := evRun_spec h hf
      exact ⟨h1, hd, h2, h3, h4, h4b, .inl ⟨by unfold guardIs; rw [hg], h5, h6, h7⟩⟩
    · rename_i j want hg
      split at h
      · cases h
      · rename_i d hgs
        split at h
        · rename_i t ht
          obtain ⟨p, fa1, h1, h2, h3⟩ := O.run_some h hf
          rw [splT_val hEb] at h1
          have hp : (t.den Φ ρ).bool = p := by
            split at h1
            · rename_i ht'; simp only [O.val] at h1; injection h1 with h1; rw [ht', h1]
            · rename_i ht'; simp only [O.val] at h1; injection h1 with h1; rw [← h1]; simpa using ht'
          try simp only at h3
          split at h3
          · rename_i hb
            obtain ⟨g1, g2, g3, g4, g4b, g5, g6, g7⟩ := evRun_spec h3 h2
            refine ⟨g1, hd, g2, g3, g4, g4b, .inl ⟨?_, g5, g6, g7⟩⟩
            unfold guardIs; rw [hg]; exact ⟨d, t, hgs, ht, by rw [hp]; exact hb⟩
          · rename_i hb
            simp only [O.val] at h3
            injection h3 with h3
            injection h3 with e1 e2
            subst e1 e2
            refine ⟨h2, hd, rfl, rfl, fun d' hd' => by rw [hgs] at hd'; injection hd' with hd'; subst hd'; simp, Nat.le_refl _, .inr ⟨?_, rfl, rfl, rfl⟩⟩
            unfold guardIs; rw [hg]; exact ⟨d, t, hgs, ht, by rw [hp]; simpa using hb⟩
        · cases h
  · cases h
theorem bbeq_iff {a b : Bool} : bbeq a b = (a == b) := by cases a <;> cases b <;> rfl
theorem wanted_of {β : Map} {ops : Array Oper} {o : Oper} {tm : Nat → Option V} {tmps : Array Value} {p : Bool} (hg : guardIs Φ ρ ops o tm p) (ht : tmRep (T.den Φ ρ) β tm tmps) : Region.wanted o (yielded ops tmps) = p := by
  unfold guardIs at hg
  unfold Region.wanted
  split at hg
  · rename_i h; rw [h]; exact hg.symm
  · rename_i j want h
    rw [h]
    obtain ⟨d, t, hgs, hd, hp⟩ := hg
    obtain ⟨x, hx, hr⟩ := ht d _ hd (fun e => by cases e)
    simp only [V.rep, W.rep, C.rep] at hr
    subst hr
    unfold guardSlot at hgs
    rw [h] at hgs
    simp only at hgs
    have : yielded ops tmps j = some (t.den Φ ρ).bool := by
      unfold yielded
      rw [hgs]
      simp only [Option.bind_some, hx]
    simp only [this]
    rw [← hp, bbeq_iff]
    cases (t.den Φ ρ).bool <;> cases want <;> rfl
/-- The operation's run from a state that agrees with S where the operation looks. -/
theorem op_sim {X : Ctx} (hX : CallOk X.P Φ X.call) {ops : Array Oper} {i n : Nat} {o : Oper} (ho : ops[i]? = some o) {S : St} {it : Item} (hs : OpSpec X Φ ρ ops n o S it) {TM : List (Nat × V)} {ME : List (Nat × Option MB)} {a : Act} {w : World} {β : Map}
    (ht : ∀ t ∈ it.sr, look TM t = look S.tm t) (hmm : ∀ j ∈ it.br, lookM ME j = lookM S.me j) (htm : tmRep (T.den Φ ρ) β (look TM) a.tmps) (hm : memRep (T.den Φ ρ) β w (lookM ME)) (hb : inHeap β w) (hfree : ∀ j, isNew it.nb it.nb' j → β j = none)
    (K : Act → World → Prop) (Q : Exit → Act → World → Prop) (hK : ∀ v w' β', it.val.rep (T.den Φ ρ) β' v → StepR (T.den Φ ρ) (lookM ME) β w it.nb it.eff it.nb' β' w' → K (a.put o.dst v) w') : wpOp X.P ops Q i K a w := by
  obtain ⟨hd, hdst, hnb, hgs, hle, hcase⟩ := hs
  unfold wpOp
  rw [ho]
  simp only
  have gcongr : ∀ p, guardIs Φ ρ ops o (look S.tm) p → guardIs Φ ρ ops o (look TM) p := by
    intro p h
    unfold guardIs at h ⊢
    split at h
    · exact h
    · obtain ⟨d, t, h1, h2, h3⟩ := h
      exact ⟨d, t, h1, by rw [ht d (hgs d h1)]; exact h2, h3⟩
  rcases hcase with ⟨hg, hsl, hbr, fa, res, hfa, hres, e1, e2, e3⟩ | ⟨hg, e1, e2, e3⟩
  · rw [wanted_of (gcongr _ hg) htm, if_pos rfl]
    left
    have hvs : opdVs TM o.op.operands.toList = opdVs S.tm o.op.operands.toList := opdVs_congr _ (fun t h => ht t (hsl t h))
    have hfe : fetch (lookM ME) it.br = fetch (lookM S.me) it.br := fetch_congr _ hmm
    have hrep := opdVs_rep htm o.op.operands.toList
    rw [hvs] at hrep
    rw [hnb] at hfree hK
    rw [e3] at hfree hK
    rw [e2] at hK
    rw [← hfe] at hres
    refine opCore_sound hX hfa hres hrep hb (memRep_sub hm (fun j m h => look_fetch h)) hfree K Q (fun v w' β' h1 h2 => hK v w' β' (e1 β' v h1) ?_)
    exact { h2 with wr := fun j h hn => by obtain ⟨m, hm', hr⟩ := h2.wr j h hn; exact ⟨m, look_fetch hm', hr⟩ }
  · rw [wanted_of (gcongr _ hg) htm, if_neg (by simp)]
    refine hK undef w β (by rw [e1]; trivial) ?_
    rw [hnb, e2, e3]
    exact StepR.pure _ _ _ _ _
end
end Go.Proofs.Ytlgiibchnnaceaa.Sx
