/- Sx, part 15: regions whose order is open. Conditions: none. -/
import Derived.Test.YtlgiibchnnaceaaSxX
set_option linter.unusedVariables false
set_option linter.unusedSimpArgs false
namespace Go.Proofs.Ytlgiibchnnaceaa.Sx
open Go Go.RowKit

def more (dn : Nat → Bool) (i : Nat) : Nat → Bool := fun j => if j = i then true else dn j
theorem more_same (dn : Nat → Bool) (i : Nat) : more dn i i = true := by simp [more]
theorem more_other {dn : Nat → Bool} {i j : Nat} (h : j ≠ i) : more dn i j = dn j := by simp [more, h]
section
variable {P : Program} {ops : Array Oper} {Q : Exit → Act → World → Prop}
theorem wpAny_inv {md : Region.Mode} (I : (Nat → Bool) → Act → World → Prop)
    (hstep : ∀ (i : Nat) (o : Oper), ops[i]? = some o → ∀ dn a w, I dn a w → dn i = false → (o.after.all fun e => !Region.binds md e || dn e.on) = true → wpOp P ops Q i (fun a' w' => I (more dn i) a' w') a w)
    (hext : ∀ dn dn' a w, (∀ j, j < ops.size → dn j = dn' j) → I dn a w → I dn' a w)
    (hord : ∀ (i : Nat) (o : Oper), ops[i]? = some o → (o.after.all fun e => !Region.binds md e || Nat.ble (e.on + 1) i) = true)
    (hfin : ∀ a w, I (fun _ => true) a w → Q .normal a w) :
    ∀ (fuel : Nat) (listed : Array Bool) (a : Act) (w : World), listed.size = ops.size → (listed.toList.filter (fun b => !b)).length ≤ fuel → I (fun j => listed.getD j false) a w → wpAny P md ops Q fuel listed a w := by
  have fin : ∀ (listed : Array Bool) (a : Act) (w : World), listed.size = ops.size → I (fun j => listed.getD j false) a w → Region.ready md ops listed = [] → Q .normal a w := by
    intro listed a w hs hI hr
    refine hfin a w (hext _ _ a w ?_ hI)
    have key : ∀ n j, j < n → j < ops.size → listed.getD j false = true := by
      intro n
      induction n with
      | zero => intro j hj; omega
      | succ n ih =>
        intro j hj hjs
        by_cases hl : listed.getD j false = true
        · exact hl
        exfalso
        have hmem : j ∈ Region.ready md ops listed := by
          unfold Region.ready
          rw [List.mem_filter]
          refine ⟨List.mem_range.mpr hjs, ?_⟩
          have ho : ops[j]? = some ops[j] := Array.getElem?_eq_getElem hjs
          have h1 : listed.getD j true = false := by
            rw [Array.getD_eq_getD_getElem?] at hl ⊢
            rw [Array.getElem?_eq_getElem (by omega)] at hl ⊢
            simpa using hl
          rw [h1, ho]
          simp only [Bool.not_false, Bool.true_and, Option.map_some, Option.getD_some]
          rw [Array.all_eq_true_iff_forall_mem]
          intro e he
          have := hord j _ ho
          rw [Array.all_eq_true_iff_forall_mem] at this
          have hlt := this e he
          simp only [Bool.or_eq_true, Bool.not_eq_true'] at hlt ⊢
          rcases hlt with hlt | hlt
          · exact .inl hlt
          · have hlt := Nat.le_of_ble_eq_true hlt
            exact .inr (ih e.on (by omega) (by omega))
        rw [hr] at hmem
        cases hmem
    intro j hj
    exact key (j + 1) j (Nat.lt_succ_self j) hj
  intro fuel
  induction fuel with
  | zero =>
    intro listed a w hs hc hI
    have hr : Region.ready md ops listed = [] := by
      rw [List.eq_nil_iff_forall_not_mem]
      intro i hi
      unfold Region.ready at hi
      rw [List.mem_filter] at hi
      obtain ⟨h1, h2⟩ := hi
      have hlt := List.mem_range.mp h1
      simp only [Bool.and_eq_true, Bool.not_eq_true'] at h2
      have : listed[i]? = some false := by
        have h3 := h2.1
        rw [Array.getD_eq_getD_getElem?, Array.getElem?_eq_getElem (by omega)] at h3
        rw [Array.getElem?_eq_getElem (by omega)]
        simpa using h3
      have hm : false ∈ listed.toList.filter (fun b => !b) := List.mem_filter.mpr ⟨by rw [← Array.getElem?_toList] at this; exact List.mem_of_getElem? this, rfl⟩
      have := List.length_pos_of_mem hm
      omega
    exact ⟨hr, fin listed a w hs hI hr⟩
  | succ fuel ih =>
    intro listed a w hs hc hI
    refine ⟨fin listed a w hs hI, fun i hi => ?_⟩
    unfold Region.ready at hi
    rw [List.mem_filter] at hi
    obtain ⟨h1, h2⟩ := hi
    have hlt := List.mem_range.mp h1
    have ho : ops[i]? = some ops[i] := Array.getElem?_eq_getElem hlt
    rw [ho] at h2
    simp only [Bool.and_eq_true, Bool.not_eq_true', Option.map_some, Option.getD_some] at h2
    have hf : listed.getD i false = false := by
      have h3 := h2.1
      rw [Array.getD_eq_getD_getElem?, Array.getElem?_eq_getElem (by omega)] at h3 ⊢
      simpa using h3
    refine wpOp_mono (fun a' w' hI' => ih _ a' w' (by simpa using hs) ?_ (hext _ _ a' w' ?_ hI')) (hstep i _ ho _ a w hI hf h2.2)
    · have hi' : i < listed.toList.length := by simpa [hs] using hlt
      have hx : listed.toList[i] = false := by
        rw [Array.getD_eq_getD_getElem?, Array.getElem?_eq_getElem (by omega)] at hf
        simpa using hf
      have : ((listed.setIfInBounds i true).toList.filter (fun b => !b)).length + 1 = (listed.toList.filter (fun b => !b)).length := by
        rw [Array.toList_setIfInBounds, List.set_eq_take_append_cons_drop, if_pos hi']
        conv => rhs; rw [← List.take_append_drop i listed.toList, List.drop_eq_getElem_cons hi', hx]
        simp [List.filter_append]
        omega
      omega
    · intro j hj
      simp only [more]
      rw [Array.getD_eq_getD_getElem?, Array.getD_eq_getD_getElem?, Array.getElem?_setIfInBounds]
      by_cases hji : j = i
      · subst hji; simp [hs, hj]
      · rw [if_neg hji, if_neg (fun e => hji e.symm)]

/-! Slots and blocks behind the operations that are done: later ones first. -/
def nextD (dn : Nat → Bool) : Nat → Bool := fun j => dn (j + 1)
def tmD : List Item → (Nat → Bool) → List (Nat × V)
  | [], _ => []
  | it :: its, dn => tmD its (nextD dn) ++ (if dn 0 then bind1 it.dst it.val else [])
def effD : List Item → (Nat → Bool) → List (Nat × Option MB)
  | [], _ => []
  | it :: its, dn => effD its (nextD dn) ++ (if dn 0 then it.eff else [])
theorem more_next (dn : Nat → Bool) (i : Nat) : nextD (more dn (i + 1)) = more (nextD dn) i := by
  funext j; simp [nextD, more]
theorem more_next0 (dn : Nat → Bool) : nextD (more dn 0) = nextD dn := by
  funext j; simp [nextD, more]
theorem lt_next (i : Nat) : nextD (fun j => decide (j < i + 1)) = fun j => decide (j < i) := by
  funext j; simp [nextD]
theorem tmD_none : ∀ its : List Item, tmD its (fun _ => false) = []
  | [] => rfl
  | it :: its => by simp only [tmD]; rw [show nextD (fun _ => false) = fun _ => false from rfl, tmD_none its]; rfl
theorem effD_none : ∀ its : List Item, effD its (fun _ => false) = []
  | [] => rfl
  | it :: its => by simp only [effD]; rw [show nextD (fun _ => false) = fun _ => false from rfl, effD_none its]; rfl
theorem tmD_ext : ∀ (its : List Item) (dn dn' : Nat → Bool), (∀ j, j < its.length → dn j = dn' j) → tmD its dn = tmD its dn'
  | [], _, _, _ => rfl
  | it :: its, dn, dn', h => by
    simp only [tmD]
    rw [tmD_ext its (nextD dn) (nextD dn') (fun j hj => h (j + 1) (by simpa using hj)), h 0 (by simp)]
theorem effD_ext : ∀ (its : List Item) (dn dn' : Nat → Bool), (∀ j, j < its.length → dn j = dn' j) → effD its dn = effD its dn'
  | [], _, _, _ => rfl
  | it :: its, dn, dn', h => by
    simp only [effD]
    rw [effD_ext its (nextD dn) (nextD dn') (fun j hj => h (j + 1) (by simpa using hj)), h 0 (by simp)]
theorem look_bind1 {d : Option Nat} {v : V} {t : Nat} {l : List (Nat × V)} (h : d ≠ some t) : look (bind1 d v ++ l) t = look l t := by
  cases d with
  | none => rfl
  | some d =>
    simp only [bind1, List.cons_append, List.nil_append, look]
    rw [if_neg (fun e => h (by rw [Nat.eq_of_beq_eq_true e]))]
theorem look_congr {t : Nat} {l m : List (Nat × V)} (h : look l t = look m t) : ∀ p : List (Nat × V), look (p ++ l) t = look (p ++ m) t
  | [] => h
  | (k, v) :: p => by simp only [List.cons_append, look]; rw [look_congr h p]
theorem lookM_congr {t : Nat} {l m : List (Nat × Option MB)} (h : lookM l t = lookM m t) : ∀ p : List (Nat × Option MB), lookM (p ++ l) t = lookM (p ++ m) t
  | [] => h
  | (k, v) :: p => by simp only [List.cons_append, lookM]; rw [lookM_congr h p]
theorem tmD_agree {t : Nat} : ∀ (its : List Item) (dn dn' : Nat → Bool) (base : List (Nat × V)), (∀ k it, its[k]? = some it → dn k ≠ dn' k → it.dst ≠ some t) → look (tmD its dn ++ base) t = look (tmD its dn' ++ base) t
  | [], _, _, _, _ => rfl
  | it :: its, dn, dn', base, h => by
    simp only [tmD, List.append_assoc]
    rw [tmD_agree its (nextD dn) (nextD dn') _ (fun k it' hk hd => h (k + 1) it' (by simpa using hk) hd)]
    apply look_congr
    by_cases he : dn 0 = dn' 0
    · rw [he]
    · have := h 0 it rfl he
      cases h0 : dn 0 <;> cases h1 : dn' 0 <;> simp only [if_true, if_false, List.nil_append, Bool.false_eq_true]
      · exact (look_bind1 this).symm
      · exact look_bind1 this
theorem lookM_skip {t : Nat} {e l : List (Nat × Option MB)} (h : hasK e t = false) : lookM (e ++ l) t = lookM l t := by rw [lookM_append, h]; rfl
theorem effD_agree {t : Nat} : ∀ (its : List Item) (dn dn' : Nat → Bool) (base : List (Nat × Option MB)), (∀ k it, its[k]? = some it → dn k ≠ dn' k → hasK it.eff t = false) → lookM (effD its dn ++ base) t = lookM (effD its dn' ++ base) t
  | [], _, _, _, _ => rfl
  | it :: its, dn, dn', base, h => by
    simp only [effD, List.append_assoc]
    rw [effD_agree its (nextD dn) (nextD dn') _ (fun k it' hk hd => h (k + 1) it' (by simpa using hk) hd)]
    apply lookM_congr
    by_cases he : dn 0 = dn' 0
    · rw [he]
    · have := h 0 it rfl he
      cases h0 : dn 0 <;> cases h1 : dn' 0 <;> simp only [if_true, if_false, List.nil_append, Bool.false_eq_true]
      · exact (lookM_skip this).symm
      · exact lookM_skip this
theorem look_swap {t : Nat} {l m base : List (Nat × V)} (h : look m t ≠ none → look l t = none) : look (l ++ (m ++ base)) t = look (m ++ (l ++ base)) t := by
  rw [look_append, look_append m base, look_append m (l ++ base), look_append l base]
  cases hl : look l t with
  | none => rfl
  | some x =>
    cases hm : look m t with
    | none => rfl
    | some y => rw [h (by rw [hm]; simp)] at hl; cases hl
theorem tmD_look {t : Nat} : ∀ (its : List Item) (dn : Nat → Bool), (∀ k it, its[k]? = some it → dn k = true → it.dst ≠ some t) → look (tmD its dn) t = none
  | [], _, _ => rfl
  | it :: its, dn, h => by
    simp only [tmD]
    rw [look_append, tmD_look its (nextD dn) (fun k it' hk hd => h (k + 1) it' (by simpa using hk) hd)]
    show look _ t = none
    split
    · rename_i hd
      have := h 0 it rfl hd
      rw [← List.append_nil (bind1 it.dst it.val), look_bind1 this]; rfl
    · rfl
theorem bind1_look {d : Option Nat} {v : V} {t : Nat} (h : look (bind1 d v) t ≠ none) : d = some t := by
  cases d with
  | none => exact absurd rfl h
  | some d =>
    simp only [bind1, look] at h
    split at h
    · rename_i e; rw [Nat.eq_of_beq_eq_true e]
    · exact absurd rfl h
theorem tmD_more {t : Nat} : ∀ (its : List Item) (i : Nat) (it : Item) (dn : Nat → Bool) (base : List (Nat × V)), its[i]? = some it → dn i = false → (∀ k it', i < k → its[k]? = some it' → dn k = true → ∀ t, it.dst = some t → it'.dst ≠ some t) →
    look (tmD its (more dn i) ++ base) t = look (bind1 it.dst it.val ++ (tmD its dn ++ base)) t
  | [], _, _, _, _, h, _, _ => by simp at h
  | q :: its, 0, it, dn, base, h, hd, hc => by
    simp only [List.getElem?_cons_zero, Option.some.injEq] at h
    subst h
    simp only [tmD, more_same, if_true, more_next0, hd, Bool.false_eq_true, if_false, List.append_nil, List.append_assoc]
    refine look_swap (fun hne => tmD_look its _ (fun k it' hk hd' => ?_))
    exact hc (k + 1) it' (by omega) (by simpa using hk) hd' t (bind1_look hne)
  | q :: its, i + 1, it, dn, base, h, hd, hc => by
    simp only [List.getElem?_cons_succ] at h
    simp only [tmD, more_next, more_other (show (0 : Nat) ≠ i + 1 by omega), List.append_assoc]
    exact tmD_more its i it (nextD dn) _ h hd (fun k it' hik hk hd' => hc (k + 1) it' (by omega) (by simpa using hk) hd')
theorem effD_hasK {t : Nat} : ∀ (its : List Item) (dn : Nat → Bool), (∀ k it, its[k]? = some it → dn k = true → hasK it.eff t = false) → hasK (effD its dn) t = false
  | [], _, _ => rfl
  | it :: its, dn, h => by
    simp only [effD]
    rw [hasK_append, effD_hasK its (nextD dn) (fun k it' hk hd => h (k + 1) it' (by simpa using hk) hd)]
    show hasK _ t = false
    split
    · rename_i hd; exact h 0 it rfl hd
    · rfl
theorem lookM_swap {t : Nat} {l m base : List (Nat × Option MB)} (h : hasK m t = true → hasK l t = false) : lookM (l ++ (m ++ base)) t = lookM (m ++ (l ++ base)) t := by
  rw [lookM_append, lookM_append m base, lookM_append m (l ++ base), lookM_append l base]
  cases hm : hasK m t with
  | true => rw [h hm]; rfl
  | false => rfl
theorem effD_more {t : Nat} : ∀ (its : List Item) (i : Nat) (it : Item) (dn : Nat → Bool) (base : List (Nat × Option MB)), its[i]? = some it → dn i = false → (∀ k it', i < k → its[k]? = some it' → dn k = true → ∀ t, hasK it.eff t = true → hasK it'.eff t = false) →
    lookM (effD its (more dn i) ++ base) t = lookM (it.eff ++ (effD its dn ++ base)) t
  | [], _, _, _, _, h, _, _ => by simp at h
  | q :: its, 0, it, dn, base, h, hd, hc => by
    simp only [List.getElem?_cons_zero, Option.some.injEq] at h
    subst h
    simp only [effD, more_same, if_true, more_next0, hd, Bool.false_eq_true, if_false, List.append_nil, List.append_assoc]
    refine lookM_swap (fun hk => effD_hasK its _ (fun k it' hk' hd' => ?_))
    exact hc (k + 1) it' (by omega) (by simpa using hk') hd' t hk
  | q :: its, i + 1, it, dn, base, h, hd, hc => by
    simp only [List.getElem?_cons_succ] at h
    simp only [effD, more_next, more_other (show (0 : Nat) ≠ i + 1 by omega), List.append_assoc]
    exact effD_more its i it (nextD dn) _ h hd (fun k it' hik hk hd' => hc (k + 1) it' (by omega) (by simpa using hk) hd')
theorem effD_moreK {t : Nat} : ∀ (its : List Item) (i : Nat) (it : Item) (dn : Nat → Bool), its[i]? = some it → hasK (effD its (more dn i)) t = (hasK it.eff t || hasK (effD its dn) t)
  | [], _, _, _, h => by simp at h
  | q :: its, 0, it, dn, h => by
    simp only [List.getElem?_cons_zero, Option.some.injEq] at h
    subst h
    simp only [effD, more_same, if_true, more_next0, hasK_append]
    by_cases hd : dn 0 = true
    · rw [hd]; simp only [if_true]; cases hasK q.eff t <;> cases hasK (effD its (nextD dn)) t <;> rfl
    · rw [if_neg hd]; simp only [hasK]; cases hasK q.eff t <;> cases hasK (effD its (nextD dn)) t <;> rfl
  | q :: its, i + 1, it, dn, h => by
    simp only [List.getElem?_cons_succ] at h
    simp only [effD, more_next, more_other (show (0 : Nat) ≠ i + 1 by omega), hasK_append]
    rw [effD_moreK its i it (nextD dn) h, Bool.or_assoc]

/-! What a region's operations are, each at its place. -/
theorem evOps_spec {Φ : Sig} {ρ : Env} {X : Ctx} {ops : Array Oper} {n : Nat} {S' : St} : ∀ (os : List Oper) (S : St) (its : List Item), (evOps X ops n os S).val (T.den Φ ρ) = some (S', its) → S.fa.hold Φ ρ →
    S'.fa.hold Φ ρ ∧ S'.nv = S.nv ∧ S.nb ≤ S'.nb ∧ its.length = os.length ∧ S'.tm = tmD its (fun _ => true) ++ S.tm ∧ S'.me = effD its (fun _ => true) ++ S.me ∧
    (∀ i o it, os[i]? = some o → its[i]? = some it → S.nb ≤ it.nb ∧ it.nb' ≤ S'.nb ∧ ∃ S0, OpSpec X Φ ρ ops n o S0 it ∧ S0.tm = tmD its (fun j => decide (j < i)) ++ S.tm ∧ S0.me = effD its (fun j => decide (j < i)) ++ S.me) ∧
    (∀ (i k : Nat) (a b : Item), i < k → its[i]? = some a → its[k]? = some b → a.nb' ≤ b.nb)
  | [], S, its, h, hf => by
    simp only [evOps, O.val] at h
    injection h with h
    injection h with e1 e2
    subst e1 e2
    exact ⟨hf, rfl, Nat.le_refl _, rfl, rfl, rfl, fun i o it h => by simp at h, fun i k a b _ h => by simp at h⟩
  | o :: os, S, its, h, hf => by
    simp only [evOps] at h
    obtain ⟨⟨it, fa⟩, h1, h2⟩ := O.bind_some h
    obtain ⟨⟨S1, its1⟩, h3, h4⟩ := O.bind_some h2
    simp only [O.val] at h4
    injection h4 with h4
    injection h4 with e1 e2
    subst e1 e2
    obtain ⟨hfa, hsp⟩ := evOp_spec h1 hf
    have hnb := hsp.2.2.1
    have hle := hsp.nb_le
    obtain ⟨g1, g2, g3, g4, g5, g6, g7, g8⟩ := evOps_spec os (S.put it fa) its1 h3 hfa
    have g3 : it.nb' ≤ S1.nb := g3
    have hlen : its1.length = os.length := g4
    refine ⟨g1, g2, by omega, by simp [g4], ?_, ?_, ?_, ?_⟩
    · rw [g5]; simp only [tmD, if_true, List.append_assoc]; rfl
    · rw [g6]; simp only [effD, if_true, List.append_assoc]; rfl
    · intro i o' it' ho hi
      cases i with
      | zero =>
        simp only [List.getElem?_cons_zero, Option.some.injEq] at ho hi
        subst ho hi
        refine ⟨by omega, g3, S, hsp, ?_, ?_⟩
        · have e : (fun j => decide (j < 0)) = fun _ : Nat => false := by funext j; simp
          rw [e, tmD_none]; rfl
        · have e : (fun j => decide (j < 0)) = fun _ : Nat => false := by funext j; simp
          rw [e, effD_none]; rfl
      | succ i =>
        simp only [List.getElem?_cons_succ] at ho hi
        obtain ⟨k1, k2, S0, k3, k4, k5⟩ := g7 i o' it' ho hi
        have k1 : it.nb' ≤ it'.nb := k1
        refine ⟨by omega, k2, S0, k3, ?_, ?_⟩
        · rw [k4]; simp only [tmD, lt_next, List.append_assoc]; rfl
        · rw [k5]; simp only [effD, lt_next, List.append_assoc]; rfl
    · intro i k a b hik ha hb
      cases k with
      | zero => omega
      | succ k =>
        simp only [List.getElem?_cons_succ] at hb
        cases i with
        | zero =>
          simp only [List.getElem?_cons_zero, Option.some.injEq] at ha
          subst ha
          obtain ⟨o', ho'⟩ : ∃ o', os[k]? = some o' := by
            have := (List.getElem?_eq_some_iff.1 hb).1
            exact ⟨os[k]'(by omega), List.getElem?_eq_getElem (by omega)⟩
          exact (g7 k o' b ho' hb).1
        | succ i =>
          simp only [List.getElem?_cons_succ] at ha
          exact g8 i k a b (by omega) ha hb

/-! Which operations stand ahead; which do not matter to each other. -/
theorem onceN_mem : ∀ (l acc : List Nat) (j : Nat), j ∈ onceN l acc → j ∈ l ∨ j ∈ acc
  | [], acc, j, h => .inr h
  | k :: l, acc, j, h => by
    simp only [onceN] at h
    split at h
    · exact (onceN_mem l acc j h).imp (List.mem_cons_of_mem _) id
    · rcases onceN_mem l (k :: acc) j h with h | h
      · exact .inl (List.mem_cons_of_mem _ h)
      · rcases List.mem_cons.mp h with h | h
        · subst h; exact .inl List.mem_cons_self
        · exact .inr h
def Closed (ops : Array Oper) (dn : Nat → Bool) : Prop := ∀ k o, ops[k]? = some o → dn k = true → ∀ e ∈ o.after.toList, Region.binds .any e = true → dn e.on = true
theorem aheadOf_done {dn : Nat → Bool} {acc : List (List Nat)} (hacc : ∀ k, dn k = true → ∀ i ∈ acc.getD k [], dn i = true) : ∀ (es : List Edge) (r : List Nat), (∀ e ∈ es, Region.binds .any e = true → dn e.on = true) → (∀ i ∈ r, dn i = true) → ∀ i ∈ aheadOf acc es r, dn i = true
  | [], r, _, hr, i, hi => hr i hi
  | e :: es, r, he, hr, i, hi => by
    simp only [aheadOf] at hi
    have he' := fun e' h' => he e' (List.mem_cons_of_mem _ h')
    split at hi
    · rename_i hb
      have hon := he e List.mem_cons_self hb
      refine aheadOf_done hacc es _ he' (fun j hj => ?_) i hi
      rcases onceN_mem _ _ _ hj with hj | hj
      · rcases List.mem_cons.mp hj with hj | hj
        · subst hj; exact hon
        · exact hacc _ hon j hj
      · exact hr j hj
    · exact aheadOf_done hacc es r he' hr i hi
theorem aheads_done {ops : Array Oper} {dn : Nat → Bool} (hcl : Closed ops dn) : ∀ (os : List Oper) (acc : List (List Nat)), (∀ k o, os[k]? = some o → ops[acc.length + k]? = some o) → (∀ k o, ops[k]? = some o → (∀ e ∈ o.after.toList, Region.binds .any e = true → dn e.on = true) → ∀ i ∈ acc.getD k [], dn i = true) →
    ∀ k o, ops[k]? = some o → (∀ e ∈ o.after.toList, Region.binds .any e = true → dn e.on = true) → ∀ i ∈ (aheads os acc).getD k [], dn i = true
  | [], acc, _, hacc => hacc
  | o :: os, acc, hos, hacc => by
    simp only [aheads]
    refine aheads_done hcl os _ (fun k o' hk => ?_) (fun k o' ho hd i hi => ?_)
    · have := hos (k + 1) o' (by simpa using hk)
      simp only [List.length_append, List.length_cons, List.length_nil]
      rw [show acc.length + (0 + 1) + k = acc.length + (k + 1) from by omega]; exact this
    · rw [List.getD_eq_getElem?_getD] at hi
      by_cases hlt : k < acc.length
      · rw [List.getElem?_append_left hlt] at hi
        exact hacc k o' ho hd i (by rw [List.getD_eq_getElem?_getD]; exact hi)
      · by_cases hk : k = acc.length
        · subst hk
          simp only [List.getElem?_append_right (Nat.le_refl _), Nat.sub_self, List.getElem?_cons_zero, Option.getD_some] at hi
          have h0 := hos 0 o rfl
          simp only [Nat.add_zero] at h0
          rw [h0] at ho
          injection ho with ho
          subst ho
          refine aheadOf_done (fun k hk j hj => ?_) _ _ hd (by simp) i hi
          by_cases hex : ∃ o2, ops[k]? = some o2
          · obtain ⟨o2, ho2⟩ := hex
            exact hacc k o2 ho2 (hcl k o2 ho2 hk) j hj
          · -- no such operation: no list
            rw [List.getD_eq_getElem?_getD] at hj
            by_cases hkl : k < acc.length
            · exfalso
              have hsz : acc.length < ops.size := (Array.getElem?_eq_some_iff.1 h0).1
              exact hex ⟨ops[k]'(by omega), Array.getElem?_eq_getElem (by omega)⟩
            · rw [List.getElem?_eq_none (by omega)] at hj
              simp at hj
        · rw [List.getElem?_eq_none (by simp; omega)] at hi
          simp at hi
theorem freeOf_spec {r : Item} {ah : List Nat} : ∀ (qs : List Item) (i0 : Nat), freeOf r ah qs i0 = true → ∀ i q, qs[i]? = some q → (i0 + i) ∈ ah ∨ clash q r = false
  | [], _, _, i, q, h => by simp at h
  | p :: qs, i0, hf, i, q, h => by
    simp only [freeOf, Bool.and_eq_true, Bool.or_eq_true, Bool.not_eq_true'] at hf
    cases i with
    | zero =>
      simp only [List.getElem?_cons_zero, Option.some.injEq] at h
      subst h
      exact hf.1.imp (fun h => hasN_mem.mp h) id
    | succ i =>
      simp only [List.getElem?_cons_succ] at h
      rw [show i0 + (i + 1) = i0 + 1 + i from by omega]
      exact freeOf_spec qs (i0 + 1) hf.2 i q h
theorem indep_spec {ahs : List (List Nat)} : ∀ (rs done : List Item), indep ahs rs done = true → ∀ k r, rs[k]? = some r → ∀ i q, i < done.length + k → (done ++ rs)[i]? = some q → i ∈ ahs.getD (done.length + k) [] ∨ clash q r = false
  | [], _, _, k, r, h => by simp at h
  | p :: rs, done, hi, k, r, h => by
    simp only [indep, Bool.and_eq_true] at hi
    intro i q hik hq
    cases k with
    | zero =>
      simp only [List.getElem?_cons_zero, Option.some.injEq] at h
      subst h
      rw [List.getElem?_append_left (by omega)] at hq
      have := freeOf_spec done 0 hi.1 i q hq
      rw [Nat.zero_add] at this
      exact this
    | succ k =>
      simp only [List.getElem?_cons_succ] at h
      have := indep_spec rs (done ++ [p]) hi.2 k r h i q (by simp; omega) (by simpa using hq)
      simpa [Nat.add_assoc, Nat.add_comm 1 k] using this
theorem hasO_false {l : List Nat} {d : Option Nat} (h : hasO l d = false) : ∀ t, d = some t → t ∉ l := by
  intro t ht hm
  subst ht
  simp only [hasO] at h
  rw [hasN_mem.mpr hm] at h
  cases h
theorem keys_mem {α : Type} : ∀ {l : List (Nat × α)} {j : Nat}, hasK l j = true → j ∈ keys l
  | (k, _) :: l, j, h => by
    simp only [hasK, Bool.or_eq_true] at h
    simp only [keys, List.mem_cons]
    rcases h with h | h
    · exact .inl (Nat.eq_of_beq_eq_true h).symm
    · exact .inr (keys_mem h)
theorem interL_false : ∀ {l m : List Nat}, interL l m = false → ∀ j, j ∈ l → j ∉ m
  | k :: l, m, h, j, hj, hm => by
    simp only [interL, Bool.or_eq_false_iff] at h
    rcases List.mem_cons.mp hj with e | hj
    · subst e; rw [hasN_mem.mpr hm] at h; cases h.1
    · exact interL_false h.2 j hj hm
structure Apart (a b : Item) : Prop where
  d1 : ∀ t, a.dst = some t → t ∉ b.sr
  d2 : ∀ t, b.dst = some t → t ∉ a.sr
  d3 : ∀ t, a.dst = some t → b.dst ≠ some t
  m1 : ∀ j, hasK a.eff j = true → j ∉ b.br
  m2 : ∀ j, hasK b.eff j = true → j ∉ a.br
  m3 : ∀ j, hasK a.eff j = true → hasK b.eff j = false
theorem clash_apart {a b : Item} (h : clash a b = false) : Apart a b := by
  simp only [clash, Bool.or_eq_false_iff] at h
  obtain ⟨⟨⟨⟨⟨h1, h2⟩, h3⟩, h4⟩, h5⟩, h6⟩ := h
  refine ⟨hasO_false h1, hasO_false h2, fun t ht hb => ?_, fun j hj => interL_false h4 j (keys_mem hj), fun j hj => interL_false h5 j (keys_mem hj), fun j hj => ?_⟩
  · rw [ht, hb] at h3
    simp [hasO, hasN] at h3
  · cases hb : hasK b.eff j with
    | false => rfl
    | true => exact absurd (keys_mem hb) (interL_false h6 j (keys_mem hj))

/-- A region whose order is open. -/
theorem draw_sound {Φ : Sig} {ρ : Env} {en : En} {X : Ctx} (hX : CallOk X.P Φ X.call) {id : Nat} {ops : Array Oper} {Q : Exit → Act → World → Prop} {S S' : St} {its : List Item} (hm : X.P.follows .mixedOrders = true) (hord : (ops.toList.zipIdx.all fun x => x.1.after.all fun e => !Region.binds .any e || Nat.ble (e.on + 1) x.2) = true)
    (hind : indep (aheads ops.toList []) its [] = true) (hev : (evOps X ops en.n ops.toList S).val (T.den Φ ρ) = some (S', its)) (hf : S.fa.hold Φ ρ) {β : Map} {a : Act} {w : World} {d : List (Nat × Option MB)} (hc : Cur (T.den Φ ρ) en S.tm S.me d β a w)
    (hfree : ∀ j, S.nb ≤ j → β j = none) (hlo : en.nb0 ≤ S.nb)
    (hQ : ∀ a' w' β' p q, S'.fa.hold Φ ρ → S'.nv = S.nv → S.nb ≤ S'.nb → S'.tm = p ++ S.tm → S'.me = q ++ S.me → Cur (T.den Φ ρ) en S'.tm S'.me (q ++ d) β' a' w' → (∀ j, S'.nb ≤ j → β' j = none) → (∀ j, j < S.nb → β' j = β j) → Q .normal a' w') :
    (Code.region id ops true).wp X.P Q a w := by
  obtain ⟨g1, g2, g3, g4, g5, g6, g7, g8⟩ := evOps_spec ops.toList S its hev hf
  have hord' : ∀ (i : Nat) (o : Oper), ops[i]? = some o → (o.after.all fun e => !Region.binds .any e || Nat.ble (e.on + 1) i) = true := by
    intro i o ho
    rw [List.all_eq_true] at hord
    refine hord (o, i) ?_
    rw [List.mem_zipIdx_iff_getElem?]
    rw [← Array.getElem?_toList] at ho
    exact ho
  have hlen : its.length = ops.size := by rw [g4]; simp
  have itemAt : ∀ i, i < ops.size → ∃ it, its[i]? = some it := fun i hi => ⟨its[i]'(by omega), List.getElem?_eq_getElem (by omega)⟩
  have opAt : ∀ {i : Nat} {o : Oper}, ops[i]? = some o → ops.toList[i]? = some o := fun h => by rw [← Array.getElem?_toList] at h; exact h
  refine wp_region_any hm ?_
  refine wpAny_inv (fun dn a' w' => Closed ops dn ∧ ∃ β', Cur (T.den Φ ρ) en (tmD its dn ++ S.tm) (effD its dn ++ S.me) (effD its dn ++ d) β' a' w' ∧ (∀ j, S.nb ≤ j → (∀ i it, its[i]? = some it → dn i = true → ¬ isNew it.nb it.nb' j) → β' j = none) ∧ (∀ j, j < S.nb → β' j = β j)) ?_ ?_ hord' ?_ _ _ _ _ (by simp) (by simp) ?_
  · -- a step
    rintro i o ho dn a' w' ⟨hcl, β', hc', hfr, hbe⟩ hdn hdep
    have hi : i < ops.size := (Array.getElem?_eq_some_iff.1 ho).1
    obtain ⟨it, hit⟩ := itemAt i hi
    obtain ⟨k1, k2, S0, k3, k4, k5⟩ := g7 i o it (opAt ho) hit
    have hdep' : ∀ e ∈ o.after.toList, Region.binds .any e = true → dn e.on = true := by
      rw [Array.all_eq_true_iff_forall_mem] at hdep
      intro e he hb
      have := hdep e (by simpa using he)
      rw [hb] at this
      simpa using this
    have hah := aheads_done hcl ops.toList [] (fun k o hk => by
      rw [List.length_nil, Nat.zero_add, ← Array.getElem?_toList]; exact hk) (fun k o _ _ i hi => by simp at hi)
    -- whom the operation may meet
    have early : ∀ k q, k < i → its[k]? = some q → dn k = false → Apart q it := by
      intro k q hki hq hd
      have := indep_spec its [] hind i it hit k q (by simpa using hki) (by simpa using hq)
      rcases this with h | h
      · have := hah i o ho hdep' k (by simpa using h)
        rw [hd] at this; cases this
      · exact clash_apart h
    have late : ∀ k q, i < k → its[k]? = some q → dn k = true → Apart it q := by
      intro k q hki hq hd
      have := indep_spec its [] hind k q hq i it (by simpa using hki) (by simpa using hit)
      rcases this with h | h
      · have hk : k < ops.size := by rw [← hlen]; exact (List.getElem?_eq_some_iff.1 hq).1
        have hok : ops[k]? = some ops[k] := Array.getElem?_eq_getElem hk
        have := hah k _ hok (hcl k _ hok hd) i (by simpa using h)
        rw [hdn] at this; cases this
      · exact clash_apart h
    have differ : ∀ k q, its[k]? = some q → dn k ≠ decide (k < i) → (k < i ∧ dn k = false) ∨ (i < k ∧ dn k = true) := by
      intro k q hq hne
      by_cases hki : k < i
      · left; refine ⟨hki, ?_⟩
        rw [decide_eq_true hki] at hne
        simpa using hne
      · rw [decide_eq_false hki] at hne
        have hdk : dn k = true := by simpa using hne
        right
        refine ⟨?_, hdk⟩
        have : k ≠ i := fun e => by rw [e, hdn] at hdk; cases hdk
        omega
    have hnames : ∀ j, isNew it.nb it.nb' j → β' j = none := by
      intro j hj
      refine hfr j (by unfold isNew at hj; omega) (fun k q hq hd hn => ?_)
      have hne : k ≠ i := fun e => by rw [e, hdn] at hd; cases hd
      rcases Nat.lt_or_gt_of_ne hne with h | h
      · have := g8 k i q it h hq hit
        unfold isNew at hj hn; omega
      · have := g8 i k it q h hit hq
        unfold isNew at hj hn; omega
    refine item_step hX ho k3 (fun t ht => ?_) (fun j hj => ?_) hc' hnames (by omega) _ _ (fun a'' w'' β'' hc'' hbl hbo => ?_)
    · rw [k4]
      refine tmD_agree its _ _ _ (fun k q hq hne hd => ?_)
      rcases differ k q hq hne with ⟨h1, h2⟩ | ⟨h1, h2⟩
      · exact (early k q h1 hq h2).d1 t hd ht
      · exact (late k q h1 hq h2).d2 t hd ht
    · rw [k5]
      refine effD_agree its _ _ _ (fun k q hq hne => ?_)
      cases hd : hasK q.eff j with
      | false => rfl
      | true =>
        exfalso
        rcases differ k q hq hne with ⟨h1, h2⟩ | ⟨h1, h2⟩
        · exact (early k q h1 hq h2).m1 j hd hj
        · exact (late k q h1 hq h2).m2 j hd hj
    · refine ⟨fun k o' hk hd e he hb => ?_, β'', ?_, fun j hj hall => ?_, fun j hj => ?_⟩
      · by_cases hki : k = i
        · subst hki
          rw [ho] at hk
          injection hk with hk
          subst hk
          have := hdep' e he hb
          simp only [more]; split
          · rfl
          · exact this
        · rw [more_other hki] at hd
          have := hcl k o' hk hd e he hb
          simp only [more]; split
          · rfl
          · exact this
      · have hl3 : ∀ k it', i < k → its[k]? = some it' → dn k = true → ∀ t, hasK it.eff t = true → hasK it'.eff t = false := fun k q hik hq hd t ht => (late k q hik hq hd).m3 t ht
        refine hc''.to (fun t => ?_) (fun j => ?_) (fun j => ?_) (fun j => ?_)
        · exact tmD_more its i it dn _ hit hdn (fun k q hik hq hd t ht => (late k q hik hq hd).d3 t ht)
        · exact effD_more its i it dn _ hit hdn hl3
        · rw [hasK_append, hasK_append, hasK_append, effD_moreK its i it dn hit, Bool.or_assoc]
        · exact effD_more its i it dn _ hit hdn hl3
      · have hni : ¬ isNew it.nb it.nb' j := hall i it hit (more_same dn i)
        rw [hbo j hni]
        exact hfr j hj (fun k q hq hd => hall k q hq (by by_cases hki : k = i <;> simp [more, hki, hd]))
      · rw [hbo j (fun hn => by unfold isNew at hn; omega)]
        exact hbe j hj
  · -- what is not there does not matter
    rintro dn dn' a' w' hj ⟨hcl, β', hc', hfr, hbe⟩
    have hj' : ∀ j, j < its.length → dn j = dn' j := fun j h => hj j (by omega)
    refine ⟨fun k o hk hd e he hb => ?_, β', by rw [← tmD_ext its dn dn' hj', ← effD_ext its dn dn' hj']; exact hc', fun j h hall => hfr j h (fun i it hi hd => hall i it hi (by rw [← hj' i (List.getElem?_eq_some_iff.1 hi).1]; exact hd)), hbe⟩
    have hks : k < ops.size := (Array.getElem?_eq_some_iff.1 hk).1
    have hlt : e.on < k := by
      have := hord' k o hk
      rw [Array.all_eq_true_iff_forall_mem] at this
      have := this e (by simpa using he)
      rw [hb] at this
      exact Nat.le_of_ble_eq_true (by simpa using this)
    rw [← hj e.on (by omega)]
    exact hcl k o hk (by rw [hj k hks]; exact hd) e he hb
  · -- all are done
    rintro a' w' ⟨_, β', hc', hfr, hbe⟩
    refine hQ a' w' β' _ _ g1 g2 g3 g5 g6 (by rw [g5, g6]; exact hc') (fun j hj => hfr j (by omega) (fun i it hi _ hn => ?_)) hbe
    have hi' : i < ops.size := by rw [← hlen]; exact (List.getElem?_eq_some_iff.1 hi).1
    have := (g7 i _ it (opAt (Array.getElem?_eq_getElem hi')) hi).2.1
    unfold isNew at hn; omega
  · -- none is done
    have e : (fun j => (Array.replicate ops.size false).getD j false) = fun _ => false := by
      funext j
      rw [Array.getD_eq_getD_getElem?]
      by_cases hj : j < ops.size
      · rw [Array.getElem?_eq_getElem (by simpa using hj)]; simp
      · rw [Array.getElem?_eq_none (by simpa using Nat.le_of_not_lt hj)]; rfl
    rw [e]
    refine ⟨fun k o hk hd => (by cases hd), β, ?_, fun j hj _ => hfree j hj, fun _ _ => rfl⟩
    rw [tmD_none, effD_none]
    exact { hc with me := memRep_heap hc.me rfl, heap := inHeap_heap hc.heap rfl, run := hc.run.heap rfl rfl rfl rfl }
end
end Go.Proofs.Ytlgiibchnnaceaa.Sx
