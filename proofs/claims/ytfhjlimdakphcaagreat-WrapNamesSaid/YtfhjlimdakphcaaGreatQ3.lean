/- Sx: texts of this claim put together: SxY, SxK, SxL, SxN, SxM, SxU, Com, Lw, Mx, SmA, SmM, TSmFold, TSmSum, TSmRef, SmK, HdA, HdM, HdL, PeA, PeM, HdV. Conditions: none. -/
import Derived.Test.YtfhjlimdakphcaaGreatQ2
import Derived.Deep.LoopGhost
import Derived.ProofKit
import Derived.OpenShut
import Derived.ShutString
import Derived.ChangeOld
import Derived.ChangeSlices
import Derived.SizedLaws
import Derived.WideShapes
import Derived.Test.YtfhjlimdakphcaaGreatProg
import Derived.KernelRfl
set_option linter.unusedVariables false
set_option linter.unusedSimpArgs false
namespace Go.Proofs.YtfhjlimdakphcaaGreat.Sx
open Go Go.RowKit
def more (dn : Nat → Bool) (i : Nat) : Nat → Bool := fun j => if j = i then true else dn j
theorem more_same (dn : Nat → Bool) (i : Nat) : more dn i i = true := by simp [more]
theorem more_other {dn : Nat → Bool} {i j : Nat} (h : j ≠ i) : more dn i j = dn j := by simp [more, h]
section
variable {P : Program} {ops : Array Oper} {Q : Exit → Act → World → Prop}
theorem wpAny_inv {md : Region.Mode} (I : (Nat → Bool) → Act → World → Prop)
   (hstep : ∀ (i : Nat) (o : Oper), ops[i]? = some o → ∀ dn a w, I dn a w → dn i = false → (o.after.all fun e => !Region.binds md e || dn e.on) = true → wpOp P ops Q i (fun a' w' => I (more dn i) a' w') a w)
   (hext : ∀ dn dn' a w, (∀ j, j < ops.size → dn j = dn' j) → I dn a w → I dn' a w)
   (hord : ∀ (i : Nat) (o : Oper), ops[i]? = some o → (o.after.all fun e => !Region.binds md e || Nat.ble (e.on + 1) i) = true)
   (hfin : ∀ a w, I (fun _ => true) a w → Q .normal a w) :
   ∀ (fuel : Nat) (listed : Array Bool) (a : Act) (w : World), listed.size = ops.size → (listed.toList.filter (fun b => !b)).length ≤ fuel → I (fun j => listed.getD j false) a w → wpAny P md ops Q fuel listed a w := by
 have fin : ∀ (listed : Array Bool) (a : Act) (w : World), listed.size = ops.size → I (fun j => listed.getD j false) a w → Region.ready md ops listed = [] → Q .normal a w := by
   intro listed a w hs hI hr
   refine hfin a w (hext _ _ a w ?_ hI)
   have key : ∀ n j, j < n → j < ops.size → listed.getD j false = true := by
     intro n
     induction n with
     | zero => intro j hj; omega
     | succ n ih =>
       intro j hj hjs
       by_cases hl : listed.getD j false = true
       · exact hl
       exfalso
       have hmem : j ∈ Region.ready md ops listed := by
         unfold Region.ready
         rw [List.mem_filter]
         refine ⟨List.mem_range.mpr hjs, ?_⟩
         have ho : ops[j]? = some ops[j] := Array.getElem?_eq_getElem hjs
         have h1 : listed.getD j true = false := by
           rw [Array.getD_eq_getD_getElem?] at hl ⊢
           rw [Array.getElem?_eq_getElem (by omega)] at hl ⊢
           simpa using hl
         rw [h1, ho]
         simp only [Bool.not_false, Bool.true_and, Option.map_some, Option.getD_some]
         rw [Array.all_eq_true_iff_forall_mem]
         intro e he
         have := hord j _ ho
         rw [Array.all_eq_true_iff_forall_mem] at this
         have hlt := this e he
         simp only [Bool.or_eq_true, Bool.not_eq_true'] at hlt ⊢
         rcases hlt with hlt | hlt
         · exact .inl hlt
         · have hlt := Nat.le_of_ble_eq_true hlt
           exact .inr (ih e.on (by omega) (by omega))
       rw [hr] at hmem
       cases hmem
   intro j hj
   exact key (j + 1) j (Nat.lt_succ_self j) hj
 intro fuel
 induction fuel with
 | zero =>
   intro listed a w hs hc hI
   have hr : Region.ready md ops listed = [] := by
     rw [List.eq_nil_iff_forall_not_mem]
     intro i hi
     unfold Region.ready at hi
     rw [List.mem_filter] at hi
     obtain ⟨h1, h2⟩ := hi
     have hlt := List.mem_range.mp h1
     simp only [Bool.and_eq_true, Bool.not_eq_true'] at h2
     have : listed[i]? = some false := by
       have h3 := h2.1
       rw [Array.getD_eq_getD_getElem?, Array.getElem?_eq_getElem (by omega)] at h3
       rw [Array.getElem?_eq_getElem (by omega)]
       simpa using h3
     have hm : false ∈ listed.toList.filter (fun b => !b) := List.mem_filter.mpr ⟨by rw [← Array.getElem?_toList] at this; exact List.mem_of_getElem? this, rfl⟩
     have := List.length_pos_of_mem hm
     omega
   exact ⟨hr, fin listed a w hs hI hr⟩
 | succ fuel ih =>
   intro listed a w hs hc hI
   refine ⟨fin listed a w hs hI, fun i hi => ?_⟩
   unfold Region.ready at hi
   rw [List.mem_filter] at hi
   obtain ⟨h1, h2⟩ := hi
   have hlt := List.mem_range.mp h1
   have ho : ops[i]? = some ops[i] := Array.getElem?_eq_getElem hlt
   rw [ho] at h2
   simp only [Bool.and_eq_true, Bool.not_eq_true', Option.map_some, Option.getD_some] at h2
   have hf : listed.getD i false = false := by
     have h3 := h2.1
     rw [Array.getD_eq_getD_getElem?, Array.getElem?_eq_getElem (by omega)] at h3 ⊢
     simpa using h3
   refine wpOp_mono (fun a' w' hI' => ih _ a' w' (by simpa using hs) ?_ (hext _ _ a' w' ?_ hI')) (hstep i _ ho _ a w hI hf h2.2)
   · have hi' : i < listed.toList.length := by simpa [hs] using hlt
     have hx : listed.toList[i] = false := by
       rw [Array.getD_eq_getD_getElem?, Array.getElem?_eq_getElem (by omega)] at hf
       simpa using hf
     have : ((listed.setIfInBounds i true).toList.filter (fun b => !b)).length + 1 = (listed.toList.filter (fun b => !b)).length := by
       rw [Array.toList_setIfInBounds, List.set_eq_take_append_cons_drop, if_pos hi']
       conv => rhs; rw [← List.take_append_drop i listed.toList, List.drop_eq_getElem_cons hi', hx]
       simp [List.filter_append]
       omega
     omega
   · intro j hj
     simp only [more]
     rw [Array.getD_eq_getD_getElem?, Array.getD_eq_getD_getElem?, Array.getElem?_setIfInBounds]
     by_cases hji : j = i
     · subst hji; simp [hs, hj]
     · rw [if_neg hji, if_neg (fun e => hji e.symm)]
def nextD (dn : Nat → Bool) : Nat → Bool := fun j => dn (j + 1)
def tmD : List Item → (Nat → Bool) → List (Nat × V)
 | [], _ => []
 | it :: its, dn => tmD its (nextD dn) ++ (if dn 0 then bind1 it.dst it.val else [])
def effD : List Item → (Nat → Bool) → List (Nat × Option MB)
 | [], _ => []
 | it :: its, dn => effD its (nextD dn) ++ (if dn 0 then it.eff else [])
theorem more_next (dn : Nat → Bool) (i : Nat) : nextD (more dn (i + 1)) = more (nextD dn) i := by
 funext j; simp [nextD, more]
theorem more_next0 (dn : Nat → Bool) : nextD (more dn 0) = nextD dn := by
 funext j; simp [nextD, more]
theorem lt_next (i : Nat) : nextD (fun j => decide (j < i + 1)) = fun j => decide (j < i) := by
 funext j; simp [nextD]
theorem tmD_none : ∀ its : List Item, tmD its (fun _ => false) = []
 | [] => rfl
 | it :: its => by simp only [tmD]; rw [show nextD (fun _ => false) = fun _ => false from rfl, tmD_none its]; rfl
theorem effD_none : ∀ its : List Item, effD its (fun _ => false) = []
 | [] => rfl
 | it :: its => by simp only [effD]; rw [show nextD (fun _ => false) = fun _ => false from rfl, effD_none its]; rfl
theorem tmD_ext : ∀ (its : List Item) (dn dn' : Nat → Bool), (∀ j, j < its.length → dn j = dn' j) → tmD its dn = tmD its dn'
 | [], _, _, _ => rfl
 | it :: its, dn, dn', h => by
   simp only [tmD]
   rw [tmD_ext its (nextD dn) (nextD dn') (fun j hj => h (j + 1) (by simpa using hj)), h 0 (by simp)]
theorem effD_ext : ∀ (its : List Item) (dn dn' : Nat → Bool), (∀ j, j < its.length → dn j = dn' j) → effD its dn = effD its dn'
 | [], _, _, _ => rfl
 | it :: its, dn, dn', h => by
   simp only [effD]
   rw [effD_ext its (nextD dn) (nextD dn') (fun j hj => h (j + 1) (by simpa using hj)), h 0 (by simp)]
theorem look_bind1 {d : Option Nat} {v : V} {t : Nat} {l : List (Nat × V)} (h : d ≠ some t) : look (bind1 d v ++ l) t = look l t := by
 cases d with
 | none => rfl
 | some d =>
   simp only [bind1, List.cons_append, List.nil_append, look]
   rw [if_neg (fun e => h (by rw [Nat.eq_of_beq_eq_true e]))]
theorem look_congr {t : Nat} {l m : List (Nat × V)} (h : look l t = look m t) : ∀ p : List (Nat × V), look (p ++ l) t = look (p ++ m) t
 | [] => h
 | (k, v) :: p => by simp only [List.cons_append, look]; rw [look_congr h p]
theorem lookM_congr {t : Nat} {l m : List (Nat × Option MB)} (h : lookM l t = lookM m t) : ∀ p : List (Nat × Option MB), lookM (p ++ l) t = lookM (p ++ m) t
 | [] => h
 | (k, v) :: p => by simp only [List.cons_append, lookM]; rw [lookM_congr h p]
theorem tmD_agree {t : Nat} : ∀ (its : List Item) (dn dn' : Nat → Bool) (base : List (Nat × V)), (∀ k it, its[k]? = some it → dn k ≠ dn' k → it.dst ≠ some t) → look (tmD its dn ++ base) t = look (tmD its dn' ++ base) t
 | [], _, _, _, _ => rfl
 | it :: its, dn, dn', base, h => by
   simp only [tmD, List.append_assoc]
   rw [tmD_agree its (nextD dn) (nextD dn') _ (fun k it' hk hd => h (k + 1) it' (by simpa using hk) hd)]
   apply look_congr
   by_cases he : dn 0 = dn' 0
   · rw [he]
   · have := h 0 it rfl he
     cases h0 : dn 0 <;> cases h1 : dn' 0 <;> simp only [if_true, if_false, List.nil_append, Bool.false_eq_true]
     · exact (look_bind1 this).symm
     · exact look_bind1 this
theorem lookM_skip {t : Nat} {e l : List (Nat × Option MB)} (h : hasK e t = false) : lookM (e ++ l) t = lookM l t := by rw [lookM_append, h]; rfl
theorem effD_agree {t : Nat} : ∀ (its : List Item) (dn dn' : Nat → Bool) (base : List (Nat × Option MB)), (∀ k it, its[k]? = some it → dn k ≠ dn' k → hasK it.eff t = false) → lookM (effD its dn ++ base) t = lookM (effD its dn' ++ base) t
 | [], _, _, _, _ => rfl
 | it :: its, dn, dn', base, h => by
   simp only [effD, List.append_assoc]
   rw [effD_agree its (nextD dn) (nextD dn') _ (fun k it' hk hd => h (k + 1) it' (by simpa using hk) hd)]
   apply lookM_congr
   by_cases he : dn 0 = dn' 0
   · rw [he]
   · have := h 0 it rfl he
     cases h0 : dn 0 <;> cases h1 : dn' 0 <;> simp only [if_true, if_false, List.nil_append, Bool.false_eq_true]
     · exact (lookM_skip this).symm
     · exact lookM_skip this
theorem look_swap {t : Nat} {l m base : List (Nat × V)} (h : look m t ≠ none → look l t = none) : look (l ++ (m ++ base)) t = look (m ++ (l ++ base)) t := by
 rw [look_append, look_append m base, look_append m (l ++ base), look_append l base]
 cases hl : look l t with
 | none => rfl
 | some x =>
   cases hm : look m t with
   | none => rfl
   | some y => rw [h (by rw [hm]; simp)] at hl; cases hl
theorem tmD_look {t : Nat} : ∀ (its : List Item) (dn : Nat → Bool), (∀ k it, its[k]? = some it → dn k = true → it.dst ≠ some t) → look (tmD its dn) t = none
 | [], _, _ => rfl
 | it :: its, dn, h => by
   simp only [tmD]
   rw [look_append, tmD_look its (nextD dn) (fun k it' hk hd => h (k + 1) it' (by simpa using hk) hd)]
   show look _ t = none
   split
   · rename_i hd
     have := h 0 it rfl hd
     rw [← List.append_nil (bind1 it.dst it.val), look_bind1 this]; rfl
   · rfl
theorem bind1_look {d : Option Nat} {v : V} {t : Nat} (h : look (bind1 d v) t ≠ none) : d = some t := by
 cases d with
 | none => exact absurd rfl h
 | some d =>
   simp only [bind1, look] at h
   split at h
   · rename_i e; rw [Nat.eq_of_beq_eq_true e]
   · exact absurd rfl h
theorem tmD_more {t : Nat} : ∀ (its : List Item) (i : Nat) (it : Item) (dn : Nat → Bool) (base : List (Nat × V)), its[i]? = some it → dn i = false → (∀ k it', i < k → its[k]? = some it' → dn k = true → ∀ t, it.dst = some t → it'.dst ≠ some t) →
   look (tmD its (more dn i) ++ base) t = look (bind1 it.dst it.val ++ (tmD its dn ++ base)) t
 | [], _, _, _, _, h, _, _ => by simp at h
 | q :: its, 0, it, dn, base, h, hd, hc => by
   simp only [List.getElem?_cons_zero, Option.some.injEq] at h
   subst h
   simp only [tmD, more_same, if_true, more_next0, hd, Bool.false_eq_true, if_false, List.append_nil, List.append_assoc]
   refine look_swap (fun hne => tmD_look its _ (fun k it' hk hd' => ?_))
   exact hc (k + 1) it' (by omega) (by simpa using hk) hd' t (bind1_look hne)
 | q :: its, i + 1, it, dn, base, h, hd, hc => by
   simp only [List.getElem?_cons_succ] at h
   simp only [tmD, more_next, more_other (show (0 : Nat) ≠ i + 1 by omega), List.append_assoc]
   exact tmD_more its i it (nextD dn) _ h hd (fun k it' hik hk hd' => hc (k + 1) it' (by omega) (by simpa using hk) hd')
theorem effD_hasK {t : Nat} : ∀ (its : List Item) (dn : Nat → Bool), (∀ k it, its[k]? = some it → dn k = true → hasK it.eff t = false) → hasK (effD its dn) t = false
 | [], _, _ => rfl
 | it :: its, dn, h => by
   simp only [effD]
   rw [hasK_append, effD_hasK its (nextD dn) (fun k it' hk hd => h (k + 1) it' (by simpa using hk) hd)]
   show hasK _ t = false
   split
   · rename_i hd; exact h 0 it rfl hd
   · rfl
theorem lookM_swap {t : Nat} {l m base : List (Nat × Option MB)} (h : hasK m t = true → hasK l t = false) : lookM (l ++ (m ++ base)) t = lookM (m ++ (l ++ base)) t := by
 rw [lookM_append, lookM_append m base, lookM_append m (l ++ base), lookM_append l base]
 cases hm : hasK m t with
 | true => rw [h hm]; rfl
 | false => rfl
theorem effD_more {t : Nat} : ∀ (its : List Item) (i : Nat) (it : Item) (dn : Nat → Bool) (base : List (Nat × Option MB)), its[i]? = some it → dn i = false → (∀ k it', i < k → its[k]? = some it' → dn k = true → ∀ t, hasK it.eff t = true → hasK it'.eff t = false) →
   lookM (effD its (more dn i) ++ base) t = lookM (it.eff ++ (effD its dn ++ base)) t
 | [], _, _, _, _, h, _, _ => by simp at h
 | q :: its, 0, it, dn, base, h, hd, hc => by
   simp only [List.getElem?_cons_zero, Option.some.injEq] at h
   subst h
   simp only [effD, more_same, if_true, more_next0, hd, Bool.false_eq_true, if_false, List.append_nil, List.append_assoc]
   refine lookM_swap (fun hk => effD_hasK its _ (fun k it' hk' hd' => ?_))
   exact hc (k + 1) it' (by omega) (by simpa using hk') hd' t hk
 | q :: its, i + 1, it, dn, base, h, hd, hc => by
   simp only [List.getElem?_cons_succ] at h
   simp only [effD, more_next, more_other (show (0 : Nat) ≠ i + 1 by omega), List.append_assoc]
   exact effD_more its i it (nextD dn) _ h hd (fun k it' hik hk hd' => hc (k + 1) it' (by omega) (by simpa using hk) hd')
theorem effD_moreK {t : Nat} : ∀ (its : List Item) (i : Nat) (it : Item) (dn : Nat → Bool), its[i]? = some it → hasK (effD its (more dn i)) t = (hasK it.eff t || hasK (effD its dn) t)
 | [], _, _, _, h => by simp at h
 | q :: its, 0, it, dn, h => by
   simp only [List.getElem?_cons_zero, Option.some.injEq] at h
   subst h
   simp only [effD, more_same, if_true, more_next0, hasK_append]
   by_cases hd : dn 0 = true
   · rw [hd]; simp only [if_true]; cases hasK q.eff t <;> cases hasK (effD its (nextD dn)) t <;> rfl
   · rw [if_neg hd]; simp only [hasK]; cases hasK q.eff t <;> cases hasK (effD its (nextD dn)) t <;> rfl
 | q :: its, i + 1, it, dn, h => by
   simp only [List.getElem?_cons_succ] at h
   simp only [effD, more_next, more_other (show (0 : Nat) ≠ i + 1 by omega), hasK_append]
   rw [effD_moreK its i it (nextD dn) h, Bool.or_assoc]
theorem evOps_spec {Φ : Sig} {ρ : Env} {X : Ctx} {ops : Array Oper} {n : Nat} {S' : St} : ∀ (os : List Oper) (S : St) (its : List Item), (evOps X ops n os S).val (T.den Φ ρ) = some (S', its) → S.fa.hold Φ ρ →
   S'.fa.hold Φ ρ ∧ S'.nv = S.nv ∧ S.nb ≤ S'.nb ∧ its.length = os.length ∧ S'.tm = tmD its (fun _ => true) ++ S.tm ∧ S'.me = effD its (fun _ => true) ++ S.me ∧
   (∀ i o it, os[i]? = some o → its[i]? = some it → S.nb ≤ it.nb ∧ it.nb' ≤ S'.nb ∧ ∃ S0, OpSpec X Φ ρ ops n o S0 it ∧ S0.tm = tmD its (fun j => decide (j < i)) ++ S.tm ∧ S0.me = effD its (fun j => decide (j < i)) ++ S.me) ∧
   (∀ (i k : Nat) (a b : Item), i < k → its[i]? = some a → its[k]? = some b → a.nb' ≤ b.nb)
 | [], S, its, h, hf => by
   simp only [evOps, O.val] at h
   injection h with h
   injection h with e1 e2
   subst e1 e2
   exact ⟨hf, rfl, Nat.le_refl _, rfl, rfl, rfl, fun i o it h => by simp at h, fun i k a b _ h => by simp at h⟩
 | o :: os, S, its, h, hf => by
   simp only [evOps] at h
   obtain ⟨⟨it, fa⟩, h1, h2⟩ := O.bind_some h
   obtain ⟨⟨S1, its1⟩, h3, h4⟩ := O.bind_some h2
   simp only [O.val] at h4
   injection h4 with h4
   injection h4 with e1 e2
   subst e1 e2
   obtain ⟨hfa, hsp⟩ := evOp_spec h1 hf
   have hnb := hsp.2.2.1
   have hle := hsp.nb_le
   obtain ⟨g1, g2, g3, g4, g5, g6, g7, g8⟩ := evOps_spec os (S.put it fa) its1 h3 hfa
   have g3 : it.nb' ≤ S1.nb := g3
   have hlen : its1.length = os.length := g4
   refine ⟨g1, g2, by omega, by simp [g4], ?_, ?_, ?_, ?_⟩
   · rw [g5]; simp only [tmD, if_true, List.append_assoc]; rfl
   · rw [g6]; simp only [effD, if_true, List.append_assoc]; rfl
   · intro i o' it' ho hi
     cases i with
     | zero =>
       simp only [List.getElem?_cons_zero, Option.some.injEq] at ho hi
       subst ho hi
       refine ⟨by omega, g3, S, hsp, ?_, ?_⟩
       · have e : (fun j => decide (j < 0)) = fun _ : Nat => false := by funext j; simp
         rw [e, tmD_none]; rfl
       · have e : (fun j => decide (j < 0)) = fun _ : Nat => false := by funext j; simp
         rw [e, effD_none]; rfl
     | succ i =>
       simp only [List.getElem?_cons_succ] at ho hi
       obtain ⟨k1, k2, S0, k3, k4, k5⟩ := g7 i o' it' ho hi
       have k1 : it.nb' ≤ it'.nb := k1
       refine ⟨by omega, k2, S0, k3, ?_, ?_⟩
       · rw [k4]; simp only [tmD, lt_next, List.append_assoc]; rfl
       · rw [k5]; simp only [effD, lt_next, List.append_assoc]; rfl
   · intro i k a b hik ha hb
     cases k with
     | zero => omega
     | succ k =>
       simp only [List.getElem?_cons_succ] at hb
       cases i with
       | zero =>
         simp only [List.getElem?_cons_zero, Option.some.injEq] at ha
         subst ha
         obtain ⟨o', ho'⟩ : ∃ o', os[k]? = some o' := by
           have := (List.getElem?_eq_some_iff.1 hb).1
           exact ⟨os[k]'(by omega), List.getElem?_eq_getElem (by omega)⟩
         exact (g7 k o' b ho' hb).1
       | succ i =>
         simp only [List.getElem?_cons_succ] at ha
         exact g8 i k a b (by omega) ha hb
theorem onceN_mem : ∀ (l acc : List Nat) (j : Nat), j ∈ onceN l acc → j ∈ l ∨ j ∈ acc
 | [], acc, j, h => .inr h
 | k :: l, acc, j, h => by
   simp only [onceN] at h
   split at h
   · exact (onceN_mem l acc j h).imp (List.mem_cons_of_mem _) id
   · rcases onceN_mem l (k :: acc) j h with h | h
     · exact .inl (List.mem_cons_of_mem _ h)
     · rcases List.mem_cons.mp h with h | h
       · subst h; exact .inl List.mem_cons_self
       · exact .inr h
def Closed (ops : Array Oper) (dn : Nat → Bool) : Prop := ∀ k o, ops[k]? = some o → dn k = true → ∀ e ∈ o.after.toList, Region.binds .any e = true → dn e.on = true
theorem aheadOf_done {dn : Nat → Bool} {acc : List (List Nat)} (hacc : ∀ k, dn k = true → ∀ i ∈ acc.getD k [], dn i = true) : ∀ (es : List Edge) (r : List Nat), (∀ e ∈ es, Region.binds .any e = true → dn e.on = true) → (∀ i ∈ r, dn i = true) → ∀ i ∈ aheadOf acc es r, dn i = true
 | [], r, _, hr, i, hi => hr i hi
 | e :: es, r, he, hr, i, hi => by
   simp only [aheadOf] at hi
   have he' := fun e' h' => he e' (List.mem_cons_of_mem _ h')
   split at hi
   · rename_i hb
     have hon := he e List.mem_cons_self hb
     refine aheadOf_done hacc es _ he' (fun j hj => ?_) i hi
     rcases onceN_mem _ _ _ hj with hj | hj
     · rcases List.mem_cons.mp hj with hj | hj
       · subst hj; exact hon
       · exact hacc _ hon j hj
     · exact hr j hj
   · exact aheadOf_done hacc es r he' hr i hi
theorem aheads_done {ops : Array Oper} {dn : Nat → Bool} (hcl : Closed ops dn) : ∀ (os : List Oper) (acc : List (List Nat)), (∀ k o, os[k]? = some o → ops[acc.length + k]? = some o) → (∀ k o, ops[k]? = some o → (∀ e ∈ o.after.toList, Region.binds .any e = true → dn e.on = true) → ∀ i ∈ acc.getD k [], dn i = true) →
   ∀ k o, ops[k]? = some o → (∀ e ∈ o.after.toList, Region.binds .any e = true → dn e.on = true) → ∀ i ∈ (aheads os acc).getD k [], dn i = true
 | [], acc, _, hacc => hacc
 | o :: os, acc, hos, hacc => by
   simp only [aheads]
   refine aheads_done hcl os _ (fun k o' hk => ?_) (fun k o' ho hd i hi => ?_)
   · have := hos (k + 1) o' (by simpa using hk)
     simp only [List.length_append, List.length_cons, List.length_nil]
     rw [show acc.length + (0 + 1) + k = acc.length + (k + 1) from by omega]; exact this
   · rw [List.getD_eq_getElem?_getD] at hi
     by_cases hlt : k < acc.length
     · rw [List.getElem?_append_left hlt] at hi
       exact hacc k o' ho hd i (by rw [List.getD_eq_getElem?_getD]; exact hi)
     · by_cases hk : k = acc.length
       · subst hk
         simp only [List.getElem?_append_right (Nat.le_refl _), Nat.sub_self, List.getElem?_cons_zero, Option.getD_some] at hi
         have h0 := hos 0 o rfl
         simp only [Nat.add_zero] at h0
         rw [h0] at ho
         injection ho with ho
         subst ho
         refine aheadOf_done (fun k hk j hj => ?_) _ _ hd (by simp) i hi
         by_cases hex : ∃ o2, ops[k]? = some o2
         · obtain ⟨o2, ho2⟩ := hex
           exact hacc k o2 ho2 (hcl k o2 ho2 hk) j hj
         · 
           rw [List.getD_eq_getElem?_getD] at hj
           by_cases hkl : k < acc.length
           · exfalso
             have hsz : acc.length < ops.size := (Array.getElem?_eq_some_iff.1 h0).1
             exact hex ⟨ops[k]'(by omega), Array.getElem?_eq_getElem (by omega)⟩
           · rw [List.getElem?_eq_none (by omega)] at hj
             simp at hj
       · rw [List.getElem?_eq_none (by simp; omega)] at hi
         simp at hi
theorem freeOf_spec {r : Item} {ah : List Nat} : ∀ (qs : List Item) (i0 : Nat), freeOf r ah qs i0 = true → ∀ i q, qs[i]? = some q → (i0 + i) ∈ ah ∨ clash q r = false
 | [], _, _, i, q, h => by simp at h
 | p :: qs, i0, hf, i, q, h => by
   simp only [freeOf, Bool.and_eq_true, Bool.or_eq_true, Bool.not_eq_true'] at hf
   cases i with
   | zero =>
     simp only [List.getElem?_cons_zero, Option.some.injEq] at h
     subst h
     exact hf.1.imp (fun h => hasN_mem.mp h) id
   | succ i =>
     simp only [List.getElem?_cons_succ] at h
     rw [show i0 + (i + 1) = i0 + 1 + i from by omega]
     exact freeOf_spec qs (i0 + 1) hf.2 i q h
theorem indep_spec {ahs : List (List Nat)} : ∀ (rs done : List Item), indep ahs rs done = true → ∀ k r, rs[k]? = some r → ∀ i q, i < done.length + k → (done ++ rs)[i]? = some q → i ∈ ahs.getD (done.length + k) [] ∨ clash q r = false
 | [], _, _, k, r, h => by simp at h
 | p :: rs, done, hi, k, r, h => by
   simp only [indep, Bool.and_eq_true] at hi
   intro i q hik hq
   cases k with
   | zero =>
     simp only [List.getElem?_cons_zero, Option.some.injEq] at h
     subst h
     rw [List.getElem?_append_left (by omega)] at hq
     have := freeOf_spec done 0 hi.1 i q hq
     rw [Nat.zero_add] at this
     exact this
   | succ k =>
     simp only [List.getElem?_cons_succ] at h
     have := indep_spec rs (done ++ [p]) hi.2 k r h i q (by simp; omega) (by simpa using hq)
     simpa [Nat.add_assoc, Nat.add_comm 1 k] using this
theorem hasO_false {l : List Nat} {d : Option Nat} (h : hasO l d = false) : ∀ t, d = some t → t ∉ l := by
 intro t ht hm
 subst ht
 simp only [hasO] at h
 rw [hasN_mem.mpr hm] at h
 cases h
theorem keys_mem {α : Type} : ∀ {l : List (Nat × α)} {j : Nat}, hasK l j = true → j ∈ keys l
 | (k, _) :: l, j, h => by
   simp only [hasK, Bool.or_eq_true] at h
   simp only [keys, List.mem_cons]
   rcases h with h | h
   · exact .inl (Nat.eq_of_beq_eq_true h).symm
   · exact .inr (keys_mem h)
theorem interL_false : ∀ {l m : List Nat}, interL l m = false → ∀ j, j ∈ l → j ∉ m
 | k :: l, m, h, j, hj, hm => by
   simp only [interL, Bool.or_eq_false_iff] at h
   rcases List.mem_cons.mp hj with e | hj
   · subst e; rw [hasN_mem.mpr hm] at h; cases h.1
   · exact interL_false h.2 j hj hm
structure Apart (a b : Item) : Prop where
 d1 : ∀ t, a.dst = some t → t ∉ b.sr
 d2 : ∀ t, b.dst = some t → t ∉ a.sr
 d3 : ∀ t, a.dst = some t → b.dst ≠ some t
 m1 : ∀ j, hasK a.eff j = true → j ∉ b.br
 m2 : ∀ j, hasK b.eff j = true → j ∉ a.br
 m3 : ∀ j, hasK a.eff j = true → hasK b.eff j = false
theorem clash_apart {a b : Item} (h : clash a b = false) : Apart a b := by
 simp only [clash, Bool.or_eq_false_iff] at h
 obtain ⟨⟨⟨⟨⟨h1, h2⟩, h3⟩, h4⟩, h5⟩, h6⟩ := h
 refine ⟨hasO_false h1, hasO_false h2, fun t ht hb => ?_, fun j hj => interL_false h4 j (keys_mem hj), fun j hj => interL_false h5 j (keys_mem hj), fun j hj => ?_⟩
 · rw [ht, hb] at h3
   simp [hasO, hasN] at h3
 · cases hb : hasK b.eff j with
   | false => rfl
   | true => exact absurd (keys_mem hb) (interL_false h6 j (keys_mem hj))
theorem draw_any {Φ : Sig} {ρ : Env} {en : En} {X : Ctx} (hX : CallOk X.P Φ X.call) {ops : Array Oper} {Q : Exit → Act → World → Prop} {S S' : St} {its : List Item} (hm : X.P.follows .mixedOrders = true) (hord : (ops.toList.zipIdx.all fun x => x.1.after.all fun e => !Region.binds .any e || Nat.ble (e.on + 1) x.2) = true)
   (hind : indep (aheads ops.toList []) its [] = true) (hev : (evOps X ops en.n ops.toList S).val (T.den Φ ρ) = some (S', its)) (hf : S.fa.hold Φ ρ) {β : Map} {a : Act} {w : World} {d : List (Nat × Option MB)} (hc : Cur (T.den Φ ρ) en S.tm S.me d β a w)
   (hfree : ∀ j, S.nb ≤ j → β j = none) (hlo : en.nb0 ≤ S.nb)
   (hQ : ∀ a' w' β' p q, S'.fa.hold Φ ρ → S'.nv = S.nv → S.nb ≤ S'.nb → S'.tm = p ++ S.tm → S'.me = q ++ S.me → Cur (T.den Φ ρ) en S'.tm S'.me (q ++ d) β' a' w' → (∀ j, S'.nb ≤ j → β' j = none) → (∀ j, j < S.nb → β' j = β j) → Q .normal a' w') :
   wpAny X.P .any ops Q ops.size (Array.replicate ops.size false) a { w with drawn := w.drawn + 1 } := by
 obtain ⟨g1, g2, g3, g4, g5, g6, g7, g8⟩ := evOps_spec ops.toList S its hev hf
 have hord' : ∀ (i : Nat) (o : Oper), ops[i]? = some o → (o.after.all fun e => !Region.binds .any e || Nat.ble (e.on + 1) i) = true := by
   intro i o ho
   rw [List.all_eq_true] at hord
   refine hord (o, i) ?_
   rw [List.mem_zipIdx_iff_getElem?]
   rw [← Array.getElem?_toList] at ho
   exact ho
 have hlen : its.length = ops.size := by rw [g4]; simp
 have itemAt : ∀ i, i < ops.size → ∃ it, its[i]? = some it := fun i hi => ⟨its[i]'(by omega), List.getElem?_eq_getElem (by omega)⟩
 have opAt : ∀ {i : Nat} {o : Oper}, ops[i]? = some o → ops.toList[i]? = some o := fun h => by rw [← Array.getElem?_toList] at h; exact h
 refine wpAny_inv (fun dn a' w' => Closed ops dn ∧ ∃ β', Cur (T.den Φ ρ) en (tmD its dn ++ S.tm) (effD its dn ++ S.me) (effD its dn ++ d) β' a' w' ∧ (∀ j, S.nb ≤ j → (∀ i it, its[i]? = some it → dn i = true → ¬ isNew it.nb it.nb' j) → β' j = none) ∧ (∀ j, j < S.nb → β' j = β j)) ?_ ?_ hord' ?_ _ _ _ _ (by simp) (by simp) ?_
 · 
   rintro i o ho dn a' w' ⟨hcl, β', hc', hfr, hbe⟩ hdn hdep
   have hi : i < ops.size := (Array.getElem?_eq_some_iff.1 ho).1
   obtain ⟨it, hit⟩ := itemAt i hi
   obtain ⟨k1, k2, S0, k3, k4, k5⟩ := g7 i o it (opAt ho) hit
   have hdep' : ∀ e ∈ o.after.toList, Region.binds .any e = true → dn e.on = true := by
     rw [Array.all_eq_true_iff_forall_mem] at hdep
     intro e he hb
     have := hdep e (by simpa using he)
     rw [hb] at this
     simpa using this
   have hah := aheads_done hcl ops.toList [] (fun k o hk => by
     rw [List.length_nil, Nat.zero_add, ← Array.getElem?_toList]; exact hk) (fun k o _ _ i hi => by simp at hi)
   have early : ∀ k q, k < i → its[k]? = some q → dn k = false → Apart q it := by
     intro k q hki hq hd
     have := indep_spec its [] hind i it hit k q (by simpa using hki) (by simpa using hq)
     rcases this with h | h
     · have := hah i o ho hdep' k (by simpa using h)
       rw [hd] at this; cases this
     · exact clash_apart h
   have late : ∀ k q, i < k → its[k]? = some q → dn k = true → Apart it q := by
     intro k q hki hq hd
     have := indep_spec its [] hind k q hq i it (by simpa using hki) (by simpa using hit)
     rcases this with h | h
     · have hk : k < ops.size := by rw [← hlen]; exact (List.getElem?_eq_some_iff.1 hq).1
       have hok : ops[k]? = some ops[k] := Array.getElem?_eq_getElem hk
       have := hah k _ hok (hcl k _ hok hd) i (by simpa using h)
       rw [hdn] at this; cases this
     · exact clash_apart h
   have differ : ∀ k q, its[k]? = some q → dn k ≠ decide (k < i) → (k < i ∧ dn k = false) ∨ (i < k ∧ dn k = true) := by
     intro k q hq hne
     by_cases hki : k < i
     · left; refine ⟨hki, ?_⟩
       rw [decide_eq_true hki] at hne
       simpa using hne
     · rw [decide_eq_false hki] at hne
       have hdk : dn k = true := by simpa using hne
       right
       refine ⟨?_, hdk⟩
       have : k ≠ i := fun e => by rw [e, hdn] at hdk; cases hdk
       omega
   have hnames : ∀ j, isNew it.nb it.nb' j → β' j = none := by
     intro j hj
     refine hfr j (by unfold isNew at hj; omega) (fun k q hq hd hn => ?_)
     have hne : k ≠ i := fun e => by rw [e, hdn] at hd; cases hd
     rcases Nat.lt_or_gt_of_ne hne with h | h
     · have := g8 k i q it h hq hit
       unfold isNew at hj hn; omega
     · have := g8 i k it q h hit hq
       unfold isNew at hj hn; omega
   refine item_step hX ho k3 (fun t ht => ?_) (fun j hj => ?_) hc' hnames (by omega) _ _ (fun a'' w'' β'' hc'' hbl hbo => ?_)
   · rw [k4]
     refine tmD_agree its _ _ _ (fun k q hq hne hd => ?_)
     rcases differ k q hq hne with ⟨h1, h2⟩ | ⟨h1, h2⟩
     · exact (early k q h1 hq h2).d1 t hd ht
     · exact (late k q h1 hq h2).d2 t hd ht
   · rw [k5]
     refine effD_agree its _ _ _ (fun k q hq hne => ?_)
     cases hd : hasK q.eff j with
     | false => rfl
     | true =>
       exfalso
       rcases differ k q hq hne with ⟨h1, h2⟩ | ⟨h1, h2⟩
       · exact (early k q h1 hq h2).m1 j hd hj
       · exact (late k q h1 hq h2).m2 j hd hj
   · refine ⟨fun k o' hk hd e he hb => ?_, β'', ?_, fun j hj hall => ?_, fun j hj => ?_⟩
     · by_cases hki : k = i
       · subst hki
         rw [ho] at hk
         injection hk with hk
         subst hk
         have := hdep' e he hb
         simp only [more]; split
         · rfl
         · exact this
       · rw [more_other hki] at hd
         have := hcl k o' hk hd e he hb
         simp only [more]; split
         · rfl
         · exact this
     · have hl3 : ∀ k it', i < k → its[k]? = some it' → dn k = true → ∀ t, hasK it.eff t = true → hasK it'.eff t = false := fun k q hik hq hd t ht => (late k q hik hq hd).m3 t ht
       refine hc''.to (fun t => ?_) (fun j => ?_) (fun j => ?_) (fun j => ?_)
       · exact tmD_more its i it dn _ hit hdn (fun k q hik hq hd t ht => (late k q hik hq hd).d3 t ht)
       · exact effD_more its i it dn _ hit hdn hl3
       · rw [hasK_append, hasK_append, hasK_append, effD_moreK its i it dn hit, Bool.or_assoc]
       · exact effD_more its i it dn _ hit hdn hl3
     · have hni : ¬ isNew it.nb it.nb' j := hall i it hit (more_same dn i)
       rw [hbo j hni]
       exact hfr j hj (fun k q hq hd => hall k q hq (by by_cases hki : k = i <;> simp [more, hki, hd]))
     · rw [hbo j (fun hn => by unfold isNew at hn; omega)]
       exact hbe j hj
 · 
   rintro dn dn' a' w' hj ⟨hcl, β', hc', hfr, hbe⟩
   have hj' : ∀ j, j < its.length → dn j = dn' j := fun j h => hj j (by omega)
   refine ⟨fun k o hk hd e he hb => ?_, β', by rw [← tmD_ext its dn dn' hj', ← effD_ext its dn dn' hj']; exact hc', fun j h hall => hfr j h (fun i it hi hd => hall i it hi (by rw [← hj' i (List.getElem?_eq_some_iff.1 hi).1]; exact hd)), hbe⟩
   have hks : k < ops.size := (Array.getElem?_eq_some_iff.1 hk).1
   have hlt : e.on < k := by
     have := hord' k o hk
     rw [Array.all_eq_true_iff_forall_mem] at this
     have := this e (by simpa using he)
     rw [hb] at this
     exact Nat.le_of_ble_eq_true (by simpa using this)
   rw [← hj e.on (by omega)]
   exact hcl k o hk (by rw [hj k hks]; exact hd) e he hb
 · 
   rintro a' w' ⟨_, β', hc', hfr, hbe⟩
   refine hQ a' w' β' _ _ g1 g2 g3 g5 g6 (by rw [g5, g6]; exact hc') (fun j hj => hfr j (by omega) (fun i it hi _ hn => ?_)) hbe
   have hi' : i < ops.size := by rw [← hlen]; exact (List.getElem?_eq_some_iff.1 hi).1
   have := (g7 i _ it (opAt (Array.getElem?_eq_getElem hi')) hi).2.1
   unfold isNew at hn; omega
 · 
   have e : (fun j => (Array.replicate ops.size false).getD j false) = fun _ => false := by
     funext j
     rw [Array.getD_eq_getD_getElem?]
     by_cases hj : j < ops.size
     · rw [Array.getElem?_eq_getElem (by simpa using hj)]; simp
     · rw [Array.getElem?_eq_none (by simpa using Nat.le_of_not_lt hj)]; rfl
   rw [e]
   refine ⟨fun k o hk hd => (by cases hd), β, ?_, fun j hj _ => hfree j hj, fun _ _ => rfl⟩
   rw [tmD_none, effD_none]
   exact { hc with me := memRep_heap hc.me rfl, heap := inHeap_heap hc.heap rfl, run := hc.run.heap rfl rfl rfl rfl }
end
end Go.Proofs.YtfhjlimdakphcaaGreat.Sx
set_option linter.unusedVariables false
set_option linter.unusedSimpArgs false
namespace Go.Proofs.YtfhjlimdakphcaaGreat.Sx
open Go Go.RowKit
abbrev BK := Nat → List D → Prop
def BK.at_ (B : BK) (b : Nat) (p : List D → Prop) : BK := fun i ds => if i = b then p ds else B i ds
structure Inv where
 I : Nat → Env → List D → Prop
 μ : Nat → Env → List D → Nat
def M.ok (Φ : Sig) (J : Inv) {α : Type} : M α → BK → Env → (BK → Env → α → Prop) → Prop
 | .ret a, B, ρ, K => K B ρ a
 | .split t x y, B, ρ, K => ((t.den Φ ρ).bool = true → x.ok Φ J B ρ K) ∧ ((t.den Φ ρ).bool = false → y.ok Φ J B ρ K)
 | .chk t x, B, ρ, K => (t.den Φ ρ).bool = true ∧ x.ok Φ J B ρ K
 | .fail _, _, _, _ => False
 | .loop id b n σ fs x, B, ρ, K => J.I id ρ (σ.map (T.den Φ ρ)) ∧ ∀ ds, ds.length = n → J.I id ρ ds → fs.hold Φ (upd ρ b ds) ∧ x.ok Φ J (B.at_ b fun ds' => J.I id ρ ds' ∧ J.μ id ρ ds' < J.μ id ρ ds) (upd ρ b ds) K
 | .back id b σ, B, ρ, _ => B b (σ.map (T.den Φ ρ))
section
variable {Φ : Sig} {J : Inv}
theorem M.ok_bind {α γ : Type} {f : α → M γ} {K : BK → Env → γ → Prop} : ∀ {m : M α} {B : BK} {ρ : Env}, (m.bind f).ok Φ J B ρ K → m.ok Φ J B ρ (fun B' ρ' a => (f a).ok Φ J B' ρ' K)
 | .ret a, B, ρ, h => h
 | .split t x y, B, ρ, h => ⟨fun e => M.ok_bind (h.1 e), fun e => M.ok_bind (h.2 e)⟩
 | .chk t x, B, ρ, h => ⟨h.1, M.ok_bind h.2⟩
 | .fail _, _, _, h => h
 | .loop id b n σ fs x, B, ρ, h => ⟨h.1, fun ds hn hi => ⟨(h.2 ds hn hi).1, M.ok_bind (h.2 ds hn hi).2⟩⟩
 | .back id b σ, B, ρ, h => h
theorem M.ok_lift {α : Type} {K : BK → Env → α → Prop} : ∀ {o : O α} {B : BK} {ρ : Env}, (M.lift o).ok Φ J B ρ K → ∃ a, o.val (T.den Φ ρ) = some a ∧ K B ρ a
 | .ret a, B, ρ, h => ⟨a, rfl, h⟩
 | .split t x y, B, ρ, h => by
   by_cases e : (t.den Φ ρ).bool = true
   · obtain ⟨a, h1, h2⟩ := M.ok_lift (h.1 e)
     exact ⟨a, by simp only [O.val]; rw [if_pos e]; exact h1, h2⟩
   · obtain ⟨a, h1, h2⟩ := M.ok_lift (h.2 (by simpa using e))
     exact ⟨a, by simp only [O.val]; rw [if_neg e]; exact h1, h2⟩
 | .chk t x, B, ρ, h => by
   obtain ⟨a, h1, h2⟩ := M.ok_lift h.2
   exact ⟨a, by simp only [O.val]; rw [if_pos h.1]; exact h1, h2⟩
 | .fail _, _, _, h => h.elim
theorem M.ok_toO {α : Type} {B : BK} {ρ : Env} {a : α} : ∀ {m : M α}, m.toO.val (T.den Φ ρ) = some a → m.ok Φ J B ρ (fun _ ρ' a' => ρ' = ρ ∧ a' = a)
 | .ret a', h => by simp only [M.toO, O.val] at h; injection h with h; exact ⟨rfl, h⟩
 | .split t x y, h => by
   simp only [M.toO, O.val] at h
   refine ⟨fun e => ?_, fun e => ?_⟩
   · rw [if_pos e] at h; exact M.ok_toO h
   · rw [if_neg (by rw [e]; simp)] at h; exact M.ok_toO h
 | .chk t x, h => by
   simp only [M.toO, O.val] at h
   split at h
   · rename_i e; exact ⟨e, M.ok_toO h⟩
   · cases h
 | .fail _, h => by simp [M.toO, O.val] at h
 | .loop .., h => by simp [M.toO, O.val] at h
 | .back .., h => by simp [M.toO, O.val] at h
end
def Ex.to : Ex → Exit
 | .norm => .normal
 | .exit i => .exit i
 | .ret => .ret
section
variable {Φ : Sig} {J : Inv} {en : En} {X : Ctx} {L : Nat → St → Ann}
def Post (Φ : Sig) (en : En) (K : BK → Env → Ex × St → Prop) (B : BK) (ρ : Env) (S : St) (β : Map) : Exit → Act → World → Prop :=
 fun e a w => ∃ B' ρ' r β', K B' ρ' r ∧ e = r.1.to ∧ Sim Φ ρ' en r.2 β' a w ∧ After ρ S β ρ' r.2 β' ∧ ∀ i, i < S.nv → B' i = B i
theorem Post.then {K : BK → Env → Ex × St → Prop} {B B' : BK} {ρ ρ' : Env} {S S' : St} {β β' : Map} {e : Exit} {a : Act} {w : World} (h : Post Φ en K B' ρ' S' β' e a w) (ha : After ρ S β ρ' S' β') (hB : ∀ i, i < S.nv → B' i = B i) : Post Φ en K B ρ S β e a w := by
 obtain ⟨B2, ρ2, r, β2, h1, h2, h3, h4, h5⟩ := h
 exact ⟨B2, ρ2, r, β2, h1, h2, h3, ha.trans h4, fun i hi => (h5 i (Nat.lt_of_lt_of_le hi ha.nv)).trans (hB i hi)⟩
def RegW (P : Program) (ops : Array Oper) (draw : Bool) (Q : Exit → Act → World → Prop) (a : Act) (w : World) : Prop := match draw with
 | true => P.follows .mixedOrders = true ∧ wpAny P .any ops Q ops.size (Array.replicate ops.size false) a { w with drawn := w.drawn + 1 }
 | false => wpOps P ops Q (List.range ops.size) a w
theorem RegW.wp {P : Program} {id : Nat} {ops : Array Oper} {draw : Bool} {Q : Exit → Act → World → Prop} {a : Act} {w : World} (h : RegW P ops draw Q a w) : (Code.region id ops draw).wp P Q a w := by
 cases draw with
 | true => exact wp_region_any h.1 h.2
 | false => exact wp_region h
theorem region_reg (hX : CallOk X.P Φ X.call) {ops : Array Oper} {draw : Bool} {S S' : St} {ρ : Env} (hev : (evRegion X ops draw en.n S).val (T.den Φ ρ) = some S') {β : Map} {a : Act} {w : World} (hs : Sim Φ ρ en S β a w)
   {Q : Exit → Act → World → Prop} (hQ : ∀ a' w' β', Sim Φ ρ en S' β' a' w' → After ρ S β ρ S' β' → Q .normal a' w') : RegW X.P ops draw Q a w := by
 unfold evRegion at hev
 obtain ⟨⟨S1, its⟩, h1, h2⟩ := O.bind_some hev
 obtain ⟨d, hd, hc⟩ := hs.cur
 have hQ' : ∀ a' w' β' p q, S1.fa.hold Φ ρ → S1.nv = S.nv → S.nb ≤ S1.nb → S1.tm = p ++ S.tm → S1.me = q ++ S.me → Cur (T.den Φ ρ) en S1.tm S1.me (q ++ d) β' a' w' → (∀ j, S1.nb ≤ j → β' j = none) → (∀ j, j < S.nb → β' j = β j) → S1 = S' → Q .normal a' w' := by
   intro a' w' β' p q g1 g2 g3 g4 g5 g6 g7 g8 e
   subst e
   exact hQ a' w' β' ⟨⟨q ++ d, by rw [g5, hd, List.append_assoc], g6⟩, g1, g7, Nat.le_trans hs.lo g3⟩ ⟨fun _ _ => rfl, by rw [g2]; exact Nat.le_refl _, g3, g8, ⟨p, g4⟩, ⟨q, g5⟩⟩
 simp only at h2
 cases draw with
 | true =>
   simp only [if_true] at h2
   split at h2
   · rename_i hd'
     simp only [Bool.and_eq_true] at hd'
     obtain ⟨⟨e1, e2⟩, e3⟩ := hd'
     simp only [O.val] at h2
     injection h2 with h2
     exact ⟨e1, draw_any hX e1 e2 e3 h1 hs.fa hc hs.free hs.lo (fun a' w' β' p q g1 g2 g3 g4 g5 g6 g7 g8 => hQ' a' w' β' p q g1 g2 g3 g4 g5 g6 g7 g8 h2)⟩
   · cases h2
 | false =>
   simp only [if_false, Bool.false_eq_true] at h2
   simp only [O.val] at h2
   injection h2 with h2
   show wpOps X.P ops Q (List.range ops.size) a w
   rw [List.range_eq_range']
   have := seq_sound hX (Q := Q) ops.toList 0 S its (fun k o hk => by rw [Nat.zero_add, ← Array.getElem?_toList]; exact hk) h1 hs.fa β a w d hc hs.free hs.lo (fun a' w' β' p q g1 g2 g3 g4 g5 g6 g7 g8 => hQ' a' w' β' p q g1 g2 g3 g4 g5 g6 g7 g8 h2)
   simpa using this
theorem region_sound (hX : CallOk X.P Φ X.call) {id : Nat} {ops : Array Oper} {draw : Bool} {S S' : St} {ρ : Env} (hev : (evRegion X ops draw en.n S).val (T.den Φ ρ) = some S') {β : Map} {a : Act} {w : World} (hs : Sim Φ ρ en S β a w)
   {Q : Exit → Act → World → Prop} (hQ : ∀ a' w' β', Sim Φ ρ en S' β' a' w' → After ρ S β ρ S' β' → Q .normal a' w') : (Code.region id ops draw).wp X.P Q a w := (region_reg hX hev hs hQ).wp
theorem hasK_append_iff {α : Type} {l m : List (Nat × α)} {t : Nat} : hasK (l ++ m) t = true ↔ hasK l t = true ∨ hasK m t = true := by rw [hasK_append, Bool.or_eq_true]
theorem takeN_append {α : Type} : ∀ (p l : List α), takeN (lenN (p ++ l) - lenN l) (p ++ l) = p
 | [], l => by simp only [List.nil_append, Nat.sub_self]; cases l <;> rfl
 | x :: p, l => by
   simp only [List.cons_append, lenN]
   have : lenN (p ++ l) + 1 - lenN l = (lenN (p ++ l) - lenN l) + 1 := by
     simp only [lenN_eq, List.length_append]; omega
   rw [this]
   simp only [takeN, takeN_append p l]
theorem keysIn_mem {α γ : Type} {l : List (Nat × α)} : ∀ {p : List (Nat × γ)}, keysIn l p = true → ∀ {t : Nat}, hasK p t = true → hasK l t = true
 | [], _, t, h => by cases h
 | (k, _) :: p, hk, t, h => by
   simp only [keysIn, Bool.and_eq_true] at hk
   simp only [hasK, Bool.or_eq_true] at h
   rcases h with h | h
   · rw [← Nat.eq_of_beq_eq_true h]; exact hk.1
   · exact keysIn_mem hk.2 h
theorem keysOld_mem {nb : Nat} {l : List (Nat × Option MB)} : ∀ {p : List (Nat × Option MB)}, keysOld nb l p = true → ∀ {t : Nat}, hasK p t = true → nb ≤ t ∨ hasK l t = true
 | [], _, t, h => by cases h
 | (k, _) :: p, hk, t, h => by
   simp only [keysOld, Bool.and_eq_true, Bool.or_eq_true] at hk
   simp only [hasK, Bool.or_eq_true] at h
   rcases h with h | h
   · rw [← Nat.eq_of_beq_eq_true h]; exact hk.1.imp Nat.le_of_ble_eq_true id
   · exact keysOld_mem hk.2 h
theorem look_skip {t : Nat} {p l : List (Nat × V)} (h : hasK p t = false) : look (p ++ l) t = look l t := by rw [look_append, look_none h]; rfl
theorem head_start {H : Head} {S : St} {σ : List T} {π : List (Option Nat)} {ρ : Env} {β : Map} {a : Act} {w : World} (hstart : okStart H S = true) (hok : okHead H S.nv S.nb σ π S = true) (hfs : H.fa.hold Φ (upd ρ S.nv (σ.map (T.den Φ ρ)))) (hs : Sim Φ ρ en S β a w) :
   ∃ β2, Sim Φ (upd ρ S.nv (σ.map (T.den Φ ρ))) en (H.st S) β2 a w ∧ (∀ j, j < S.nb → β2 j = β j) ∧ (σ.map (T.den Φ ρ)).length = H.n := by
 refine head_sim hstart hok hs hs hfs (fun _ _ => rfl) (fun _ _ => rfl) (fun _ _ _ h => h) (fun _ _ _ => rfl) (fun d d1 h1 h2 => ?_)
 have e : d1 = d := by rw [h1] at h2; exact (List.append_cancel_right h2).symm
 subst e
 obtain ⟨d', hd', hc⟩ := hs.cur
 have e : d' = d1 := by rw [h1] at hd'; exact (List.append_cancel_right hd').symm
 subst e
 refine ⟨fun j _ hj => by rw [hasK_append, hasK_append, hj]; simp, fun j hj hk => ?_, fun k _ _ _ h => h⟩
 rw [hasK_append_iff, hasK_append_iff] at hk
 rcases hk with hk | hk | hk
 · simp only [okStart, Bool.and_eq_true] at hstart
   obtain ⟨x, hx, hrw⟩ := ownOld_mem hstart.2.2.2.2.2.2.2 hk
   rw [h1, lookM_append] at hx
   split at hx
   · rename_i hd; exact hc.run.wr j hd hj
   · exact ⟨x, hx, hrw⟩
 · have := (newE_has _ _ _).mp hk
   have := hs.lo
   omega
 · exact hc.run.wr j hk hj
theorem head_round {H : Head} {S S1 : St} {σ : List T} {π : List (Option Nat)} {ρe ρ0 ρ1 : Env} {βe β0 β1 : Map} {ae a : Act} {we w : World} (hstart : okStart H S = true) (hok : okHead H S.nv S.nb σ π S1 = true) (hfs : H.fa.hold Φ (upd ρe S.nv (σ.map (T.den Φ ρ1)))) (hround : okRound H S.nb (H.st S) S1 = true)
   (he : Sim Φ ρe en S βe ae we) (h1 : Sim Φ ρ1 en S1 β1 a w) (ha : After ρ0 (H.st S) β0 ρ1 S1 β1) (hρ : ∀ i, i < S.nv → ρ0 i = ρe i) (hβ : ∀ j, j < S.nb → β0 j = βe j) :
   ∃ β2, Sim Φ (upd ρe S.nv (σ.map (T.den Φ ρ1))) en (H.st S) β2 a w ∧ (∀ j, j < S.nb → β2 j = βe j) ∧ (σ.map (T.den Φ ρ1)).length = H.n := by
 obtain ⟨p, hp⟩ := ha.tm
 obtain ⟨q, hq⟩ := ha.me
 simp only [okRound, Bool.and_eq_true] at hround
 rw [hp, hq, takeN_append, takeN_append] at hround
 have kp : ∀ t, hasK p t = true → hasK H.tm t = true := fun t => keysIn_mem hround.1
 have kq : ∀ t, hasK q t = true → S.nb ≤ t ∨ hasK H.old t = true := fun t => keysOld_mem hround.2
 have nvle : S.nv ≤ (H.st S).nv := Nat.le_add_right _ _
 have nble : S.nb ≤ (H.st S).nb := Nat.le_add_right _ _
 have fls : ∀ {b : Bool}, b ≠ true → b = false := fun {b} h => by cases b <;> simp at h ⊢
 refine head_sim hstart hok he h1 hfs (fun i hi => (ha.rho i (by omega)).trans (hρ i hi)) (fun j hj => (ha.beta j (by omega)).trans (hβ j hj)) (fun t ht v hv => ?_) (fun j hj hk => ?_) (fun d d1 e1 e2 => ?_)
 · rw [hp, look_skip (fls fun h => by rw [kp t h] at ht; cases ht)]
   simp only [Head.st]
   rw [look_skip ht]; exact hv
 · have hqj : hasK q j = false := fls fun h => by
     rcases kq j h with h | h
     · omega
     · rw [hk] at h; cases h
   rw [hq, lookM_skip hqj]
   simp only [Head.st]
   rw [lookM_skip hk, lookM_skip (fls fun h => by have := (newE_has _ _ _).mp h; omega)]
 · have ed : d1 = q ++ (H.old ++ (newE S.nb H.new ++ d)) := by
     rw [hq] at e2
     simp only [Head.st, e1] at e2
     have : (q ++ (H.old ++ (newE S.nb H.new ++ d))) ++ en.base = d1 ++ en.base := by rw [← e2]; simp only [List.append_assoc]
     exact (List.append_cancel_right this).symm
   obtain ⟨d', hd', hc⟩ := h1.cur
   have e : d' = d1 := by rw [e2] at hd'; exact (List.append_cancel_right hd').symm
   subst e
   have hlo := he.lo
   refine ⟨fun j hj hk => ?_, fun j hj hk => ?_, fun k hk ho g1 g2 => ?_⟩
   · rw [ed, hasK_append_iff] at hk
     rcases hk with hk | hk
     · rcases kq j hk with h | h
       · omega
       · rw [hasK_append, h]; rfl
     · exact hk
   · exact hc.run.wr j (by rw [ed, hasK_append, hk]; simp) hj
   · have hqk : hasK q k = false := fls fun h => by
       rcases kq k h with h | h
       · omega
       · rw [ho] at h; cases h
     rw [ed, lookM_skip hqk, lookM_skip ho, lookM_skip (fls fun h => by have := (newE_has _ _ _).mp h; omega)] at g2
     exact g2
theorem code_sound (hX : CallOk X.P Φ X.call) : ∀ (c : Code) (S : St) (B : BK) (ρ : Env) (K : BK → Env → Ex × St → Prop), (evCode X L en.n c S).ok Φ J B ρ K → ∀ (β : Map) (a : Act) (w : World), Sim Φ ρ en S β a w → c.wp X.P (Post Φ en K B ρ S β) a w := by
 intro c
 induction c with
 | skip => intro S B ρ K h β a w hs; exact wp_skip ⟨B, ρ, _, β, h, rfl, hs, After.refl _ _ _, fun _ _ => rfl⟩
 | label l => intro S B ρ K h β a w hs; exact wp_label ⟨B, ρ, _, β, h, rfl, hs, After.refl _ _ _, fun _ _ => rfl⟩
 | ret => intro S B ρ K h β a w hs; exact wp_ret ⟨B, ρ, _, β, h, rfl, hs, After.refl _ _ _, fun _ _ => rfl⟩
 | exit i => intro S B ρ K h β a w hs; exact wp_exit ⟨B, ρ, _, β, h, rfl, hs, After.refl _ _ _, fun _ _ => rfl⟩
 | region id ops draw =>
   intro S B ρ K h β a w hs
   simp only [evCode] at h
   obtain ⟨S', h1, h2⟩ := M.ok_lift (M.ok_bind h)
   exact region_sound hX h1 hs (fun a' w' β' g1 g2 => ⟨B, ρ, (.norm, S'), β', h2, rfl, g1, g2, fun _ _ => rfl⟩)
 | seq x y ihx ihy =>
   intro S B ρ K h β a w hs
   simp only [evCode] at h
   refine wp_seq (wp_mono (ihx S B ρ _ (M.ok_bind h) β a w hs) ?_)
   rintro e a' w' ⟨B', ρ', ⟨ex, S'⟩, β', h1, h2, h3, h4, h5⟩
   subst h2
   cases ex with
   | norm => exact wp_mono (ihy S' B' ρ' K h1 β' a' w' h3) (fun e a w hp => hp.then h4 h5)
   | exit i => exact ⟨B', ρ', _, β', h1, rfl, h3, h4, h5⟩
   | ret => exact ⟨B', ρ', _, β', h1, rfl, h3, h4, h5⟩
 | cond c x y ihx ihy =>
   intro S B ρ K h β a w hs
   simp only [evCode] at h
   split at h
   · rename_i t ht
     obtain ⟨d, hd, hc⟩ := hs.cur
     have hv := opdV_rep hc.tm c
     rw [ht] at hv
     simp only [V.rep, W.rep, C.rep] at hv
     rw [← nrmB_ok hs.fa] at hv
     split at h
     · rename_i hdec
       have := decF_ok hs.fa hdec
       rw [this] at hv
       exact wp_cond_true hv (ihx S B ρ K h β a w hs)
     · rename_i hdec
       have := decF_ok hs.fa hdec
       rw [this] at hv
       exact wp_cond_false hv (ihy S B ρ K h β a w hs)
     · refine wp_cond_split hv (fun e => ?_) (fun e => ?_)
       · exact wp_mono (ihx _ B ρ K (h.1 e) β a w (hs.facts (addF_ok e hs.fa))) (fun _ _ _ ⟨B2, ρ2, r, β2, k1, k2, k3, k4, k5⟩ => ⟨B2, ρ2, r, β2, k1, k2, k3, k4.of_facts, k5⟩)
       · exact wp_mono (ihy _ B ρ K (h.2 e) β a w (hs.facts (addF_ok e hs.fa))) (fun _ _ _ ⟨B2, ρ2, r, β2, k1, k2, k3, k4, k5⟩ => ⟨B2, ρ2, r, β2, k1, k2, k3, k4.of_facts, k5⟩)
   · exact h.elim
 | block i x ih =>
   intro S B ρ K h β a w hs
   simp only [evCode] at h
   refine wp_block (wp_mono (ih S B ρ _ (M.ok_bind h) β a w hs) ?_)
   rintro e a' w' ⟨B', ρ', ⟨ex, S'⟩, β', h1, h2, h3, h4, h5⟩
   subst h2
   cases ex with
   | norm => exact ⟨B', ρ', _, β', h1, rfl, h3, h4, h5⟩
   | exit j =>
     simp only [Ex.to, Exit.inBlock]
     simp only at h1
     split at h1
     · rename_i e
       rw [if_pos (Nat.eq_of_beq_eq_true e)]
       exact ⟨B', ρ', _, β', h1, rfl, h3, h4, h5⟩
     · rename_i e
       rw [if_neg (fun e' => e (by rw [e']; exact Nat.beq_refl _))]
       exact ⟨B', ρ', _, β', h1, rfl, h3, h4, h5⟩
   | ret => exact ⟨B', ρ', _, β', h1, rfl, h3, h4, h5⟩
 | loop x ih =>
   intro S B ρ K h β a w hs
   simp only [evCode] at h
   split at h
   · 
     rename_i k _
     refine wp_loop_ghost (fun n a' w' => ∃ S' B' ρ' β', (M.iter (evCode X L en.n x) n S').ok Φ J B' ρ' K ∧ Sim Φ ρ' en S' β' a' w' ∧ After ρ S β ρ' S' β' ∧ ∀ i, i < S.nv → B' i = B i) k ⟨S, B, ρ, β, h, hs, After.refl _ _ _, fun _ _ => rfl⟩ ?_
     rintro n a' w' ⟨S', B', ρ', β', g1, g2, g3, g3b⟩
     cases n with
     | zero => exact (show False from g1).elim
     | succ n =>
       simp only [M.iter] at g1
       refine wp_mono (ih S' B' ρ' _ (M.ok_bind g1) β' a' w' g2) ?_
       rintro e a'' w'' ⟨B'', ρ'', ⟨ex, S''⟩, β'', h1, h2, h3, h4, h5⟩
       subst h2
       have hB : ∀ i, i < S.nv → B'' i = B i := fun i hi => (h5 i (Nat.lt_of_lt_of_le hi g3.nv)).trans (g3b i hi)
       cases ex with
       | norm => exact ⟨n, Nat.lt_succ_self n, S'', B'', ρ'', β'', h1, h3, g3.trans h4, hB⟩
       | exit i => exact ⟨B'', ρ'', _, β'', h1, rfl, h3, g3.trans h4, hB⟩
       | ret => exact ⟨B'', ρ'', _, β'', h1, rfl, h3, g3.trans h4, hB⟩
   · 
     rename_i id hd _
     split at h
     case isFalse => exact h.elim
     rename_i hck
     simp only [Bool.and_eq_true] at hck
     generalize hH : ({ hd with tm := hd.tm ++ writes x } : Head) = H at h hck
     generalize hm : matchH H S.nv S.nb S = mm at h hck
     obtain ⟨hok, hstart⟩ := hck
     obtain ⟨hI, hbody⟩ := h
     have aft : ∀ (ds : List D) (β2 : Map), (∀ j, j < S.nb → β2 j = β j) → After ρ S β (upd ρ S.nv ds) (H.st S) β2 := by
       intro ds β2 hb
       exact ⟨fun i hi => upd_lo ds hi, Nat.le_add_right _ _, Nat.le_add_right _ _, hb, ⟨H.tm, rfl⟩, ⟨H.old ++ newE S.nb H.new, by simp only [Head.st, List.append_assoc]⟩⟩
     have hHn : hd.n = H.n := by rw [← hH]
     have hHf : hd.fa = H.fa := by rw [← hH]
     have hml : (mm.1.map (T.den Φ ρ)).length = hd.n := by
       simp only [okHead, Bool.and_eq_true] at hok
       rw [hHn, List.length_map, ← lenN_eq]; exact Nat.eq_of_beq_eq_true hok.1
     obtain ⟨β2, s1, s2, s3⟩ := head_start hstart hok (by rw [← hHf]; exact (hbody _ hml hI).1) hs
     refine wp_loop_ghost (fun n a' w' => ∃ ds β', ds.length = H.n ∧ J.I id ρ ds ∧ J.μ id ρ ds = n ∧ Sim Φ (upd ρ S.nv ds) en (H.st S) β' a' w' ∧ (∀ j, j < S.nb → β' j = β j)) _ ⟨_, β2, s3, hI, rfl, s1, s2⟩ ?_
     rintro n a' w' ⟨ds, β', g1, g2, g3, g4, g5⟩
     refine wp_mono (ih (H.st S) _ _ _ (M.ok_bind (hbody ds (g1.trans hHn.symm) g2).2) β' a' w' g4) ?_
     rintro e a'' w'' ⟨B'', ρ'', ⟨ex, S''⟩, β'', h1, h2, h3, h4, h5⟩
     subst h2
     have ha := (aft ds β' g5).trans h4
     have hn1 : 1 ≤ H.n := by
       simp only [okStart, Bool.and_eq_true] at hstart
       exact Nat.le_of_ble_eq_true hstart.1
     have hnv : (H.st S).nv = S.nv + H.n := rfl
     have hB : ∀ i, i < S.nv → B'' i = B i := fun i hi => by
       rw [h5 i (by omega)]
       funext ds'
       simp only [BK.at_, if_neg (show i ≠ S.nv from by omega)]
     cases ex with
     | norm =>
       simp only [backTo] at h1
       split at h1
       case isFalse => exact h1.elim
       rename_i hck'
       simp only [Bool.and_eq_true] at hck'
       have h1 : B'' S.nv (List.map (T.den Φ ρ'') (matchH H S.nv S.nb S'').1) := h1
       rw [h5 S.nv (by omega)] at h1
       simp only [BK.at_, if_true] at h1
       have hml' : ((matchH H S.nv S.nb S'').1.map (T.den Φ ρ'')).length = hd.n := by
         have := hck'.1
         simp only [okHead, Bool.and_eq_true] at this
         rw [hHn, List.length_map, ← lenN_eq]; exact Nat.eq_of_beq_eq_true this.1
       obtain ⟨β3, r1, r2, r3⟩ := head_round hstart hck'.1 (by rw [← hHf]; exact (hbody _ hml' h1.1).1) hck'.2 hs h3 h4 (fun i hi => upd_lo ds hi) g5
       exact ⟨_, by rw [← g3]; exact h1.2, _, β3, r3, h1.1, rfl, r1, r2⟩
     | exit i => exact ⟨B'', ρ'', _, β'', h1, rfl, h3, ha, hB⟩
     | ret => exact ⟨B'', ρ'', _, β'', h1, rfl, h3, ha, hB⟩
 | _ => intro S B ρ K h β a w hs; exact (show False from h).elim
end
end Go.Proofs.YtfhjlimdakphcaaGreat.Sx
set_option linter.unusedVariables false
set_option linter.unusedSimpArgs false
namespace Go.Proofs.YtfhjlimdakphcaaGreat.Sx
open Go Go.RowKit
theorem sem_bind_pure {α : Type} : ∀ x : Sem α, x.bind .pure = x := by
 intro x
 induction x <;> simp_all [Sem.bind]
 funext b; cases b <;> simp_all
theorem sem_bind_assoc {α β γ : Type} (f : α → Sem β) (g : β → Sem γ) : ∀ x : Sem α, (x.bind f).bind g = x.bind fun a => (f a).bind g := by
 intro x
 induction x <;> simp_all [Sem.bind]
 funext b; cases b <;> simp_all
theorem sem_lawful : LawfulMonad Sem := LawfulMonad.mk' Sem (fun x => sem_bind_pure x) (fun _ _ => rfl) (fun x f g => sem_bind_assoc f g x)
section
variable {Φ : Sig} {ρ : Env} {P : Program}
def resRun (a : Act) : ResultVar → Sem Value
 | .tmp t => pure (a.tmps.getD t undef)
 | .cell r t => do loadVar t (← asAddr (a.tmps.getD r undef))
theorem resW_ok {E : Ev} {β : Map} {a : Act} {w : World} {S : St} (hE : E = T.den Φ ρ) (ht : tmRep E β (look S.tm) a.tmps) (hm : memRep E β w (lookM S.me)) : ∀ (rs : List ResultVar) (ws : List W), (resW P S rs).val E = some ws → ∃ vs, (rs.mapM (resRun a)).run P w = .ok vs w ∧ repWs E β ws vs
 | [], ws, h => by
   simp only [resW, O.val] at h
   injection h with h
   subst h
   exact ⟨[], by simp [List.mapM_nil], trivial⟩
 | .tmp t :: rs, ws, h => by
   have := sem_lawful
   simp only [resW] at h
   split at h
   · rename_i x hx
     obtain ⟨r, h1, h2⟩ := O.bind_some h
     simp only [O.val] at h2
     injection h2 with h2
     subst h2
     obtain ⟨vs, g1, g2⟩ := resW_ok hE ht hm rs r h1
     obtain ⟨y, hy, hr⟩ := ht t _ hx (fun e => by cases e)
     refine ⟨y :: vs, ?_, hr, g2⟩
     have e : a.tmps.getD t undef = y := by rw [Array.getD_eq_getD_getElem?, hy]; rfl
     simp only [List.mapM_cons, resRun, e, Sem.run_bind, Sem.run_pure, Result.andThen_ok, g1]
   · cases h
 | .cell r t :: rs, ws, h => by
   have := sem_lawful
   simp only [resW] at h
   split at h
   · rename_i v hv
     obtain ⟨res, h1, h2⟩ := O.bind_some h
     split at h2
     · rename_i x hx
       obtain ⟨r', h3, h4⟩ := O.bind_some h2
       simp only [O.val] at h4
       injection h4 with h4
       subst h4
       obtain ⟨vs, g1, g2⟩ := resW_ok hE ht hm rs r' h3
       have hvu : v ≠ .u := fun e => by subst e; simp [opLoad, O.val] at h1
       obtain ⟨y, hy, hr⟩ := ht r v hv hvu
       subst hE
       obtain ⟨z, k1, k2, _⟩ := load_ok h1 hr (memRep_sub hm (fun j m h => look_fetch h))
       rw [hx] at k2
       refine ⟨z :: vs, ?_, k2, g2⟩
       have e : a.tmps.getD r undef = y := by rw [Array.getD_eq_getD_getElem?, hy]; rfl
       have hy' : ∃ ad, y = .pointer (some ad) := by
         unfold opLoad at h1
         split at h1
         · obtain ⟨pl, _, hq⟩ := hr; exact ⟨_, hq⟩
         · cases h1
       obtain ⟨ad, rfl⟩ := hy'
       simp only [Instr.loadAt, Instr.sureAddr, Sem.run_bind, Sem.run_pure, Result.andThen_ok] at k1
       simp only [List.mapM_cons, resRun, e, asAddr, Sem.run_bind, Sem.run_pure, Result.andThen_ok, k1, g1]
     · cases h2
   · cases h
theorem resV_ok {β : Map} {a : Act} {w : World} {S : St} {fn : Func} (ht : tmRep (T.den Φ ρ) β (look S.tm) a.tmps) (hm : memRep (T.den Φ ρ) β w (lookM S.me)) {v : V} (h : (resV P S fn.results.toList).val (T.den Φ ρ) = some v) :
   ∃ x, (results fn a.tmps).run P w = .ok x w ∧ v.rep (T.den Φ ρ) β x := by
 have := sem_lawful
 unfold resV at h
 obtain ⟨ws, h1, h2⟩ := O.bind_some h
 obtain ⟨vs, g1, g2⟩ := resW_ok rfl ht hm _ _ h1
 have hrun : (results fn a.tmps).run P w = .ok (if h : vs.toArray.size = 1 then vs.toArray[0] else .tuple vs.toArray) w := by
   have e : results fn a.tmps = fn.results.mapM (resRun a) >>= fun vs => pure (if h : vs.size = 1 then vs[0] else .tuple vs) := by
     unfold results
     congr 1
   rw [e, Array.mapM_eq_mapM_toList]
   simp only [Sem.run_bind, map_eq_pure_bind, g1, Result.andThen_ok, Sem.run_pure]
 split at h2
 · rename_i x
   simp only [O.val] at h2
   injection h2 with h2
   subst h2
   match vs, g2, hrun with
   | [y], g2, hrun => exact ⟨y, by simpa using hrun, g2.1⟩
 · rename_i hne
   simp only [O.val] at h2
   injection h2 with h2
   subst h2
   have hl : vs.length ≠ 1 := by
     intro e
     match vs, e, g2 with
     | [y], _, g2 =>
       match ws, hne, g2 with
       | [x], hne, _ => exact hne x rfl
       | [], _, g2 => exact g2
       | _ :: _ :: _, _, g2 => exact g2.2
   refine ⟨_, hrun, ?_⟩
   rw [dif_neg (by simpa using hl)]
   exact ⟨vs.toArray, rfl, by simpa using g2⟩
theorem repVs_length {E : Ev} {β : Map} : ∀ {vs : List V} {xs : List Value}, repVs E β vs xs → vs.length = xs.length
 | [], [], _ => rfl
 | [], _ :: _, h => h.elim
 | _ :: _, [], h => h.elim
 | _ :: vs, _ :: xs, h => by simp [repVs_length h.2]
theorem initTm_look {E : Ev} {β : Map} : ∀ {vs : List V} {xs : List Value} (i : Nat) {t : Nat} {v : V}, repVs E β vs xs → look (initTm vs i) t = some v → i ≤ t ∧ ∃ x, xs[t - i]? = some x ∧ v.rep E β x
 | [], _, _, _, _, _, h => by cases h
 | _ :: _, [], _, _, _, hr, _ => hr.elim
 | y0 :: vs, x :: xs, i, t, v, hr, h => by
   simp only [initTm, look] at h
   split at h
   · rename_i e
     have e := Nat.eq_of_beq_eq_true e
     subst e
     injection h with h
     subst h
     exact ⟨Nat.le_refl _, x, by simp, hr.1⟩
   · obtain ⟨h1, y, h2, h3⟩ := initTm_look (i + 1) hr.2 h
     refine ⟨by omega, y, ?_, h3⟩
     rw [show t - i = (t - (i + 1)) + 1 from by omega, List.getElem?_cons_succ]; exact h2
theorem someMe_look : ∀ (bs : Bs) (j : Nat), lookM (someMe bs) j = look bs j
 | [], j => rfl
 | (k, m) :: bs, j => by simp only [someMe, lookM, look, someMe_look bs j]
theorem someMe_len : ∀ bs : Bs, lenN (someMe bs) = lenN bs
 | [] => rfl
 | (k, m) :: bs => by simp [someMe, lenN, someMe_len bs]
structure Done (Φ : Sig) (bs : Bs) (nb : Nat) (β : Map) (w : World) (ρ' : Env) (S' : St) (β' : Map) (w' : World) : Prop where
 me : memRep (T.den Φ ρ') β' w' (lookM S'.me)
 heap : inHeap β' w'
 run : ∃ d, S'.me = d ++ someMe bs ∧ Run (someMe bs) β w nb d β' w'
 free : ∀ j, S'.nb ≤ j → β' j = none
 lo : nb ≤ S'.nb
theorem fun_sound {X : Ctx} (hX : CallOk X.P Φ X.call) {J : Inv} {A : Anns} {f : FuncId} {vs : List V} {bs : Bs} {nb nv : Nat} {fa : Facts} {B : BK} {K : BK → Env → V × St → Prop} (h : (evFun X A f vs bs nb nv fa).ok Φ J B ρ K) (hfa : fa.hold Φ ρ)
   {args : List Value} {β : Map} {w : World} (hargs : repVs (T.den Φ ρ) β vs args) (hb : inHeap β w) (hm : memRep (T.den Φ ρ) β w (look bs)) (hfree : ∀ j, nb ≤ j → β j = none) :
   Calls X.P f args.toArray w fun e w' => ∃ x v B' ρ' S' β', e = .returned x ∧ K B' ρ' (v, S') ∧ v.rep (T.den Φ ρ') β' x ∧ Done Φ bs nb β w ρ' S' β' w' ∧ ∀ i, i < nv → ρ' i = ρ i := by
 unfold evFun at h
 split at h
 · exact h.elim
 rename_i fn hfn
 split at h
 · exact h.elim
 rename_i c hc
 split at h
 case isFalse => exact h.elim
 rename_i hsz
 have hsz : vs.length ≤ fn.ntmps := by rw [← lenN_eq]; exact Nat.le_of_ble_eq_true hsz
 have hl := repVs_length hargs
 refine calls_of_wp hfn hc ?_
 have hm' : memRep (T.den Φ ρ) β w (lookM (someMe bs)) := memRep_ext hm (someMe_look bs)
 have hsim : Sim Φ ρ ⟨fn.ntmps, someMe bs, β, w, nb, []⟩ ⟨initTm vs 0, someMe bs, nb, nv, fa⟩ β { tmps := args.toArray ++ Array.replicate (fn.ntmps - args.toArray.size) undef, defers := [] } w := by
   refine ⟨⟨[], rfl, ?_, hm', hb, ?_, rfl, fun _ => rfl, Run.start _ _ _ _ hfree⟩, hfa, hfree, Nat.le_refl _⟩
   · intro t v hv _
     obtain ⟨_, x, hx, hr⟩ := initTm_look 0 hargs hv
     refine ⟨x, ?_, hr⟩
     rw [Nat.sub_zero] at hx
     rw [Array.getElem?_append_left (by have := (List.getElem?_eq_some_iff.1 hx).1; simpa using this)]
     simpa using hx
   · simp; omega
 refine wp_mono (code_sound hX c _ B ρ _ (M.ok_bind h) β _ w hsim) ?_
 rintro e a' w' ⟨B', ρ', ⟨ex, S'⟩, β', h1, h2, h3, h4, h5⟩
 obtain ⟨d, hd, hcur⟩ := h3.cur
 have fin : (∃ v, (resV X.P S' fn.results.toList).val (T.den Φ ρ') = some v ∧ K B' ρ' (v, S')) → a'.defers = [] ∧ ∃ x, (results fn a'.tmps).run X.P w' = .ok x w' ∧ ∃ x' v B'' ρ'' S'' β'', Ending.returned x = .returned x' ∧ K B'' ρ'' (v, S'') ∧ v.rep (T.den Φ ρ'') β'' x' ∧ Done Φ bs nb β w ρ'' S'' β'' w' ∧ ∀ i, i < nv → ρ'' i = ρ i := by
   rintro ⟨v, g1, g2⟩
   obtain ⟨x, k1, k2⟩ := resV_ok hcur.tm hcur.me g1
   exact ⟨hcur.defers, x, k1, x, v, B', ρ', S', β', rfl, g2, k2, ⟨hcur.me, hcur.heap, ⟨d, hd, hcur.run⟩, h3.free, h3.lo⟩, h4.rho⟩
 subst h2
 cases ex with
 | norm => exact fin (M.ok_lift (M.ok_bind h1))
 | exit i => exact (show False from h1).elim
 | ret => exact fin (M.ok_lift (M.ok_bind h1))
theorem firsts_look (old : Nat) : ∀ (l : List (Nat × Option MB)) (seen : List Nat) (j : Nat), j ∉ seen → lookM (firsts old l seen) j = lookM l j ∧ hasK (firsts old l seen) j = hasK l j
 | [], _, _, _ => ⟨rfl, rfl⟩
 | (k, m) :: l, seen, j, hj => by
   simp only [firsts]
   split
   · rename_i hs
     obtain ⟨h1, h2⟩ := firsts_look old l seen j hj
     have hne : k ≠ j := fun e => hj (by rw [← e]; exact hasN_mem.mp hs)
     have hb : Nat.beq k j = false := by
       cases h : Nat.beq k j with
       | false => rfl
       | true => exact absurd (Nat.eq_of_beq_eq_true h) hne
     rw [h1, h2]
     simp [lookM, hasK, hb]
   · simp only [lookM, hasK]
     by_cases e : Nat.beq k j = true
     · rw [if_pos e, if_pos e, e]; simp
     · have hne : j ∉ k :: seen := by
         intro hm
         rcases List.mem_cons.mp hm with h | h
         · exact e (by rw [h]; exact Nat.beq_refl _)
         · exact hj h
       obtain ⟨h1, h2⟩ := firsts_look old l (k :: seen) j hne
       rw [if_neg e, if_neg e, h1, h2]
       exact ⟨rfl, rfl⟩
theorem keepE_look (ns : List Nat) (nb hi : Nat) : ∀ (l : List (Nat × Option MB)) (j : Nat), (hasK (keepE ns nb hi l) j = true → hasK l j = true ∧ j < hi ∧ lookM (keepE ns nb hi l) j = lookM l j) ∧ (j < nb → j < hi → hasK (keepE ns nb hi l) j = hasK l j ∧ lookM (keepE ns nb hi l) j = lookM l j)
 | [], j => ⟨fun h => (by cases h), fun _ _ => ⟨rfl, rfl⟩⟩
 | (k, m) :: l, j => by
   obtain ⟨ih1, ih2⟩ := keepE_look ns nb hi l j
   simp only [keepE]
   by_cases hc : (Nat.ble nb k && !hasN ns k || Nat.ble hi k) = true
   · rw [if_pos hc]
     by_cases e : k = j
     · subst e
       have none : ∀ l : List (Nat × Option MB), hasK (keepE ns nb hi l) k = false := by
         intro l
         induction l with
         | nil => rfl
         | cons x l ih =>
           obtain ⟨k', m'⟩ := x
           simp only [keepE]
           split
           · exact ih
           · rename_i h'
             simp only [hasK, ih, Bool.or_false]
             cases hb : Nat.beq k' k with
             | false => rfl
             | true => rw [Nat.eq_of_beq_eq_true hb] at h'; exact absurd hc h'
       refine ⟨fun h => (by rw [none l] at h; cases h), fun h1 h2 => ?_⟩
       simp only [Bool.or_eq_true, Bool.and_eq_true] at hc
       rcases hc with ⟨h, _⟩ | h
       · have := Nat.le_of_ble_eq_true h; omega
       · have := Nat.le_of_ble_eq_true h; omega
     · have hb : Nat.beq k j = false := by
         cases h : Nat.beq k j with
         | false => rfl
         | true => exact absurd (Nat.eq_of_beq_eq_true h) e
       simp only [hasK, lookM, hb, Bool.false_or, Bool.false_eq_true, if_false]
       exact ⟨ih1, ih2⟩
   · rw [if_neg hc]
     simp only [hasK, lookM]
     by_cases e : Nat.beq k j = true
     · rw [if_pos e, if_pos e, e]
       refine ⟨fun _ => ⟨rfl, ?_, rfl⟩, fun _ _ => ⟨rfl, rfl⟩⟩
       simp only [Bool.or_eq_true, not_or] at hc
       have := hc.2
       rw [Nat.eq_of_beq_eq_true e] at this
       rcases Nat.lt_or_ge j hi with h | h
       · exact h
       · exact absurd (Nat.ble_eq.mpr h) this
     · rw [if_neg e, if_neg e]
       have e' : Nat.beq k j = false := by
         cases h : Nat.beq k j with
         | false => rfl
         | true => exact absurd h e
       rw [e', Bool.false_or, Bool.false_or]
       exact ⟨ih1, ih2⟩
theorem Done.step {bs : Bs} {nb : Nat} {β β' : Map} {w w' : World} {ρ' : Env} {S' : St} {v : V} (h : Done Φ bs nb β w ρ' S' β' w') (hfree : ∀ j, nb ≤ j → β j = none) : StepR (T.den Φ ρ') (look bs) β w nb (effOf v S' (lenN bs) nb) S'.nb β' w' := by
 obtain ⟨d, hd, hr⟩ := h.run
 have htake : takeN (lenN S'.me - lenN bs) S'.me = d := by rw [hd, ← someMe_len bs]; exact takeN_append d (someMe bs)
 have spec : ∀ j, (hasK (effOf v S' (lenN bs) nb) j = true → hasK d j = true ∧ j < S'.nb ∧ lookM (effOf v S' (lenN bs) nb) j = lookM d j) ∧ (j < nb → hasK (effOf v S' (lenN bs) nb) j = hasK d j ∧ lookM (effOf v S' (lenN bs) nb) j = lookM d j) := by
   intro j
   unfold effOf
   simp only [htake]
   obtain ⟨f1, f2⟩ := firsts_look nb d [] j (by simp)
   obtain ⟨k1, k2⟩ := keepE_look (onceN (namesBs (fetch (lookM S'.me) (onceN (namesBs (fetch (lookM S'.me) (onceN (v.nm ++ oldOf nb (firsts nb d [])) []))) (onceN (v.nm ++ oldOf nb (firsts nb d [])) [])))) (onceN (namesBs (fetch (lookM S'.me) (onceN (v.nm ++ oldOf nb (firsts nb d [])) []))) (onceN (v.nm ++ oldOf nb (firsts nb d [])) []))) nb S'.nb (firsts nb d []) j
   rw [f1, f2] at k1 k2
   exact ⟨k1, fun hj => k2 hj (Nat.lt_of_lt_of_le hj h.lo)⟩
 generalize effOf v S' (lenN bs) nb = eff at spec
 have hle : β.le β' := fun j pl hj => by
   rcases Nat.lt_or_ge j nb with hl | hl
   · rw [hr.old j hl]; exact hj
   · rw [hfree j hl] at hj; cases hj
 have live : ∀ j m, lookM eff j = some m → lookM S'.me j = some m := by
   intro j m hj
   have hk : hasK eff j = true := by
     cases h : hasK eff j with
     | true => rfl
     | false => rw [lookM_none h] at hj; cases hj
   obtain ⟨h1, _, h2⟩ := (spec j).1 hk
   rw [hd, lookM_append, if_pos h1, ← h2]; exact hj
 refine ⟨h.lo, hle, fun j hn => ?_, hr.os, hr.tape, hr.output, hr.size, fun b hb hk => ?_, fun j m hj => h.me.1 j m (live j m hj), fun j hj hn => ?_, fun j pl hn hj hs => ?_, fun j j' m m' pl pl' hne hn hn' hj hj' hrw hp hp' hs hs' => h.me.2 j j' m m' pl pl' hne (live j m hj) (live j' m' hj') hrw hp hp' hs hs'⟩
 · rcases Nat.lt_or_ge j nb with hl | hl
   · exact hr.old j hl
   · rw [hfree j hl, h.free j (by unfold isNew at hn; omega)]
 · refine hr.kept b hb (fun j pl hj hl hp hs => hk j pl ?_ (fun hn => by unfold isNew at hn; omega) hp hs)
   rw [((spec j).2 hl).1]; exact hj
 · obtain ⟨h1, h2, _⟩ := (spec j).1 hj
   have hl : j < nb := by unfold isNew at hn; omega
   obtain ⟨m, hm, hrw⟩ := hr.wr j h1 hl
   exact ⟨m, by rw [← someMe_look]; exact hm, hrw⟩
 · refine ⟨h.heap j pl hj hs, ?_⟩
   rcases hr.new j pl hn.1 hj hs with g | ⟨k, pk, g1, g2, g3, g4, g5, g6⟩
   · exact .inl g
   · obtain ⟨s1, s2⟩ := (spec k).2 g3
     exact .inr ⟨k, pk, by rw [s1]; exact g1, by rw [s2]; exact g2, fun hn => by unfold isNew at hn; omega, g4, g5, g6⟩
def ConOk (P : Program) (Φ : Sig) (f : FuncId) (c : Con) : Prop :=
 ∀ (ρ : Env) (fa : Facts), fa.hold Φ ρ → ∀ (vs : List V) (bs : Bs) (nb : Nat) (res : Res), (c fa vs bs nb).val (T.den Φ ρ) = some res → ∀ (args : List Value) (β : Map) (w : World), repVs (T.den Φ ρ) β vs args → inHeap β w → memRep (T.den Φ ρ) β w (look bs) →
   (∀ j, isNew nb res.nb j → β j = none) → Calls P f args.toArray w fun e w' => ∃ v β', e = .returned v ∧ res.val.rep (T.den Φ ρ) β' v ∧ StepR (T.den Φ ρ) (look bs) β w nb res.eff res.nb β' w'
theorem callOk_iff {call : Facts → FuncId → List V → Bs → Nat → O Res} (h : ∀ f, ConOk P Φ f (fun fa => call fa f)) : CallOk P Φ call :=
 fun ρ fa hfa f vs bs nb res hres args β w h1 h2 h3 h4 => h f ρ fa hfa vs bs nb res hres args β w h1 h2 h3 h4
theorem allLow_mem {nb : Nat} : ∀ {l : List Nat}, allLow nb l = true → ∀ j ∈ l, j < nb
 | k :: l, h, j, hj => by
   simp only [allLow, Bool.and_eq_true] at h
   rcases List.mem_cons.mp hj with e | hj
   · subst e; have := Nat.le_of_ble_eq_true h.1; omega
   · exact allLow_mem h.2 j hj
theorem keysLow_has {α : Type} {nb : Nat} : ∀ {l : List (Nat × α)}, keysLow nb l = true → ∀ {j : Nat} {x : α}, look l j = some x → j < nb
 | (k, y) :: l, h, j, x, hj => by
   simp only [keysLow, Bool.and_eq_true] at h
   simp only [look] at hj
   split at hj
   · rename_i e
     have := Nat.le_of_ble_eq_true h.1
     have := Nat.eq_of_beq_eq_true e
     omega
   · exact keysLow_has h.2 hj
theorem namesBs_mem : ∀ {bs : Bs} {j : Nat} {m : MB}, look bs j = some m → ∀ i ∈ m.k.nm, i ∈ namesBs bs
 | (k, x) :: bs, j, m, h, i, hi => by
   simp only [look] at h
   simp only [namesBs, List.mem_append]
   split at h
   · injection h with h; subst h; exact .inl hi
   · exact .inr (namesBs_mem h i hi)
theorem repVs_back {E : Ev} {β β' : Map} (hb : β'.le β) : ∀ {vs : List V} {xs : List Value}, known β' (namesVs vs) → repVs E β vs xs → repVs E β' vs xs
 | [], [], _, _ => trivial
 | [], _ :: _, _, h => h.elim
 | _ :: _, [], _, h => h.elim
 | v :: vs, x :: xs, hk, h => ⟨V.rep_back hb (fun j hj => hk j (by simp only [namesVs, List.mem_append]; exact .inl hj)) h.1, repVs_back hb (fun j hj => hk j (by simp only [namesVs, List.mem_append]; exact .inr hj)) h.2⟩
theorem repVs_known {E : Ev} {β : Map} : ∀ {vs : List V} {xs : List Value}, repVs E β vs xs → known β (namesVs vs)
 | [], [], _ => fun j hj => by simp [namesVs] at hj
 | [], _ :: _, h => h.elim
 | _ :: _, [], h => h.elim
 | v :: vs, x :: xs, h => fun j hj => by
   simp only [namesVs, List.mem_append] at hj
   exact hj.elim (V.rep_known h.1 j) (repVs_known h.2 j)
theorem StepR.widen {E : Ev} {bs : Nat → Option MB} {β βr β' : Map} {w w' : World} {nb nb' : Nat} {eff : List (Nat × Option MB)} (h : StepR E bs βr w nb eff nb' β' w') (hr : ∀ j, j < nb → βr j = β j) (hr' : ∀ j, nb ≤ j → βr j = none) (hfree : ∀ j, isNew nb nb' j → β j = none) :
   ∃ β'', β'.le β'' ∧ StepR E bs β w nb eff nb' β'' w' := by
 let β'' : Map := fun j => if nb ≤ j ∧ j < nb' then β' j else β j
 have bnew : ∀ j, isNew nb nb' j → β'' j = β' j := fun j hj => if_pos (c := nb ≤ j ∧ j < nb') hj
 have bold : ∀ j, ¬ isNew nb nb' j → β'' j = β j := fun j hj => if_neg (c := nb ≤ j ∧ j < nb') hj
 have hle : β'.le β'' := fun j pl hj => by
   by_cases hn : isNew nb nb' j
   · rw [bnew j hn]; exact hj
   · rw [h.old j hn] at hj
     rcases Nat.lt_or_ge j nb with hl | hl
     · rw [bold j hn, ← hr j hl]; exact hj
     · rw [hr' j hl] at hj; cases hj
 have hrle : βr.le β := fun j pl hj => by
   rcases Nat.lt_or_ge j nb with hl | hl
   · rw [← hr j hl]; exact hj
   · rw [hr' j hl] at hj; cases hj
 refine ⟨β'', hle, h.ge, fun j pl hj => ?_, bold, h.os, h.tape, h.output, h.size, fun b hb hk => ?_, fun j m hj => ?_, h.wr, fun j pl hn hj hs => ?_, fun j j' m m' pl pl' hne hn hn' hj hj' hrw hp hp' hs hs' => ?_⟩
 · by_cases hn : isNew nb nb' j
   · rw [hfree j hn] at hj; cases hj
   · rw [bold j hn]; exact hj
 · exact h.kept b hb (fun j pl hj hn hp hs => hk j pl hj hn (hrle j pl hp) hs)
 · obtain ⟨pl, h1, h2⟩ := h.mem j m hj
   exact ⟨pl, hle _ _ h1, Blk.rep_le hle h2.1, h2.2⟩
 · rw [bnew j hn] at hj
   obtain ⟨h1, h2⟩ := h.new j pl hn hj hs
   refine ⟨h1, h2.imp id ?_⟩
   rintro ⟨k, pk, g1, g2, g3, g4, g5, g6⟩
   exact ⟨k, pk, g1, g2, g3, hrle _ _ g4, g5, g6⟩
 · rw [bnew j hn] at hp
   rw [bnew j' hn'] at hp'
   exact h.excl j j' m m' pl pl' hne hn hn' hj hj' hrw hp hp' hs hs'
theorem callIn_ok {X : Ctx} (hX : CallOk X.P Φ X.call) (A : Anns) (f : FuncId) : ConOk X.P Φ f (fun fa => callIn X A fa f) := by
 intro ρ fa hfa vs bs nb res hres args β w hargs hb hm hfree
 simp only [callIn] at hres
 split at hres
 case isFalse => cases hres
 rename_i hck
 simp only [Bool.and_eq_true] at hck
 obtain ⟨c1, c2, c3⟩ := hck
 obtain ⟨⟨v, S'⟩, h1, h2⟩ := O.bind_some hres
 simp only [O.val] at h2
 injection h2 with h2
 subst h2
 let βr : Map := fun j => if j < nb then β j else none
 have r1 : ∀ j, j < nb → βr j = β j := fun j hj => by simp only [βr, if_pos hj]
 have r2 : ∀ j, nb ≤ j → βr j = none := fun j hj => by simp only [βr]; rw [if_neg (by omega)]
 have rle : βr.le β := fun j pl hj => by
   rcases Nat.lt_or_ge j nb with hl | hl
   · rw [← r1 j hl]; exact hj
   · rw [r2 j hl] at hj; cases hj
 have hk : ∀ ns : List Nat, (∀ j ∈ ns, j < nb) → known β ns → known βr ns := fun ns hl hk j hj => by rw [r1 j (hl j hj)]; exact hk j hj
 have hargs' : repVs (T.den Φ ρ) βr vs args := repVs_back rle (hk _ (allLow_mem c1) (repVs_known hargs)) hargs
 have hb' : inHeap βr w := fun j pl hj hs => hb j pl (rle j pl hj) hs
 have hm' : memRep (T.den Φ ρ) βr w (look bs) := by
   refine ⟨fun j m hj => ?_, fun j j' m m' pl pl' hne hj hj' hrw hp hp' hs hs' => hm.2 j j' m m' pl pl' hne hj hj' hrw (rle _ _ hp) (rle _ _ hp') hs hs'⟩
   obtain ⟨pl, g1, g2⟩ := hm.1 j m hj
   refine ⟨pl, by rw [r1 j (keysLow_has c2 hj)]; exact g1, Blk.rep_back rle (hk _ (fun i hi => allLow_mem c3 i (namesBs_mem hj i hi)) (Blk.rep_known g2.1)) g2.1, g2.2⟩
 refine Calls.mono (fun_sound (J := ⟨fun _ _ _ => False, fun _ _ _ => 0⟩) hX (B := fun _ _ => False) (M.ok_toO h1) hfa hargs' hb' hm' r2) ?_
 rintro e w' ⟨x, v', B', ρ', S2, β', rfl, ⟨rfl, e2⟩, hv, hdone, _⟩
 injection e2 with e2 e3
 subst e2 e3
 obtain ⟨β'', g1, g2⟩ := (hdone.step (v := v') r2).widen r1 r2 hfree
 exact ⟨x, β'', rfl, V.rep_le g1 hv, g2⟩
def ConsOk (P : Program) (Φ : Sig) (cons : List (Nat × Con)) : Prop := ∀ f c, findCon cons f = some c → ConOk P Φ f c
theorem ctxN_P {P : Program} {A : Anns} {cons : List (Nat × Con)} : ∀ n, (ctxN P A cons n).P = P
 | 0 => rfl
 | _ + 1 => rfl
theorem ctxN_ok {A : Anns} {cons : List (Nat × Con)} (h : ConsOk P Φ cons) : ∀ n, CallOk P Φ (ctxN P A cons n).call
 | 0 => callOk_iff fun f => by
   intro ρ fa hfa vs bs nb res hres
   simp only [ctxN] at hres
   split at hres
   · rename_i c hc; exact h f c hc ρ fa hfa vs bs nb res hres
   · cases hres
 | n + 1 => callOk_iff fun f => by
   intro ρ fa hfa vs bs nb res hres
   simp only [ctxN] at hres
   split at hres
   · rename_i c hc; exact h f c hc ρ fa hfa vs bs nb res hres
   · have hX : CallOk (ctxN P A cons n).P Φ (ctxN P A cons n).call := by rw [ctxN_P]; exact ctxN_ok h n
     have := callIn_ok hX A f
     rw [ctxN_P] at this
     exact this ρ fa hfa vs bs nb res hres
end
end Go.Proofs.YtfhjlimdakphcaaGreat.Sx
set_option linter.unusedVariables false
set_option linter.unusedSimpArgs false
namespace Go.Proofs.YtfhjlimdakphcaaGreat.Sx
open Go Go.RowKit
structure Tmpl where
 vs : List V
 bs : Bs
 n : Nat
 res : O Res
structure Rn where
 b : Nat
 σ : List T
 π : List (Option Nat)
 m : Nat
 nb : Nat
def Rn.nm (s : Rn) (j : Nat) : Option Nat := if Nat.ble s.m j then some (s.nb + (j - s.m)) else match nthO s.π j with
 | some x => x
 | none => none
def Rn.t (s : Rn) (k : K3) (t : T) : T := (t.sub s.b s.σ).tidy k
def rnC (s : Rn) : C → Option C
 | .i k t => some (.i k (s.t .i t))
 | .b t => some (.b (s.t .b t))
 | .p j e st r => (s.nm j).map fun j' => .p j' (s.t .i e) st r
 | .s j st r o l => (s.nm j).map fun j' => .s j' st r (s.t .i o) (s.t .i l)
 | c => some c
def rnL (s : Rn) : List C → Option (List C)
 | [] => some []
 | c :: cs => match rnC s c, rnL s cs with
   | some x, some xs => some (x :: xs)
   | _, _ => none
def rnW (s : Rn) : W → Option W
 | .c x => (rnC s x).map .c
 | .g xs => (rnL s xs).map .g
def rnWs (s : Rn) : List W → Option (List W)
 | [] => some []
 | c :: cs => match rnW s c, rnWs s cs with
   | some x, some xs => some (x :: xs)
   | _, _ => none
def rnV (s : Rn) : V → Option V
 | .w x => (rnW s x).map .w
 | .t xs => (rnWs s xs).map .t
 | .u => some .u
def rnB (s : Rn) : Blk → Option Blk
 | .cells xs => (rnL s xs).map .cells
 | .row ks l => some (.row ks (s.t .l l))
 | .mix ks l => some (.mix ks (s.t .l l))
def rnE (s : Rn) : List (Nat × Option MB) → Option (List (Nat × Option MB))
 | [] => some []
 | (j, none) :: l => match s.nm j, rnE s l with
   | some j', some r => if hasK r j' then none else some ((j', none) :: r)
   | _, _ => none
 | (j, some m) :: l => match s.nm j, rnB s m.k, rnE s l with
   | some j', some k, some r => if hasK r j' then none else some ((j', some ⟨m.rw, k⟩) :: r)
   | _, _, _ => none
def rnR (s : Rn) : O Res → O Res
 | .ret r => match rnV s r.val, rnE s r.eff with
   | some v, some e => if Nat.ble s.m r.nb then .ret ⟨v, e, s.nb + (r.nb - s.m)⟩ else .fail 263
   | _, _ => .fail 260
 | .split t x y => splT (s.t .b t) (rnR s x) (rnR s y)
 | .chk t x => chkT (s.t .b t) (rnR s x)
 | .fail n => .fail n
def mtVs (m : Mt) : List V → List V → Mt
 | p :: ps, x :: xs => mtVs (mtV m p x) ps xs
 | _, _ => m
def mtBs (m : Mt) (bs : Bs) : Bs → Mt
 | [] => m
 | (j, p) :: l => match look m.π j with
   | some (some j') => match look bs j' with
     | some x => mtBs (mtB m p.k x.k) bs l
     | none => mtBs m bs l
   | some none => (match p.k with
     | .row _ t => mtBs (m.bindT t .nil) bs l
     | _ => mtBs m bs l)
   | none => mtBs m bs l
def okVs (s : Sb) : List V → List V → Bool
 | [], [] => true
 | p :: ps, x :: xs => okV s p x && okVs s ps xs
 | _, _ => false
def twice (π : List (Option Nat)) (j : Nat) (i : Nat) : Bs → Bool
 | [] => false
 | (k, m) :: l => (!Nat.beq k i && (match nthO π k with
   | some (some j') => Nat.beq j j'
   | _ => false)) || twice π j i l
def okBs (s : Sb) (bs all : Bs) : Bs → Bool
 | [] => true
 | (i, m) :: l => (match nthO s.π i with
   | some (some j) => (match look bs j with
     | some x => okM s m x
     | none => false) && (!m.rw || !twice s.π j i all)
   | some none => okPh s m.k
   | none => false) && okBs s bs all l
def Tmpl.con0 (t : Tmpl) : Con := fun fa vs bs nb =>
 let m := lenN t.bs
 let mt := mtBs (mtVs ⟨0, 0, [], []⟩ t.vs vs) bs t.bs
 let σ := finT mt 0 t.n
 let π := finN mt 0 m
 let s : Sb := ⟨0, σ, 0, π⟩
 if okVs s t.vs vs && (okBs s bs t.bs t.bs && (keysLow m t.bs && Nat.ble m (lenN π))) then rnR ⟨0, σ, π, m, nb⟩ t.res else .fail 261
def TmplOk (P : Program) (Φ : Sig) (f : FuncId) (t : Tmpl) : Prop :=
 ∀ (ρ : Env) (res : Res), t.res.val (T.den Φ ρ) = some res → ∀ (args : List Value) (β : Map) (w : World), repVs (T.den Φ ρ) β t.vs args → inHeap β w → memRep (T.den Φ ρ) β w (look t.bs) → (∀ j, lenN t.bs ≤ j → β j = none) →
   Calls P f args.toArray w fun e w' => ∃ v β', e = .returned v ∧ res.val.rep (T.den Φ ρ) β' v ∧ StepR (T.den Φ ρ) (look t.bs) β w (lenN t.bs) res.eff res.nb β' w'
section
variable {Φ : Sig} {ρ : Env} {P : Program}
abbrev Rn.env (s : Rn) (Φ : Sig) (ρ : Env) : Env := upd ρ s.b (s.σ.map (T.den Φ ρ))
theorem rn_i (s : Rn) (t : T) : ((s.t .i t).den Φ ρ).int = (t.den Φ (s.env Φ ρ)).int := by rw [Rn.t, tidy_i, sub_den]
theorem rn_b (s : Rn) (t : T) : ((s.t .b t).den Φ ρ).bool = (t.den Φ (s.env Φ ρ)).bool := by rw [Rn.t, tidy_b, sub_den]
theorem rn_l (s : Rn) (t : T) : ((s.t .l t).den Φ ρ).list = (t.den Φ (s.env Φ ρ)).list := by rw [Rn.t, tidy_l, sub_den]
theorem rnR_some {s : Rn} {res : Res} : ∀ {o : O Res}, (rnR s o).val (T.den Φ ρ) = some res → ∃ r, o.val (T.den Φ (s.env Φ ρ)) = some r ∧ rnV s r.val = some res.val ∧ rnE s r.eff = some res.eff ∧ res.nb = s.nb + (r.nb - s.m) ∧ s.m ≤ r.nb
 | .ret r, h => by
   simp only [rnR] at h
   split at h
   · rename_i v e hv he
     split at h
     · rename_i hm
       simp only [O.val] at h
       injection h with h
       subst h
       exact ⟨r, rfl, hv, he, rfl, Nat.le_of_ble_eq_true hm⟩
     · cases h
   · cases h
 | .split t x y, h => by
   simp only [rnR] at h
   rw [splT_val hEb, rn_b] at h
   simp only [O.val]
   split at h
   · rename_i hc; rw [if_pos hc]; exact rnR_some h
   · rename_i hc; rw [if_neg hc]; exact rnR_some h
 | .chk t x, h => by
   simp only [rnR] at h
   obtain ⟨h1, h2⟩ := chkT_some hEb h
   rw [rn_b] at h1
   simp only [O.val]
   rw [if_pos h1]; exact rnR_some h2
 | .fail _, h => by cases h
structure Goes (s : Rn) (βg β : Map) : Prop where
 at_ : ∀ j j' pl, s.nm j = some j' → βg j = some pl → β j' = some pl
section
variable {s : Rn} {βg β : Map}
theorem rnC_rep (hg : Goes s βg β) {c x : C} {v : Value} (h : rnC s c = some x) (hr : c.rep (T.den Φ (s.env Φ ρ)) βg v) : x.rep (T.den Φ ρ) β v := by
 cases c <;> simp only [rnC, Option.some.injEq, Option.map_eq_some_iff] at h <;> simp only [C.rep] at hr
 case i k t => subst h; simp only [C.rep, rn_i]; exact hr
 case b t => subst h; simp only [C.rep, rn_b]; exact hr
 case p j e st r =>
   obtain ⟨j', hj, rfl⟩ := h
   obtain ⟨pl, hp, hv⟩ := hr
   simp only [C.rep, rn_i]
   exact ⟨pl, hg.at_ _ _ _ hj hp, hv⟩
 case s j st r o l =>
   obtain ⟨j', hj, rfl⟩ := h
   obtain ⟨pl, hp, hv⟩ := hr
   simp only [C.rep, rn_i]
   exact ⟨pl, hg.at_ _ _ _ hj hp, hv⟩
 all_goals (subst h; exact hr)
theorem rnL_rep (hg : Goes s βg β) : ∀ {cs xs : List C} {vs : List Value}, rnL s cs = some xs → repL (T.den Φ (s.env Φ ρ)) βg cs vs → repL (T.den Φ ρ) β xs vs
 | [], xs, [], h, _ => by simp only [rnL, Option.some.injEq] at h; subst h; trivial
 | [], _, _ :: _, _, hr => hr.elim
 | _ :: _, _, [], _, hr => hr.elim
 | c :: cs, xs, v :: vs, h, hr => by
   simp only [rnL] at h
   split at h
   · rename_i y ys h1 h2
     injection h with h
     subst h
     exact ⟨rnC_rep hg h1 hr.1, rnL_rep hg h2 hr.2⟩
   · cases h
theorem rnW_rep (hg : Goes s βg β) {c x : W} {v : Value} (h : rnW s c = some x) (hr : c.rep (T.den Φ (s.env Φ ρ)) βg v) : x.rep (T.den Φ ρ) β v := by
 cases c with
 | c c =>
   simp only [rnW, Option.map_eq_some_iff] at h
   obtain ⟨y, hy, rfl⟩ := h
   exact rnC_rep hg hy hr
 | g cs =>
   simp only [rnW, Option.map_eq_some_iff] at h
   obtain ⟨y, hy, rfl⟩ := h
   obtain ⟨a, rfl, hr⟩ := hr
   exact ⟨a, rfl, rnL_rep hg hy hr⟩
theorem rnWs_rep (hg : Goes s βg β) : ∀ {cs xs : List W} {vs : List Value}, rnWs s cs = some xs → repWs (T.den Φ (s.env Φ ρ)) βg cs vs → repWs (T.den Φ ρ) β xs vs
 | [], xs, [], h, _ => by simp only [rnWs, Option.some.injEq] at h; subst h; trivial
 | [], _, _ :: _, _, hr => hr.elim
 | _ :: _, _, [], _, hr => hr.elim
 | c :: cs, xs, v :: vs, h, hr => by
   simp only [rnWs] at h
   split at h
   · rename_i y ys h1 h2
     injection h with h
     subst h
     exact ⟨rnW_rep hg h1 hr.1, rnWs_rep hg h2 hr.2⟩
   · cases h
theorem rnV_rep (hg : Goes s βg β) {c x : V} {v : Value} (h : rnV s c = some x) (hr : c.rep (T.den Φ (s.env Φ ρ)) βg v) : x.rep (T.den Φ ρ) β v := by
 cases c with
 | w c =>
   simp only [rnV, Option.map_eq_some_iff] at h
   obtain ⟨y, hy, rfl⟩ := h
   exact rnW_rep hg hy hr
 | t cs =>
   simp only [rnV, Option.map_eq_some_iff] at h
   obtain ⟨y, hy, rfl⟩ := h
   obtain ⟨a, rfl, hr⟩ := hr
   exact ⟨a, rfl, rnWs_rep hg hy hr⟩
 | u => simp only [rnV, Option.some.injEq] at h; subst h; trivial
theorem rnL_get : ∀ {cs xs : List C}, rnL s cs = some xs → cs.length = xs.length ∧ ∀ (i : Nat) (x : C), xs[i]? = some x → ∃ c, cs[i]? = some c ∧ rnC s c = some x
 | [], xs, h => by simp only [rnL, Option.some.injEq] at h; subst h; exact ⟨rfl, fun i x h => by simp at h⟩
 | c :: cs, xs, h => by
   simp only [rnL] at h
   split at h
   · rename_i y ys h1 h2
     injection h with h
     subst h
     obtain ⟨g1, g2⟩ := rnL_get h2
     refine ⟨by simp [g1], fun i x hx => ?_⟩
     cases i with
     | zero => simp only [List.getElem?_cons_zero, Option.some.injEq] at hx; subst hx; exact ⟨c, rfl, h1⟩
     | succ i => simp only [List.getElem?_cons_succ] at hx ⊢; exact g2 i x hx
   · cases h
theorem rnB_rep (hg : Goes s βg β) {k x : Blk} {w : World} {pl : Place} (h : rnB s k = some x) (hr : k.rep (T.den Φ (s.env Φ ρ)) βg w pl) : x.rep (T.den Φ ρ) β w pl := by
 cases k with
 | cells cs =>
   simp only [rnB, Option.map_eq_some_iff] at h
   obtain ⟨y, hy, rfl⟩ := h
   obtain ⟨g1, g2⟩ := rnL_get hy
   refine ⟨by rw [← g1]; exact hr.1, fun i x hx => ?_⟩
   obtain ⟨c, hc, hrc⟩ := g2 i x hx
   obtain ⟨v, hv, hrv⟩ := hr.2 i c hc
   exact ⟨v, hv, rnC_rep hg hrc hrv⟩
 | row ks l =>
   simp only [rnB, Option.some.injEq] at h
   subst h
   simp only [Blk.rep, rn_l]; exact hr
 | mix ks l =>
   simp only [rnB, Option.some.injEq] at h
   subst h
   simp only [Blk.rep, rn_l]; exact hr
end
theorem rnE_spec {s : Rn} : ∀ {e r : List (Nat × Option MB)}, rnE s e = some r → (∀ j, hasK e j = true → ∃ j', s.nm j = some j' ∧ hasK r j' = true) ∧
   (∀ j', hasK r j' = true → ∃ j, s.nm j = some j' ∧ hasK e j = true ∧ (lookM r j' = none ↔ lookM e j = none) ∧ ∀ m', lookM r j' = some m' → ∃ m, lookM e j = some m ∧ m'.rw = m.rw ∧ rnB s m.k = some m'.k) ∧
   (∀ j j', hasK e j = true → s.nm j = some j' → (lookM r j' = none ↔ lookM e j = none) ∧ ∀ m', lookM r j' = some m' → ∃ m, lookM e j = some m ∧ m'.rw = m.rw ∧ rnB s m.k = some m'.k)
 | [], r, h => by
   simp only [rnE, Option.some.injEq] at h
   subst h
   exact ⟨fun j hj => (by cases hj), fun j hj => (by cases hj), fun j j' hj => (by cases hj)⟩
 | (k, o) :: e, r, h => by
   have main : ∃ k' o' r', s.nm k = some k' ∧ rnE s e = some r' ∧ hasK r' k' = false ∧ r = (k', o') :: r' ∧ (o' = none ↔ o = none) ∧ (∀ m', o' = some m' → ∃ m, o = some m ∧ m'.rw = m.rw ∧ rnB s m.k = some m'.k) := by
     cases o with
     | none =>
       simp only [rnE] at h
       split at h
       · rename_i j' r' h1 h2
         split at h
         · cases h
         · rename_i h3
           injection h with h
           exact ⟨j', none, r', h1, h2, by simpa using h3, h.symm, Iff.rfl, fun m' h => (by cases h)⟩
       · cases h
     | some m =>
       simp only [rnE] at h
       split at h
       · rename_i j' k' r' h1 h2 h3
         split at h
         · cases h
         · rename_i h4
           injection h with h
           refine ⟨j', some ⟨m.rw, k'⟩, r', h1, h3, by simpa using h4, h.symm, ⟨fun h => (by cases h), fun h => (by cases h)⟩, fun m' h => ?_⟩
           injection h with h
           subst h
           exact ⟨m, rfl, rfl, h2⟩
       · cases h
   obtain ⟨k', o', r', h1, h2, h3, rfl, h4, h5⟩ := main
   obtain ⟨g1, g2, g3⟩ := rnE_spec h2
   have bk : ∀ {a b : Nat}, a ≠ b → Nat.beq a b = false := fun {a b} hab => by
     cases h : Nat.beq a b with
     | false => rfl
     | true => exact absurd (Nat.eq_of_beq_eq_true h) hab
   have third : ∀ j j', hasK ((k, o) :: e) j = true → s.nm j = some j' → (lookM ((k', o') :: r') j' = none ↔ lookM ((k, o) :: e) j = none) ∧ ∀ m', lookM ((k', o') :: r') j' = some m' → ∃ m, lookM ((k, o) :: e) j = some m ∧ m'.rw = m.rw ∧ rnB s m.k = some m'.k := by
     intro j j' hj hn
     by_cases e1 : k = j
     · subst e1
       rw [h1] at hn
       injection hn with hn
       subst hn
       simp only [lookM, Nat.beq_refl, if_true]
       exact ⟨h4, h5⟩
     · simp only [hasK, bk e1, Bool.false_or] at hj
       obtain ⟨j2, q1, q2⟩ := g1 j hj
       rw [hn] at q1
       injection q1 with q1
       subst q1
       have e2 : k' ≠ j' := fun e => by rw [e, q2] at h3; cases h3
       simp only [lookM, bk e1, bk e2, Bool.false_eq_true, if_false]
       exact g3 j j' hj hn
   refine ⟨fun j hj => ?_, fun j' hj' => ?_, third⟩
   · by_cases e1 : k = j
     · subst e1; exact ⟨k', h1, by simp [hasK]⟩
     · simp only [hasK, bk e1, Bool.false_or] at hj
       obtain ⟨j2, q1, q2⟩ := g1 j hj
       exact ⟨j2, q1, by simp [hasK, q2]⟩
   · by_cases e1 : k' = j'
     · subst e1
       have hk : hasK ((k, o) :: e) k = true := by simp [hasK]
       exact ⟨k, h1, hk, third k k' hk h1⟩
     · simp only [hasK, bk e1, Bool.false_or] at hj'
       obtain ⟨j, q1, q2, _⟩ := g2 j' hj'
       have hk : hasK ((k, o) :: e) j = true := by simp [hasK, q2]
       exact ⟨j, q1, hk, third j j' hk q1⟩
theorem okVs_rep {s : Sb} {β1 β2 : Map} (hf : Fits s β1 β2) : ∀ {ps xs : List V} {vs : List Value}, okVs s ps xs = true → repVs (T.den Φ ρ) β1 xs vs → repVs (T.den Φ (s.env Φ ρ)) β2 ps vs
 | [], [], [], _, _ => trivial
 | [], [], _ :: _, _, h => h.elim
 | [], _ :: _, _, h, _ => by simp [okVs] at h
 | _ :: _, [], _, h, _ => by simp [okVs] at h
 | _ :: _, _ :: _, [], _, h => h.elim
 | p :: ps, x :: xs, v :: vs, h, hr => by
   simp only [okVs, Bool.and_eq_true] at h
   exact ⟨okV_rep hf h.1 hr.1, okVs_rep hf h.2 hr.2⟩
theorem twice_false {π : List (Option Nat)} {j i : Nat} : ∀ {all : Bs}, twice π j i all = false → ∀ k m, look all k = some m → k ≠ i → nthO π k ≠ some (some j)
 | (k0, m0) :: all, h, k, m, hk, hne => by
   simp only [twice, Bool.or_eq_false_iff, Bool.and_eq_false_iff] at h
   simp only [look] at hk
   split at hk
   · rename_i e
     have e := Nat.eq_of_beq_eq_true e
     subst e
     intro hπ
     rw [hπ] at h
     rcases h.1 with h | h
     · simp only [Bool.not_eq_false'] at h
       exact hne (Nat.eq_of_beq_eq_true h)
     · simp at h
   · exact twice_false h.2 k m hk hne
theorem okBs_mem {s : Sb} {bs all : Bs} : ∀ {l : Bs}, okBs s bs all l = true → ∀ {i : Nat} {m : MB}, look l i = some m → (∃ j x, nthO s.π i = some (some j) ∧ look bs j = some x ∧ okM s m x = true ∧ (m.rw = true → twice s.π j i all = false)) ∨ (nthO s.π i = some none ∧ okPh s m.k = true)
 | (k, m0) :: l, h, i, m, hi => by
   simp only [okBs, Bool.and_eq_true] at h
   simp only [look] at hi
   split at hi
   · rename_i e
     have e := Nat.eq_of_beq_eq_true e
     subst e
     injection hi with hi
     subst hi
     obtain ⟨h1, _⟩ := h
     split at h1
     · rename_i j hj
       left
       simp only [Bool.and_eq_true, Bool.or_eq_true, Bool.not_eq_true'] at h1
       obtain ⟨h1, h2⟩ := h1
       split at h1
       · rename_i x hx
         exact ⟨j, x, hj, hx, h1, fun hr => by rcases h2 with h2 | h2; · rw [hr] at h2; cases h2
                                               · exact h2⟩
       · cases h1
     · rename_i hj
       exact .inr ⟨hj, h1⟩
     · cases h1
   · exact okBs_mem h.2 hi
theorem con0_ok {f : FuncId} {t : Tmpl} (ht : TmplOk P Φ f t) : ConOk P Φ f t.con0 := by
 intro ρ fa hfa vs bs nb res hres args β w hargs hb hm hfree
 unfold Tmpl.con0 at hres
 simp only at hres
 generalize hmm : mtBs (mtVs ⟨0, 0, [], []⟩ t.vs vs) bs t.bs = mt at hres
 generalize hσ : finT mt 0 t.n = σ at hres
 generalize hπ : finN mt 0 (lenN t.bs) = π at hres
 split at hres
 case isFalse => cases hres
 rename_i hck
 simp only [Bool.and_eq_true] at hck
 obtain ⟨c1, c2, c3, c4⟩ := hck
 have hπl : π.length = lenN t.bs := by
   rw [← hπ]
   have : ∀ (n j : Nat), (finN mt j n).length = n := by
     intro n
     induction n with
     | zero => intro j; rfl
     | succ n ih => intro j; simp [finN, ih]
   exact this _ _
 obtain ⟨r, hr, hv, he, hnb, hmle⟩ := rnR_some hres
 have hmle : lenN t.bs ≤ r.nb := hmle
 have hnb : res.nb = nb + (r.nb - lenN t.bs) := hnb
 let βg : Map := fun j => match nthO π j with
   | some (some j') => β j'
   | some none => some ⟨0, 0, 0⟩
   | none => none
 have g1 : ∀ j j', nthO π j = some (some j') → βg j = β j' := fun j j' h => by simp only [βg, h]
 have g2 : ∀ j, nthO π j = some none → βg j = some ⟨0, 0, 0⟩ := fun j h => by simp only [βg, h]
 have g3 : ∀ j, lenN t.bs ≤ j → βg j = none := fun j h => by simp only [βg, nthO_get]; rw [List.getElem?_eq_none (by omega)]
 have fits : Fits ⟨0, σ, 0, π⟩ β βg := by
   refine ⟨fun j j' pl hj hp => ?_, fun j hj => ?_⟩
   · have hj : nthO π (j - 0) = some (some j') := by simpa [nmOf] using hj
     rw [g1 j j' hj]; exact hp
   · have hj : nthO π (j - 0) = some none := by simpa [nmOf] using hj
     exact g2 j hj
 have hargs' := okVs_rep fits c1 hargs
 have hb' : inHeap βg w := by
   intro j pl hj hs
   simp only [βg] at hj
   split at hj
   · exact hb _ pl hj hs
   · injection hj with hj; subst hj; exact absurd rfl hs
   · cases hj
 have hm' : memRep (T.den Φ (upd ρ 0 (σ.map (T.den Φ ρ)))) βg w (look t.bs) := by
   refine ⟨fun i m hi => ?_, fun i k m m' pl pl' hne hi hk hrw hp hp' hs hs' => ?_⟩
   · rcases okBs_mem c2 hi with ⟨j, x, e1, e2, e3, _⟩ | ⟨e1, e2⟩
     · obtain ⟨pl, hp, hrx⟩ := hm.1 j x e2
       exact ⟨pl, by rw [g1 i j e1]; exact hp, (okM_rep fits e3 hrx).1⟩
     · exact ⟨_, g2 i e1, okPh_rep (s := ⟨0, σ, 0, π⟩) e2, fun _ => .inl rfl⟩
   · rcases okBs_mem c2 hi with ⟨j, x, e1, e2, e3, e4⟩ | ⟨e1, e2⟩
     · rcases okBs_mem c2 hk with ⟨j', x', f1, f2, f3, f4⟩ | ⟨f1, f2⟩
       · rw [g1 i j e1] at hp
         rw [g1 k j' f1] at hp'
         have hjj : j ≠ j' := fun e => by
           subst e
           exact twice_false (e4 hrw) k m' hk hne.symm f1
         obtain ⟨pl2, hp2, hrx⟩ := hm.1 j x e2
         exact hm.2 j j' x x' pl pl' hjj e2 f2 ((okM_rep fits e3 hrx).2 hrw) hp hp' hs hs'
       · rw [g2 k f1] at hp'; injection hp' with hp'; subst hp'; exact absurd rfl hs'
     · rw [g2 i e1] at hp; injection hp with hp; subst hp; exact absurd rfl hs
 refine Calls.mono (ht _ r hr args βg w hargs' hb' hm' g3) ?_
 rintro e w' ⟨x, β', rfl, hx, st⟩
 let β2 : Map := fun j => if nb ≤ j ∧ j < nb + (r.nb - lenN t.bs) then β' (lenN t.bs + (j - nb)) else β j
 have bnew : ∀ j, isNew nb res.nb j → β2 j = β' (lenN t.bs + (j - nb)) := fun j hj => if_pos (c := nb ≤ j ∧ j < nb + (r.nb - lenN t.bs)) (by unfold isNew at hj; omega)
 have bold : ∀ j, ¬ isNew nb res.nb j → β2 j = β j := fun j hj => if_neg (c := nb ≤ j ∧ j < nb + (r.nb - lenN t.bs)) (by unfold isNew at hj; omega)
 have b2le : β.le β2 := fun j pl hj => by
   rw [bold j (fun hn => by rw [hfree j hn] at hj; cases hj)]; exact hj
 have nmLo : ∀ j j', j < lenN t.bs → Rn.nm ⟨0, σ, π, lenN t.bs, nb⟩ j = some j' → nthO π j = some (some j') := by
   intro j j' hj hn
   simp only [Rn.nm] at hn
   rw [if_neg (by intro h; have := Nat.le_of_ble_eq_true h; omega)] at hn
   split at hn
   · rename_i x hx; rw [hx, hn]
   · cases hn
 have nmHi : ∀ j, lenN t.bs ≤ j → Rn.nm ⟨0, σ, π, lenN t.bs, nb⟩ j = some (nb + (j - lenN t.bs)) := by
   intro j hj
   simp only [Rn.nm]
   rw [if_pos (Nat.ble_eq.mpr hj)]
 have notNew : ∀ j, j < lenN t.bs → ¬ isNew (lenN t.bs) r.nb j := fun j hj hn => by unfold isNew at hn; omega
 have goes : Goes ⟨0, σ, π, lenN t.bs, nb⟩ β' β2 := by
   refine ⟨fun j j' pl hn hp => ?_⟩
   rcases Nat.lt_or_ge j (lenN t.bs) with hl | hl
   · have h1 := nmLo j j' hl hn
     rw [st.old j (notNew j hl), g1 j j' h1] at hp
     exact b2le _ _ hp
   · rw [nmHi j hl] at hn
     injection hn with hn
     subst hn
     have hlt : j < r.nb := by
       rcases Nat.lt_or_ge j r.nb with h | h
       · exact h
       · rw [st.old j (fun hn => by unfold isNew at hn; omega), g3 j hl] at hp; cases hp
     rw [bnew _ (by unfold isNew; omega), show lenN t.bs + (nb + (j - lenN t.bs) - nb) = j from by omega]
     exact hp
 obtain ⟨s1, s2, s3⟩ := rnE_spec he
 have lowKey : ∀ i m, look t.bs i = some m → i < lenN t.bs := fun i m h => keysLow_has c3 h
 have oldKey : ∀ j, hasK r.eff j = true → ¬ isNew (lenN t.bs) r.nb j → j < lenN t.bs := fun j hj hn => by
   obtain ⟨m, hm, _⟩ := st.wr j hj hn
   exact lowKey j m hm
 refine ⟨x, β2, rfl, rnV_rep goes hv hx, ?_⟩
 refine ⟨by omega, b2le, bold, st.os, st.tape, st.output, st.size, fun b hbs hk => ?_, fun j m hj => ?_, fun j hj hn => ?_, fun j pl hn hj hs => ?_, fun j k m m' pl pl' hne hn hn' hj hk hrw hp hp' hs hs' => ?_⟩
 · refine st.kept b hbs (fun j pl hj hn hp hs => ?_)
   have hl := oldKey j hj hn
   obtain ⟨j', q1, q2⟩ := s1 j hj
   have h1 := nmLo j j' hl q1
   rw [g1 j j' h1] at hp
   exact hk j' pl q2 (fun hn => by rw [hfree j' hn] at hp; cases hp) hp hs
 · have hk : hasK res.eff j = true := by
     cases h : hasK res.eff j with
     | true => rfl
     | false => rw [lookM_none h] at hj; cases hj
   obtain ⟨i, q1, q2, _, q3⟩ := s2 j hk
   obtain ⟨mg, hmg, hrw, hbk⟩ := q3 m hj
   obtain ⟨pl, hp, hrp⟩ := st.mem i mg hmg
   exact ⟨pl, goes.at_ _ _ _ q1 hp, rnB_rep goes hbk hrp.1, fun h => hrp.2 (by rw [← hrw]; exact h)⟩
 · obtain ⟨i, q1, q2, _⟩ := s2 j hj
   have hni : ¬ isNew (lenN t.bs) r.nb i := fun hi => by
     rw [nmHi i hi.1] at q1
     injection q1 with q1
     refine hn ?_
     unfold isNew at hi ⊢
     omega
   have hl := oldKey i q2 hni
   obtain ⟨m0, hm0, hrw⟩ := st.wr i q2 hni
   have h1 := nmLo i j hl q1
   rcases okBs_mem c2 hm0 with ⟨j', x', e1, e2, e3, _⟩ | ⟨e1, _⟩
   · rw [h1] at e1
     injection e1 with e1
     injection e1 with e1
     subst e1
     obtain ⟨pl2, hp2, hrx⟩ := hm.1 j x' e2
     exact ⟨x', e2, (okM_rep fits e3 hrx).2 hrw⟩
   · rw [h1] at e1; cases e1
 · rw [bnew j hn] at hj
   obtain ⟨h1, h2⟩ := st.new (lenN t.bs + (j - nb)) pl (by unfold isNew at hn ⊢; omega) hj hs
   refine ⟨h1, h2.imp id ?_⟩
   rintro ⟨k, pk, a1, a2, a3, a4, a5, a6⟩
   have hl := oldKey k a1 a3
   obtain ⟨k', q1, q2⟩ := s1 k a1
   have h1 := nmLo k k' hl q1
   rw [g1 k k' h1] at a4
   exact ⟨k', pk, q2, (s3 k k' a1 q1).1.mpr a2, fun hn => (by rw [hfree k' hn] at a4; cases a4), a4, a5, a6⟩
 · rw [bnew j hn] at hp
   rw [bnew k hn'] at hp'
   have key : ∀ j m, isNew nb res.nb j → lookM res.eff j = some m → ∃ mg, lookM r.eff (lenN t.bs + (j - nb)) = some mg ∧ m.rw = mg.rw := by
     intro j m hn hj
     have hk : hasK res.eff j = true := by
       cases h : hasK res.eff j with
       | true => rfl
       | false => rw [lookM_none h] at hj; cases hj
     obtain ⟨i, q1, q2, _, q3⟩ := s2 j hk
     obtain ⟨mg, hmg, hrw, _⟩ := q3 m hj
     have hil : lenN t.bs ≤ i := by
       rcases Nat.lt_or_ge i (lenN t.bs) with h | h
       · exfalso
         have h1 := nmLo i j h q1
         obtain ⟨pl, hp, _⟩ := st.mem i mg hmg
         rw [st.old i (notNew i h), g1 i j h1, hfree j hn] at hp
         cases hp
       · exact h
     rw [nmHi i hil] at q1
     injection q1 with q1
     refine ⟨mg, ?_, hrw⟩
     rw [show lenN t.bs + (j - nb) = i from by omega]; exact hmg
   obtain ⟨a, ha, har⟩ := key j m hn hj
   obtain ⟨b, hb2, _⟩ := key k m' hn' hk
   exact st.excl _ _ a b pl pl' (by unfold isNew at hn hn'; omega) (by unfold isNew at hn ⊢; omega) (by unfold isNew at hn' ⊢; omega) ha hb2 (by rw [← har]; exact hrw) hp hp' hs hs'
end
end Go.Proofs.YtfhjlimdakphcaaGreat.Sx
set_option linter.unusedVariables false
set_option linter.unusedSimpArgs false
namespace Go.Proofs.YtfhjlimdakphcaaGreat.Sx
open Go Go.RowKit
structure Vw where
 j : Nat
 st : Nat
 o : T
def takeF (fa : Facts) (n l : T) : T := if leF fa (lenF fa l) 0 n then l else mkTake n l
def viewable (pbs : Bs) : V → Bool
 | .w (.c (.s i _ _ _ _)) => match look pbs i with
   | some m => !m.rw
   | none => false
 | _ => false
def viewOf (fa : Facts) (bs : Bs) (nb : Nat) : V → Option (V × MB × Vw × List T)
 | .w (.c (.s j st r o l)) => match look bs j with
   | some m => match m.k with
     | .row ks L => if Nat.beq ks.length st && (Nat.ble 1 st && Nat.beq r 0) then
         let Lv := takeF fa (mkMul l (.num (.ofNat st))) (mkDrop (mkMul o (.num (.ofNat st))) L)
         if Nat.beq st 1 then some (.c (.s nb st 0 (.num 0) (.c1 .len Lv)), ⟨false, .row ks Lv⟩, ⟨j, st, o⟩, [mkEq l (lenF fa Lv)])
         else some (.c (.s nb st 0 (.num 0) l), ⟨false, .row ks Lv⟩, ⟨j, st, o⟩, [])
       else none
     | _ => none
   | none => none
 | _ => none
structure Vws where
 vs : List V
 bs : Bs
 vw : List Vw
 ck : List T
def viewVs (fa : Facts) (bs pbs : Bs) : Nat → List V → List V → Vws
 | nb, x :: xs, p :: ps => match (if viewable pbs p then viewOf fa bs nb x else none) with
   | some (v, m, vw, c) =>
     let r := viewVs fa bs pbs (nb + 1) xs ps
     ⟨v :: r.vs, (nb, m) :: r.bs, vw :: r.vw, c ++ r.ck⟩
   | none =>
     let r := viewVs fa bs pbs nb xs ps
     ⟨x :: r.vs, r.bs, r.vw, r.ck⟩
 | _, xs, _ => ⟨xs, [], [], []⟩
def seenBy (j : Nat) : List Vw → Bool
 | [] => false
 | v :: l => Nat.beq v.j j || seenBy j l
def calm (vw : List Vw) : Bs → Bs
 | [] => []
 | (j, m) :: l => (j, if seenBy j vw then ⟨false, m.k⟩ else m) :: calm vw l
def chkAll {α : Type} : List T → O α → O α
 | [], x => x
 | t :: l, x => chkT t (chkAll l x)
def nthV : List Vw → Nat → Option Vw
 | [], _ => none
 | v :: _, 0 => some v
 | _ :: l, i + 1 => nthV l i
def unC (nb : Nat) (vw : List Vw) : C → Option C
 | .s i st r o l => if Nat.ble nb i && Nat.ble (i + 1) (nb + lenN vw) then (match nthV vw (i - nb) with
     | some v => if Nat.beq v.st st && Nat.beq r 0 then some (.s v.j st 0 (mkAdd v.o o) l) else none
     | none => none) else some (.s i st r o l)
 | .p i e st r => if Nat.ble nb i && Nat.ble (i + 1) (nb + lenN vw) then none else some (.p i e st r)
 | c => some c
def mapL (f : C → Option C) : List C → Option (List C)
 | [] => some []
 | c :: cs => match f c, mapL f cs with
   | some x, some xs => some (x :: xs)
   | _, _ => none
def mapW (f : C → Option C) : W → Option W
 | .c x => (f x).map .c
 | .g xs => (mapL f xs).map .g
def mapWs (f : C → Option C) : List W → Option (List W)
 | [] => some []
 | c :: cs => match mapW f c, mapWs f cs with
   | some x, some xs => some (x :: xs)
   | _, _ => none
def mapV (f : C → Option C) : V → Option V
 | .w x => (mapW f x).map .w
 | .t xs => (mapWs f xs).map .t
 | .u => some .u
def mapB (f : C → Option C) : Blk → Option Blk
 | .cells xs => (mapL f xs).map .cells
 | .row ks l => some (.row ks l)
 | .mix ks l => some (.mix ks l)
def mapE (f : C → Option C) : List (Nat × Option MB) → Option (List (Nat × Option MB))
 | [] => some []
 | (j, none) :: l => (mapE f l).map fun r => (j, none) :: r
 | (j, some m) :: l => match mapB f m.k, mapE f l with
   | some k, some r => some ((j, some ⟨m.rw, k⟩) :: r)
   | _, _ => none
def viewCon (t : Tmpl) (c : Con) : Con := fun fa vs bs nb =>
 let r := viewVs fa bs t.bs nb vs t.vs
 if allLow nb (namesVs vs) && (keysLow nb bs && allLow nb (namesBs bs)) then
   chkAll r.ck ((c fa r.vs (calm r.vw bs ++ r.bs) (nb + lenN r.vw)).bind fun res => match mapV (unC nb r.vw) res.val, mapE (unC nb r.vw) res.eff with
     | some v, some e => .ret ⟨v, e, res.nb⟩
     | _, _ => .fail 265)
 else .fail 266
def Tmpl.con (t : Tmpl) : Con := viewCon t t.con0
section
variable {Φ : Sig} {ρ : Env} {P : Program}
theorem chkAll_some {α : Type} {x : O α} {a : α} : ∀ {l : List T}, (chkAll l x).val (T.den Φ ρ) = some a → (∀ t ∈ l, (t.den Φ ρ).bool = true) ∧ x.val (T.den Φ ρ) = some a
 | [], h => ⟨fun t ht => (by cases ht), h⟩
 | t :: l, h => by
   simp only [chkAll] at h
   obtain ⟨h1, h2⟩ := chkT_some hEb h
   obtain ⟨h3, h4⟩ := chkAll_some h2
   refine ⟨fun u hu => ?_, h4⟩
   rcases List.mem_cons.mp hu with e | hu
   · rw [e]; exact h1
   · exact h3 u hu
theorem takeF_ok {fa : Facts} (hf : fa.hold Φ ρ) (n l : T) : ((takeF fa n l).den Φ ρ).list = (l.den Φ ρ).list.take (n.den Φ ρ).int.toNat := by
 unfold takeF
 split
 · rename_i h
   have := leF_ok hf h
   rw [lenF_ok hf] at this
   rw [List.take_of_length_le (by omega)]
 · exact den_take Φ ρ n l
def cut (pl : Place) (d : Nat) : Place := ⟨pl.b, pl.o + d, pl.sz - d⟩
theorem viewOf_ok {fa : Facts} (hf : fa.hold Φ ρ) {bs : Bs} {nb : Nat} {x v : V} {m : MB} {vw : Vw} {ck : List T} (h : viewOf fa bs nb x = some (v, m, vw, ck)) {β : Map} {w : World} {xv : Value} (hx : x.rep (T.den Φ ρ) β xv) (hm : memRep (T.den Φ ρ) β w (look bs)) (hc : ∀ t ∈ ck, (t.den Φ ρ).bool = true) :
   m.rw = false ∧ (∃ ks l, m.k = .row ks l) ∧ ∃ pl, β vw.j = some pl ∧ 0 ≤ (vw.o.den Φ ρ).int ∧ (vw.o.den Φ ρ).int.toNat * vw.st ≤ pl.sz ∧ m.rep (T.den Φ ρ) β w (cut pl ((vw.o.den Φ ρ).int.toNat * vw.st)) ∧ (∃ m0, look bs vw.j = some m0) ∧
     ∀ β', β' nb = some (cut pl ((vw.o.den Φ ρ).int.toNat * vw.st)) → v.rep (T.den Φ ρ) β' xv := by
 unfold viewOf at h
 split at h
 · rename_i j st r o l
   split at h
   · rename_i m0 hj
     split at h
     · rename_i ks L hk
       split at h
       · rename_i hck
         simp only [Bool.and_eq_true] at hck
         obtain ⟨c1, c2, c3⟩ := hck
         have c1 := Nat.eq_of_beq_eq_true c1
         have c2 := Nat.le_of_ble_eq_true c2
         have c3 := Nat.eq_of_beq_eq_true c3
         subst c3
         obtain ⟨pl, hp, hr⟩ := hm.1 j m0 hj
         simp only [V.rep, W.rep, C.rep] at hx
         obtain ⟨pl', hp', a, n, c, rfl, hn, hnc, ho, hsz, ha⟩ := hx
         rw [hp] at hp'
         injection hp' with hp'
         subst hp'
         have hrow := hr.1
         rw [hk] at hrow
         simp only [Blk.rep] at hrow
         obtain ⟨r1, r2, r3⟩ := hrow
         generalize hLv : takeF fa (mkMul l (.num (.ofNat st))) (mkDrop (mkMul o (.num (.ofNat st))) L) = Lv at h
         have hden : (Lv.den Φ ρ).list = ((L.den Φ ρ).list.drop ((o.den Φ ρ).int.toNat * st)).take ((l.den Φ ρ).int.toNat * st) := by
           rw [← hLv, takeF_ok hf, den_drop, den_mul, den_mul]
           simp only [T.den, D.int_i, Int.ofNat_eq_natCast]
           have e1 : ((l.den Φ ρ).int * (st : Int)).toNat = (l.den Φ ρ).int.toNat * st := by
             obtain ⟨z, hz⟩ := Int.eq_ofNat_of_zero_le (show 0 ≤ (l.den Φ ρ).int by omega)
             rw [hz, ← Int.natCast_mul, Int.toNat_natCast, Int.toNat_natCast]
           have e2 : ((o.den Φ ρ).int * (st : Int)).toNat = (o.den Φ ρ).int.toNat * st := by
             obtain ⟨z, hz⟩ := Int.eq_ofNat_of_zero_le ho
             rw [hz, ← Int.natCast_mul, Int.toNat_natCast, Int.toNat_natCast]
           rw [e1, e2]
         have hosz : (o.den Φ ρ).int.toNat * st ≤ pl.sz := by
           have : (o.den Φ ρ).int.toNat * st ≤ ((o.den Φ ρ).int.toNat + c) * st := Nat.mul_le_mul_right _ (by omega)
           omega
         have hrepm : rowRep w (cut pl ((o.den Φ ρ).int.toNat * st)) ks (Lv.den Φ ρ).list := by
           refine ⟨r1, ?_, fun i z hz => ?_⟩
           · rw [hden, List.length_take, List.length_drop]
             simp only [cut]; omega
           · rw [hden, List.getElem?_take] at hz
             split at hz
             · rw [List.getElem?_drop] at hz
               have := r3 _ z hz
               simp only [cut]
               rw [Nat.add_assoc, this, ← c1, Nat.add_comm, Nat.add_mul_mod_self_right]
             · cases hz
         have hcap : (0 + (0 + c) * st) ≤ pl.sz - (o.den Φ ρ).int.toNat * st := by
           rw [Nat.add_mul] at hsz
           simp only [Nat.zero_add] at hsz ⊢
           omega
         split at h
         · rename_i h1
           injection h with h
           injection h with e1 h
           injection h with e2 h
           injection h with e3 e4
           subst e1 e2 e3 e4
           refine ⟨rfl, ⟨_, _, rfl⟩, pl, hp, ho, hosz, ⟨hrepm, fun h => (by cases h)⟩, ⟨m0, hj⟩, fun β' hβ => ?_⟩
           have hl := hc _ List.mem_cons_self
           rw [den_eq, lenF_ok hf] at hl
           have hl := by simpa using hl
           refine ⟨_, hβ, a, n, c, rfl, ?_, hnc, by simp [T.den], ?_, fun h => ?_⟩
           · simp only [T.den, U1.den, D.int_i]; rw [hn, hl]
           · simp only [T.den, D.int_i, cut, Int.toNat_zero]; exact hcap
           · rw [ha h]
             simp only [T.den, D.int_i, cut, Int.toNat_zero, Nat.zero_mul, Nat.add_zero, Nat.zero_add]
         · injection h with h
           injection h with e1 h
           injection h with e2 h
           injection h with e3 e4
           subst e1 e2 e3 e4
           refine ⟨rfl, ⟨_, _, rfl⟩, pl, hp, ho, hosz, ⟨hrepm, fun h => (by cases h)⟩, ⟨m0, hj⟩, fun β' hβ => ?_⟩
           refine ⟨_, hβ, a, n, c, rfl, hn, hnc, by simp [T.den], ?_, fun h => ?_⟩
           · simp only [T.den, D.int_i, cut, Int.toNat_zero]; exact hcap
           · rw [ha h]
             simp only [T.den, D.int_i, cut, Int.toNat_zero, Nat.zero_mul, Nat.add_zero, Nat.zero_add]
       · cases h
     · cases h
   · cases h
 · cases h
theorem nthV_get : ∀ (l : List Vw) (i : Nat), nthV l i = l[i]?
 | [], i => by simp [nthV]
 | v :: l, 0 => rfl
 | v :: l, i + 1 => by simpa [nthV] using nthV_get l i
theorem viewVs_ok {fa : Facts} (hf : fa.hold Φ ρ) {bs pbs : Bs} {β : Map} {w : World} (hm : memRep (T.den Φ ρ) β w (look bs)) : ∀ (nb : Nat) (xs ps : List V) (vals : List Value), repVs (T.den Φ ρ) β xs vals → (∀ t ∈ (viewVs fa bs pbs nb xs ps).ck, (t.den Φ ρ).bool = true) →
   (∀ (i : Nat) (v : Vw), (viewVs fa bs pbs nb xs ps).vw[i]? = some v → ∃ pl, β v.j = some pl ∧ 0 ≤ (v.o.den Φ ρ).int ∧ (v.o.den Φ ρ).int.toNat * v.st ≤ pl.sz ∧ ∃ m0, look bs v.j = some m0) ∧
   (∀ i m, look (viewVs fa bs pbs nb xs ps).bs i = some m → nb ≤ i ∧ m.rw = false ∧ (∃ ks l, m.k = .row ks l) ∧ ∃ v, (viewVs fa bs pbs nb xs ps).vw[i - nb]? = some v ∧ ∃ pl, β v.j = some pl ∧ m.rep (T.den Φ ρ) β w (cut pl ((v.o.den Φ ρ).int.toNat * v.st))) ∧
   (∀ β' : Map, (∀ j pl, j ∈ namesVs xs → β j = some pl → β' j = some pl) → (∀ (i : Nat) (v : Vw) pl, (viewVs fa bs pbs nb xs ps).vw[i]? = some v → β v.j = some pl → β' (nb + i) = some (cut pl ((v.o.den Φ ρ).int.toNat * v.st))) → repVs (T.den Φ ρ) β' (viewVs fa bs pbs nb xs ps).vs vals)
 | nb, [], ps, vals, hv, hc => by
   have e : viewVs fa bs pbs nb [] ps = ⟨[], [], [], []⟩ := by cases ps <;> rfl
   rw [e]
   refine ⟨fun i v h => (by simp at h), fun i m h => (by cases h), fun β' _ _ => ?_⟩
   cases vals with
   | nil => trivial
   | cons _ _ => exact hv.elim
 | nb, x :: xs, [], vals, hv, hc => by
   refine ⟨fun i v h => (by simp [viewVs] at h), fun i m h => (by cases h), fun β' h1 _ => ?_⟩
   have hk : ∀ (vs : List V) (vals : List Value), (∀ j ∈ namesVs vs, ∃ pl, β j = some pl ∧ β' j = some pl) → repVs (T.den Φ ρ) β vs vals → repVs (T.den Φ ρ) β' vs vals := by
     intro vs vals hn hr
     let βm : Map := fun j => if j ∈ namesVs vs then β j else none
     have hle : βm.le β := fun j pl hj => by
       simp only [βm] at hj
       split at hj
       · exact hj
       · cases hj
     have hle' : βm.le β' := fun j pl hj => by
       simp only [βm] at hj
       split at hj
       · rename_i hjn
         obtain ⟨p, e1, e2⟩ := hn j hjn
         rw [e1] at hj
         injection hj with hj
         rw [← hj]; exact e2
       · cases hj
     have hr1 := repVs_back hle (fun j hj => by
       obtain ⟨p, e1, _⟩ := hn j hj
       exact ⟨p, by simp only [βm, if_pos hj]; exact e1⟩) hr
     have up : ∀ {vs : List V} {vals : List Value}, repVs (T.den Φ ρ) βm vs vals → repVs (T.den Φ ρ) β' vs vals := by
       intro vs
       induction vs with
       | nil => intro vals h; cases vals with
         | nil => trivial
         | cons _ _ => exact h.elim
       | cons v vs ih => intro vals h; cases vals with
         | nil => exact h.elim
         | cons y ys => exact ⟨V.rep_le hle' h.1, ih h.2⟩
     exact up hr1
   refine hk _ _ (fun j hj => ?_) hv
   obtain ⟨pl, hp⟩ := repVs_known hv j hj
   exact ⟨pl, hp, h1 j pl hj hp⟩
 | nb, x :: xs, p :: ps, [], hv, hc => hv.elim
 | nb, x :: xs, p :: ps, y :: ys, hv, hc => by
   have one : ∀ (β' : Map), (∀ j pl, j ∈ x.nm → β j = some pl → β' j = some pl) → x.rep (T.den Φ ρ) β' y := by
     intro β' h1
     let βm : Map := fun j => if j ∈ x.nm then β j else none
     have hle : βm.le β := fun j pl hj => by
       simp only [βm] at hj
       split at hj
       · exact hj
       · cases hj
     have hle' : βm.le β' := fun j pl hj => by
       simp only [βm] at hj
       split at hj
       · rename_i hjn; exact h1 j pl hjn hj
       · cases hj
     refine V.rep_le hle' (V.rep_back hle (fun j hj => ?_) hv.1)
     obtain ⟨pl, hp⟩ := V.rep_known hv.1 j hj
     exact ⟨pl, by simp only [βm, if_pos hj]; exact hp⟩
   simp only [viewVs] at hc ⊢
   split at hc
   · rename_i v m vw ck hvo
     have hvo' : viewOf fa bs nb x = some (v, m, vw, ck) := by
       split at hvo
       · exact hvo
       · cases hvo
     simp only at hc ⊢
     obtain ⟨q1, q1b, pl, q2, q3, q4, q5, q6, q7⟩ := viewOf_ok hf hvo' hv.1 hm (fun t ht => hc t (List.mem_append.mpr (.inl ht)))
     obtain ⟨g1, g2, g3⟩ := viewVs_ok hf hm (nb + 1) xs ps ys hv.2 (fun t ht => hc t (List.mem_append.mpr (.inr ht)))
     refine ⟨fun i v' h => ?_, fun i m' h => ?_, fun β' h1 h2 => ⟨?_, ?_⟩⟩
     · cases i with
       | zero => simp only [List.getElem?_cons_zero, Option.some.injEq] at h; subst h; exact ⟨pl, q2, q3, q4, q6⟩
       | succ i => simp only [List.getElem?_cons_succ] at h; exact g1 i v' h
     · simp only [look] at h
       split at h
       · rename_i e
         have e := Nat.eq_of_beq_eq_true e
         subst e
         injection h with h
         subst h
         exact ⟨Nat.le_refl _, q1, q1b, vw, by simp, pl, q2, q5⟩
       · obtain ⟨k1, k2, k2b, v', k3, k4⟩ := g2 i m' h
         refine ⟨by omega, k2, k2b, v', ?_, k4⟩
         rw [show i - nb = (i - (nb + 1)) + 1 from by omega, List.getElem?_cons_succ]; exact k3
     · exact q7 β' (by have := h2 0 vw pl rfl q2; simpa using this)
     · refine g3 β' (fun j pl hj => h1 j pl (by simp only [namesVs, List.mem_append]; exact .inr hj)) (fun i v' pl' hi hp => ?_)
       have := h2 (i + 1) v' pl' (by simpa using hi) hp
       rw [show nb + 1 + i = nb + (i + 1) from by omega]; exact this
   · simp only at hc ⊢
     obtain ⟨g1, g2, g3⟩ := viewVs_ok hf hm nb xs ps ys hv.2 hc
     exact ⟨g1, g2, fun β' h1 h2 => ⟨one β' (fun j pl hj => h1 j pl (by simp only [namesVs, List.mem_append]; exact .inl hj)), g3 β' (fun j pl hj => h1 j pl (by simp only [namesVs, List.mem_append]; exact .inr hj)) h2⟩⟩
section
variable {f : C → Option C} {E E' : Ev} {β β' : Map} {w : World} (hf : ∀ c x v, f c = some x → c.rep E β v → x.rep E' β' v)
include hf
theorem mapL_rep : ∀ {cs xs : List C} {vs : List Value}, mapL f cs = some xs → repL E β cs vs → repL E' β' xs vs
 | [], xs, [], h, _ => by simp only [mapL, Option.some.injEq] at h; subst h; trivial
 | [], _, _ :: _, _, hr => hr.elim
 | _ :: _, _, [], _, hr => hr.elim
 | c :: cs, xs, v :: vs, h, hr => by
   simp only [mapL] at h
   split at h
   · rename_i y ys h1 h2
     injection h with h
     subst h
     exact ⟨hf _ _ _ h1 hr.1, mapL_rep h2 hr.2⟩
   · cases h
theorem mapW_rep {c x : W} {v : Value} (h : mapW f c = some x) (hr : c.rep E β v) : x.rep E' β' v := by
 cases c with
 | c c =>
   simp only [mapW, Option.map_eq_some_iff] at h
   obtain ⟨y, hy, rfl⟩ := h
   exact hf _ _ _ hy hr
 | g cs =>
   simp only [mapW, Option.map_eq_some_iff] at h
   obtain ⟨y, hy, rfl⟩ := h
   obtain ⟨a, rfl, hr⟩ := hr
   exact ⟨a, rfl, mapL_rep hf hy hr⟩
theorem mapWs_rep : ∀ {cs xs : List W} {vs : List Value}, mapWs f cs = some xs → repWs E β cs vs → repWs E' β' xs vs
 | [], xs, [], h, _ => by simp only [mapWs, Option.some.injEq] at h; subst h; trivial
 | [], _, _ :: _, _, hr => hr.elim
 | _ :: _, _, [], _, hr => hr.elim
 | c :: cs, xs, v :: vs, h, hr => by
   simp only [mapWs] at h
   split at h
   · rename_i y ys h1 h2
     injection h with h
     subst h
     exact ⟨mapW_rep hf h1 hr.1, mapWs_rep h2 hr.2⟩
   · cases h
theorem mapV_rep {c x : V} {v : Value} (h : mapV f c = some x) (hr : c.rep E β v) : x.rep E' β' v := by
 cases c with
 | w c =>
   simp only [mapV, Option.map_eq_some_iff] at h
   obtain ⟨y, hy, rfl⟩ := h
   exact mapW_rep hf hy hr
 | t cs =>
   simp only [mapV, Option.map_eq_some_iff] at h
   obtain ⟨y, hy, rfl⟩ := h
   obtain ⟨a, rfl, hr⟩ := hr
   exact ⟨a, rfl, mapWs_rep hf hy hr⟩
 | u => simp only [mapV, Option.some.injEq] at h; subst h; trivial
omit hf in
theorem mapL_get : ∀ {cs xs : List C}, mapL f cs = some xs → cs.length = xs.length ∧ ∀ (i : Nat) (x : C), xs[i]? = some x → ∃ c, cs[i]? = some c ∧ f c = some x
 | [], xs, h => by simp only [mapL, Option.some.injEq] at h; subst h; exact ⟨rfl, fun i x h => by simp at h⟩
 | c :: cs, xs, h => by
   simp only [mapL] at h
   split at h
   · rename_i y ys h1 h2
     injection h with h
     subst h
     obtain ⟨g1, g2⟩ := mapL_get h2
     refine ⟨by simp [g1], fun i x hx => ?_⟩
     cases i with
     | zero => simp only [List.getElem?_cons_zero, Option.some.injEq] at hx; subst hx; exact ⟨c, rfl, h1⟩
     | succ i => simp only [List.getElem?_cons_succ] at hx ⊢; exact g2 i x hx
   · cases h
end
theorem mapB_rep {f : C → Option C} {E : Ev} {β β' : Map} {w : World} (hf : ∀ c x v, f c = some x → c.rep E β v → x.rep E β' v) {k x : Blk} {pl : Place} (h : mapB f k = some x) (hr : k.rep E β w pl) : x.rep E β' w pl := by
 cases k with
 | cells cs =>
   simp only [mapB, Option.map_eq_some_iff] at h
   obtain ⟨y, hy, rfl⟩ := h
   obtain ⟨g1, g2⟩ := mapL_get hy
   refine ⟨by rw [← g1]; exact hr.1, fun i x hx => ?_⟩
   obtain ⟨c, hc, hrc⟩ := g2 i x hx
   obtain ⟨v, hv, hrv⟩ := hr.2 i c hc
   exact ⟨v, hv, hf _ _ _ hrc hrv⟩
 | row ks l => simp only [mapB, Option.some.injEq] at h; subst h; exact hr
 | mix ks l => simp only [mapB, Option.some.injEq] at h; subst h; exact hr
theorem mapE_spec {f : C → Option C} : ∀ {e r : List (Nat × Option MB)}, mapE f e = some r → ∀ j, hasK r j = hasK e j ∧ (lookM r j = none ↔ lookM e j = none) ∧ ∀ m', lookM r j = some m' → ∃ m, lookM e j = some m ∧ m'.rw = m.rw ∧ mapB f m.k = some m'.k
 | [], r, h, j => by
   simp only [mapE, Option.some.injEq] at h
   subst h
   exact ⟨rfl, Iff.rfl, fun m h => (by cases h)⟩
 | (k, none) :: e, r, h, j => by
   simp only [mapE, Option.map_eq_some_iff] at h
   obtain ⟨r', h1, rfl⟩ := h
   obtain ⟨g1, g2, g3⟩ := mapE_spec h1 j
   simp only [hasK, lookM, g1]
   refine ⟨trivial, ?_, ?_⟩
   · split
     · exact Iff.rfl
     · exact g2
   · split
     · exact fun m h => by cases h
     · exact g3
 | (k, some m) :: e, r, h, j => by
   simp only [mapE] at h
   split at h
   · rename_i k' r' h1 h2
     injection h with h
     subst h
     obtain ⟨g1, g2, g3⟩ := mapE_spec h2 j
     simp only [hasK, lookM, g1]
     refine ⟨trivial, ?_, ?_⟩
     · split
       · exact ⟨fun h => (by cases h), fun h => (by cases h)⟩
       · exact g2
     · split
       · intro m2 hm
         injection hm with hm
         subst hm
         exact ⟨m, rfl, rfl, h1⟩
       · exact g3
   · cases h
theorem calm_look {vw : List Vw} : ∀ (bs : Bs) (j : Nat), (∀ m, look (calm vw bs) j = some m → ∃ m0, look bs j = some m0 ∧ m.k = m0.k ∧ (m.rw = true → m0 = m ∧ seenBy j vw = false)) ∧ (look bs j = none → look (calm vw bs) j = none) ∧ (∀ m0, look bs j = some m0 → ∃ m, look (calm vw bs) j = some m)
 | [], j => ⟨fun m h => (by cases h), fun _ => rfl, fun m h => (by cases h)⟩
 | (k, x) :: bs, j => by
   obtain ⟨h1, h2, h3⟩ := calm_look (vw := vw) bs j
   simp only [calm, look]
   by_cases e : Nat.beq k j = true
   · rw [if_pos e, if_pos e]
     have e := Nat.eq_of_beq_eq_true e
     subst e
     refine ⟨fun m h => ?_, fun h => (by cases h), fun m _ => ⟨_, rfl⟩⟩
     injection h with h
     subst h
     refine ⟨x, rfl, ?_, ?_⟩
     · split <;> rfl
     · split
       · intro h; cases h
       · rename_i hs; exact fun _ => ⟨rfl, by simpa using hs⟩
   · rw [if_neg e, if_neg e]
     exact ⟨h1, h2, h3⟩
theorem seenBy_mem : ∀ {vw : List Vw} {j : Nat}, seenBy j vw = false → ∀ (i : Nat) (v : Vw), vw[i]? = some v → v.j ≠ j
 | v0 :: vw, j, h, i, v, hi => by
   simp only [seenBy, Bool.or_eq_false_iff] at h
   cases i with
   | zero =>
     simp only [List.getElem?_cons_zero, Option.some.injEq] at hi
     subst hi
     intro e
     rw [e, Nat.beq_refl] at h
     cases h.1
   | succ i => simp only [List.getElem?_cons_succ] at hi; exact seenBy_mem h.2 i v hi
theorem look_app {α : Type} {l m : List (Nat × α)} {t : Nat} {x : α} (h : look (l ++ m) t = some x) : look l t = some x ∨ (look l t = none ∧ look m t = some x) := by
 rw [look_append] at h
 cases hl : look l t with
 | some y => rw [hl] at h; exact .inl h
 | none => rw [hl] at h; exact .inr ⟨rfl, h⟩
theorem view_ok {f : FuncId} {t : Tmpl} {c : Con} (hcon : ConOk P Φ f c) : ConOk P Φ f (viewCon t c) := by
 intro ρ fa hfa vs bs nb res hres args β w hargs hb hm hfree
 unfold viewCon at hres
 simp only at hres
 split at hres
 case isFalse => cases hres
 rename_i hck
 simp only [Bool.and_eq_true] at hck
 obtain ⟨c1, c2, c3⟩ := hck
 obtain ⟨hcks, hres⟩ := chkAll_some hres
 obtain ⟨res0, h1, h2⟩ := O.bind_some hres
 split at h2
 case h_2 => cases h2
 rename_i v e hv he
 simp only [O.val] at h2
 injection h2 with h2
 subst h2
 obtain ⟨g1, g2, g3⟩ := viewVs_ok hfa (pbs := t.bs) hm nb vs t.vs args hargs hcks
 generalize viewVs fa bs t.bs nb vs t.vs = r at *
 rw [lenN_eq] at h1
 let βs : Map := fun j => if j < nb then β j else match r.vw[j - nb]? with
   | some v => (β v.j).map fun pl => cut pl ((v.o.den Φ ρ).int.toNat * v.st)
   | none => none
 have bLo : ∀ j, j < nb → βs j = β j := fun j hj => by simp only [βs, if_pos hj]
 have bVw : ∀ (i : Nat) (v : Vw) pl, r.vw[i]? = some v → β v.j = some pl → βs (nb + i) = some (cut pl ((v.o.den Φ ρ).int.toNat * v.st)) := fun i v pl hi hp => by
   simp only [βs, if_neg (show ¬ nb + i < nb from by omega), Nat.add_sub_cancel_left, hi, hp, Option.map_some]
 have bHi : ∀ j, nb + r.vw.length ≤ j → βs j = none := fun j hj => by
   simp only [βs, if_neg (show ¬ j < nb from by omega)]
   rw [List.getElem?_eq_none (by omega)]
 have bInv : ∀ j pl, nb ≤ j → βs j = some pl → ∃ v p0, r.vw[j - nb]? = some v ∧ β v.j = some p0 ∧ pl = cut p0 ((v.o.den Φ ρ).int.toNat * v.st) := by
   intro j pl hj hp
   simp only [βs, if_neg (show ¬ j < nb from by omega)] at hp
   split at hp
   · rename_i v hvj
     simp only [Option.map_eq_some_iff] at hp
     obtain ⟨p0, hp0, e⟩ := hp
     exact ⟨v, p0, hvj, hp0, e.symm⟩
   · cases hp
 have knownLo : ∀ j, j < nb → ∀ pl, β j = some pl → βs j = some pl := fun j hj pl hp => by rw [bLo j hj]; exact hp
 have hargs' := g3 βs (fun j pl hj hp => knownLo j (allLow_mem c1 j hj) pl hp) bVw
 have hb' : inHeap βs w := by
   intro j pl hj hs
   rcases Nat.lt_or_ge j nb with hl | hl
   · rw [bLo j hl] at hj; exact hb j pl hj hs
   · obtain ⟨v, p0, e1, e2, e3⟩ := bInv j pl hl hj
     subst e3
     exact hb v.j p0 e2 (by simp only [cut] at hs; omega)
 let βr : Map := fun j => if j < nb then β j else none
 have rle : βr.le β := fun j pl hj => by
   simp only [βr] at hj
   split at hj
   · exact hj
   · cases hj
 have rles : βr.le βs := fun j pl hj => by
   simp only [βr] at hj
   split at hj
   · rename_i hl; rw [bLo j hl]; exact hj
   · cases hj
 have blk : ∀ j m, look bs j = some m → ∀ pl, m.rep (T.den Φ ρ) β w pl → m.k.rep (T.den Φ ρ) βs w pl := by
   intro j m hj pl hr
   refine Blk.rep_le rles (Blk.rep_back rle (fun i hi => ?_) hr.1)
   obtain ⟨p, hp⟩ := Blk.rep_known hr.1 i hi
   exact ⟨p, by simp only [βr]; rw [if_pos (allLow_mem c3 i (namesBs_mem hj i hi))]; exact hp⟩
 have lowC : ∀ j m, look (calm r.vw bs) j = some m → j < nb := fun j m h => by
   obtain ⟨m0, h0, _⟩ := (calm_look bs j).1 m h
   exact keysLow_has c2 h0
 have hm' : memRep (T.den Φ ρ) βs w (look (calm r.vw bs ++ r.bs)) := by
   have one : ∀ j m, look (calm r.vw bs ++ r.bs) j = some m → ∃ pl, βs j = some pl ∧ m.rep (T.den Φ ρ) βs w pl := by
     intro j m hj
     rcases look_app hj with h | ⟨_, h⟩
     · obtain ⟨m0, h0, hk, hrw⟩ := (calm_look bs j).1 m h
       obtain ⟨pl, hp, hr⟩ := hm.1 j m0 h0
       refine ⟨pl, knownLo j (keysLow_has c2 h0) pl hp, by rw [hk]; exact blk j m0 h0 pl hr, fun e => ?_⟩
       obtain ⟨e1, _⟩ := hrw e
       exact hr.2 (by rw [e1]; exact e)
     · obtain ⟨k1, k2, ⟨ks, l, hk⟩, v, k3, pl, k4, k5⟩ := g2 j m h
       have := bVw (j - nb) v pl k3 k4
       rw [show nb + (j - nb) = j from by omega] at this
       refine ⟨_, this, ?_, fun e => (by rw [k2] at e; cases e)⟩
       have := k5.1
       rw [hk] at this ⊢
       exact this
   refine ⟨one, fun j j' m m' pl pl' hne hj hj' hrw hp hp' hs hs' => ?_⟩
   rcases look_app hj with h | ⟨_, h⟩
   · obtain ⟨m0, h0, _, hr0⟩ := (calm_look bs j).1 m h
     obtain ⟨e0, hseen⟩ := hr0 hrw
     subst e0
     have hjl := keysLow_has c2 h0
     rw [bLo j hjl] at hp
     rcases look_app hj' with h' | ⟨_, h'⟩
     · obtain ⟨m1, h1', _⟩ := (calm_look bs j').1 m' h'
       rw [bLo j' (keysLow_has c2 h1')] at hp'
       exact hm.2 j j' m0 m1 pl pl' hne h0 h1' hrw hp hp' hs hs'
     · obtain ⟨k1, _, _, v, k3, p0, k4, _⟩ := g2 j' m' h'
       have e := bVw (j' - nb) v p0 k3 k4
       rw [show nb + (j' - nb) = j' from by omega, hp'] at e
       injection e with e
       subst e
       obtain ⟨_, _, _, _, m2, hm2⟩ := g1 _ v k3
       exact hm.2 j v.j m0 m2 pl p0 (fun e => seenBy_mem hseen _ v k3 e.symm) h0 hm2 hrw hp k4 hs (by simp only [cut] at hs'; omega)
   · obtain ⟨_, k2, _⟩ := g2 j m h
     rw [k2] at hrw; cases hrw
 have hfree' : ∀ j, isNew (nb + r.vw.length) res0.nb j → βs j = none := fun j hj => bHi j hj.1
 refine Calls.mono (hcon ρ fa hfa _ _ _ _ h1 args βs w hargs' hb' hm' hfree') ?_
 rintro e' w' ⟨x, β', rfl, hx, st⟩
 have hge := st.ge
 let β2 : Map := fun j => if nb ≤ j ∧ j < res0.nb then (if j < nb + r.vw.length then none else β' j) else β j
 have bnew : ∀ j, isNew nb res0.nb j → β2 j = if j < nb + r.vw.length then none else β' j := fun j hj => if_pos (c := nb ≤ j ∧ j < res0.nb) hj
 have bold : ∀ j, ¬ isNew nb res0.nb j → β2 j = β j := fun j hj => if_neg (c := nb ≤ j ∧ j < res0.nb) hj
 have b2le : β.le β2 := fun j pl hj => by
   rw [bold j (fun hn => by rw [hfree j hn] at hj; cases hj)]; exact hj
 have oldP : ∀ j, ¬ isNew (nb + r.vw.length) res0.nb j → β' j = βs j := st.old
 have up : ∀ j pl, ¬ (nb ≤ j ∧ j < nb + r.vw.length) → β' j = some pl → β2 j = some pl := by
   intro j pl hnv hp
   rcases Nat.lt_or_ge j nb with hl | hl
   · rw [oldP j (fun hn => by unfold isNew at hn; omega), bLo j hl] at hp
     exact b2le j pl hp
   · have hn : isNew nb res0.nb j := by
       refine ⟨hl, ?_⟩
       rcases Nat.lt_or_ge j res0.nb with h | h
       · exact h
       · rw [oldP j (fun hn => by unfold isNew at hn; omega), bHi j (by omega)] at hp; cases hp
     rw [bnew j hn, if_neg (by omega)]; exact hp
 have cell : ∀ c x v, unC nb r.vw c = some x → c.rep (T.den Φ ρ) β' v → x.rep (T.den Φ ρ) β2 v := by
   intro c x v hun hr
   unfold unC at hun
   split at hun
   · rename_i i st' r' o l
     split at hun
     · rename_i hin
       simp only [Bool.and_eq_true] at hin
       have hin1 := Nat.le_of_ble_eq_true hin.1
       have hin2 := Nat.le_of_ble_eq_true hin.2
       rw [lenN_eq] at hin2
       split at hun
       · rename_i vw hvw
         rw [nthV_get] at hvw
         split at hun
         · rename_i hst
           simp only [Bool.and_eq_true] at hst
           have e1 := Nat.eq_of_beq_eq_true hst.1
           have e2 := Nat.eq_of_beq_eq_true hst.2
           injection hun with hun
           subst hun e2
           obtain ⟨p0, k1, k2, k3, _⟩ := g1 _ vw hvw
           obtain ⟨pl, hp, a, n, cc, rfl, hn, hnc, ho, hsz, ha⟩ := hr
           rw [oldP i (fun hn => by unfold isNew at hn; omega)] at hp
           have e := bVw (i - nb) vw p0 hvw k1
           rw [show nb + (i - nb) = i from by omega, hp] at e
           injection e with e
           subst e
           simp only [cut, Nat.zero_add] at hsz ha
           rw [e1] at k3 hsz ha
           have et : ((vw.o.den Φ ρ).int + (o.den Φ ρ).int).toNat = (vw.o.den Φ ρ).int.toNat + (o.den Φ ρ).int.toNat := by omega
           refine ⟨p0, b2le _ _ k1, a, n, cc, rfl, hn, hnc, ?_, ?_, fun h => ?_⟩
           · rw [den_add]; omega
           · rw [den_add, et, Nat.zero_add, Nat.add_assoc, Nat.add_mul]
             omega
           · rw [ha h, den_add, et, Nat.add_mul, Nat.zero_add, Nat.add_assoc]
         · cases hun
       · cases hun
     · rename_i hin
       injection hun with hun
       subst hun
       obtain ⟨pl, hp, rest⟩ := hr
       exact ⟨pl, up i pl (fun hc => hin (by simp only [Bool.and_eq_true, lenN_eq]; exact ⟨Nat.ble_eq.mpr hc.1, Nat.ble_eq.mpr hc.2⟩)) hp, rest⟩
   · rename_i i e st' r'
     split at hun
     · cases hun
     · rename_i hin
       injection hun with hun
       subst hun
       obtain ⟨pl, hp, rest⟩ := hr
       exact ⟨pl, up i pl (fun hc => hin (by simp only [Bool.and_eq_true, lenN_eq]; exact ⟨Nat.ble_eq.mpr hc.1, Nat.ble_eq.mpr hc.2⟩)) hp, rest⟩
   · rename_i h1 h2
     injection hun with hun
     subst hun
     cases c with
     | p j e st' r' => exact absurd rfl (h2 j e st' r')
     | s j st' r' o l => exact absurd rfl (h1 j st' r' o l)
     | _ => exact hr
 have spec := mapE_spec he
 have keyOld : ∀ j, hasK e j = true → ¬ isNew nb res0.nb j → ¬ isNew (nb + r.vw.length) res0.nb j := fun j _ hn hn' => hn ⟨by have := hn'.1; omega, hn'.2⟩
 have wrOld : ∀ j, hasK res0.eff j = true → ¬ isNew (nb + r.vw.length) res0.nb j → j < nb ∧ ∃ m, look bs j = some m ∧ m.rw = true := by
   intro j hj hn
   obtain ⟨m, hm0, hrw⟩ := st.wr j hj hn
   rcases look_app hm0 with h | ⟨_, h⟩
   · obtain ⟨m0, h0, _, hr0⟩ := (calm_look bs j).1 m h
     obtain ⟨e0, _⟩ := hr0 hrw
     subst e0
     exact ⟨keysLow_has c2 h0, m0, h0, hrw⟩
   · obtain ⟨_, k2, _⟩ := g2 j m h
     rw [k2] at hrw; cases hrw
 refine ⟨x, β2, rfl, mapV_rep cell hv hx, ?_⟩
 refine ⟨by show nb ≤ res0.nb; omega, b2le, bold, st.os, st.tape, st.output, st.size, fun b hbs hk => ?_, fun j m hj => ?_, fun j hj hn => ?_, fun j pl hn hj hs => ?_, fun j k m m' pl pl' hne hn hn' hj hk hrw hp hp' hs hs' => ?_⟩
 · refine st.kept b hbs (fun j pl hj hn hp hs => ?_)
   obtain ⟨hl, _⟩ := wrOld j hj hn
   rw [bLo j hl] at hp
   exact hk j pl (by rw [(spec j).1]; exact hj) (fun hn' => by have := hn'.1; omega) hp hs
 · obtain ⟨m0, h0, hrw, hkk⟩ := (spec j).2.2 m hj
   obtain ⟨pl, hp, hr⟩ := st.mem j m0 h0
   have hkj : hasK res0.eff j = true := by
     cases h : hasK res0.eff j with
     | true => rfl
     | false => rw [lookM_none h] at h0; cases h0
   have hnv : ¬ (nb ≤ j ∧ j < nb + r.vw.length) := fun hc => by
     have := (wrOld j hkj (fun hn => by unfold isNew at hn; omega)).1
     omega
   exact ⟨pl, up j pl hnv hp, mapB_rep cell hkk hr.1, fun e => hr.2 (by rw [← hrw]; exact e)⟩
 · obtain ⟨_, m, h1, h2⟩ := wrOld j (by rw [← (spec j).1]; exact hj) (keyOld j hj hn)
   exact ⟨m, h1, h2⟩
 · rw [bnew j hn] at hj
   split at hj
   · cases hj
   · rename_i hge'
     obtain ⟨q1, q2⟩ := st.new j pl ⟨by omega, hn.2⟩ hj hs
     refine ⟨q1, q2.imp id ?_⟩
     rintro ⟨k, pk, a1, a2, a3, a4, a5, a6⟩
     obtain ⟨hl, _⟩ := wrOld k a1 a3
     rw [bLo k hl] at a4
     exact ⟨k, pk, by rw [(spec k).1]; exact a1, (spec k).2.1.mpr a2, fun hn => by have := hn.1; omega, a4, a5, a6⟩
 · rw [bnew j hn] at hp
   rw [bnew k hn'] at hp'
   split at hp
   · cases hp
   · split at hp'
     · cases hp'
     · obtain ⟨a, ha, har, _⟩ := (spec j).2.2 m hj
       obtain ⟨b, hb2, _⟩ := (spec k).2.2 m' hk
       exact st.excl j k a b pl pl' hne ⟨by omega, hn.2⟩ ⟨by omega, hn'.2⟩ ha hb2 (by rw [← har]; exact hrw) hp hp' hs hs'
theorem con_ok {f : FuncId} {t : Tmpl} (ht : TmplOk P Φ f t) : ConOk P Φ f t.con := view_ok (con0_ok ht)
end
end Go.Proofs.YtfhjlimdakphcaaGreat.Sx
set_option linter.unusedVariables false
set_option linter.unusedSimpArgs false
namespace Go.Proofs.YtfhjlimdakphcaaGreat.Sx
open Go Go.RowKit
def eqC (E E' : Ev) : C → C → Prop
 | .i k t, .i k' t' => k = k' ∧ (E t).int = (E' t').int
 | .b t, .b t' => (E t).bool = (E' t').bool
 | .p j e st r, .p j' e' st' r' => j = j' ∧ st = st' ∧ r = r' ∧ (E e).int = (E' e').int
 | .s j st r o l, .s j' st' r' o' l' => j = j' ∧ st = st' ∧ r = r' ∧ (E o).int = (E' o').int ∧ (E l).int = (E' l').int
 | .pn, .pn => True
 | .sn, .sn => True
 | .sn, .sz => True
 | .sz, .sz => True
 | .fn f, .fn g => f = g
 | .nf, .nf => True
 | _, _ => False
def eqL (E E' : Ev) : List C → List C → Prop
 | [], [] => True
 | x :: xs, y :: ys => eqC E E' x y ∧ eqL E E' xs ys
 | _, _ => False
def eqW (E E' : Ev) : W → W → Prop
 | .c x, .c y => eqC E E' x y
 | .g xs, .g ys => eqL E E' xs ys
 | _, _ => False
def eqWs (E E' : Ev) : List W → List W → Prop
 | [], [] => True
 | x :: xs, y :: ys => eqW E E' x y ∧ eqWs E E' xs ys
 | _, _ => False
def eqV (E E' : Ev) : V → V → Prop
 | .w x, .w y => eqW E E' x y
 | .t xs, .t ys => eqWs E E' xs ys
 | _, .u => True
 | _, _ => False
def eqB (E E' : Ev) : Blk → Blk → Prop
 | .cells xs, .cells ys => eqL E E' xs ys
 | .row ks l, .row ks' l' => ks = ks' ∧ (E l).list = (E' l').list
 | .mix ks l, .mix ks' l' => ks = ks' ∧ (E l).list = (E' l').list
 | _, _ => False
def eqE (E E' : Ev) : List (Nat × Option MB) → List (Nat × Option MB) → Prop
 | [], [] => True
 | (j, none) :: r, (j', none) :: r' => j = j' ∧ eqE E E' r r'
 | (j, some m) :: r, (j', some m') :: r' => j = j' ∧ m.rw = m'.rw ∧ eqB E E' m.k m'.k ∧ eqE E E' r r'
 | _, _ => False
section
variable {E E' : Ev} {β : Map} {w : World}
theorem eqC_rep {x y : C} {v : Value} (h : eqC E E' x y) (hr : x.rep E β v) : y.rep E' β v := by
 unfold eqC at h
 split at h <;> simp only [C.rep] at hr ⊢
 · rw [← h.1, ← h.2]; exact hr
 · rw [← h]; exact hr
 · obtain ⟨rfl, rfl, rfl, h⟩ := h; rw [← h]; exact hr
 · obtain ⟨rfl, rfl, rfl, h1, h2⟩ := h; rw [← h1, ← h2]; exact hr
 · exact hr
 · exact hr
 · exact ⟨_, hr⟩
 · exact hr
 · rw [← h]; exact hr
 · exact hr
 · exact h.elim
theorem eqL_rep : ∀ {xs ys : List C} {vs : List Value}, eqL E E' xs ys → repL E β xs vs → repL E' β ys vs
 | [], [], [], _, _ => trivial
 | [], [], _ :: _, _, hr => hr.elim
 | [], _ :: _, _, h, _ => h.elim
 | _ :: _, [], _, h, _ => h.elim
 | _ :: _, _ :: _, [], _, hr => hr.elim
 | x :: xs, y :: ys, v :: vs, h, hr => ⟨eqC_rep h.1 hr.1, eqL_rep h.2 hr.2⟩
theorem eqW_rep {x y : W} {v : Value} (h : eqW E E' x y) (hr : x.rep E β v) : y.rep E' β v := by
 unfold eqW at h
 split at h
 · exact eqC_rep h hr
 · obtain ⟨cs, rfl, hr⟩ := hr; exact ⟨cs, rfl, eqL_rep h hr⟩
 · exact h.elim
theorem eqWs_rep : ∀ {xs ys : List W} {vs : List Value}, eqWs E E' xs ys → repWs E β xs vs → repWs E' β ys vs
 | [], [], [], _, _ => trivial
 | [], [], _ :: _, _, hr => hr.elim
 | [], _ :: _, _, h, _ => h.elim
 | _ :: _, [], _, h, _ => h.elim
 | _ :: _, _ :: _, [], _, hr => hr.elim
 | x :: xs, y :: ys, v :: vs, h, hr => ⟨eqW_rep h.1 hr.1, eqWs_rep h.2 hr.2⟩
theorem eqV_rep {x y : V} {v : Value} (h : eqV E E' x y) (hr : x.rep E β v) : y.rep E' β v := by
 unfold eqV at h
 split at h
 · exact eqW_rep h hr
 · obtain ⟨cs, rfl, hr⟩ := hr; exact ⟨cs, rfl, eqWs_rep h hr⟩
 · trivial
 · exact h.elim
theorem eqL_get : ∀ {xs ys : List C}, eqL E E' xs ys → xs.length = ys.length ∧ ∀ (i : Nat) (y : C), ys[i]? = some y → ∃ x, xs[i]? = some x ∧ eqC E E' x y
 | [], [], _ => ⟨rfl, fun i y h => by simp at h⟩
 | [], _ :: _, h => h.elim
 | _ :: _, [], h => h.elim
 | x :: xs, y :: ys, h => by
   obtain ⟨h1, h2⟩ := eqL_get h.2
   refine ⟨by simp [h1], fun i z hz => ?_⟩
   cases i with
   | zero => simp only [List.getElem?_cons_zero, Option.some.injEq] at hz; subst hz; exact ⟨x, rfl, h.1⟩
   | succ i => simp only [List.getElem?_cons_succ] at hz ⊢; exact h2 i z hz
theorem eqB_rep {x y : Blk} {pl : Place} (h : eqB E E' x y) (hr : x.rep E β w pl) : y.rep E' β w pl := by
 unfold eqB at h
 split at h
 · obtain ⟨h1, h2⟩ := eqL_get h
   refine ⟨by rw [← h1]; exact hr.1, fun i y hy => ?_⟩
   obtain ⟨x, hx, he⟩ := h2 i y hy
   obtain ⟨v, hv, hrv⟩ := hr.2 i x hx
   exact ⟨v, hv, eqC_rep he hrv⟩
 · simp only [Blk.rep] at hr ⊢
   rw [← h.1, ← h.2]; exact hr
 · simp only [Blk.rep] at hr ⊢
   rw [← h.1, ← h.2]; exact hr
 · exact h.elim
theorem eqE_spec : ∀ {e e' : List (Nat × Option MB)}, eqE E E' e e' → ∀ j, hasK e' j = hasK e j ∧ (lookM e' j = none ↔ lookM e j = none) ∧ ∀ m', lookM e' j = some m' → ∃ m, lookM e j = some m ∧ m.rw = m'.rw ∧ eqB E E' m.k m'.k
 | [], [], _, j => ⟨rfl, Iff.rfl, fun m h => by cases h⟩
 | [], _ :: _, h, _ => by simp [eqE] at h
 | _ :: _, [], h, _ => by simp [eqE] at h
 | (k, none) :: e, (k', none) :: e', h, j => by
   simp only [eqE] at h
   obtain ⟨rfl, h⟩ := h
   obtain ⟨h1, h2, h3⟩ := eqE_spec h j
   refine ⟨by simp only [hasK, h1], ?_, ?_⟩ <;> simp only [lookM]
   · split
     · exact Iff.rfl
     · exact h2
   · split
     · exact fun m h => by cases h
     · exact h3
 | (k, some m) :: e, (k', some m') :: e', h, j => by
   simp only [eqE] at h
   obtain ⟨rfl, hrw, hb, h⟩ := h
   obtain ⟨h1, h2, h3⟩ := eqE_spec h j
   refine ⟨by simp only [hasK, h1], ?_, ?_⟩ <;> simp only [lookM]
   · split
     · exact ⟨fun h => (by cases h), fun h => (by cases h)⟩
     · exact h2
   · split
     · intro m2 hm
       injection hm with hm
       subst hm
       exact ⟨m, rfl, hrw, hb⟩
     · exact h3
 | (_, none) :: _, (_, some _) :: _, h, _ => by simp [eqE] at h
 | (_, some _) :: _, (_, none) :: _, h, _ => by simp [eqE] at h
theorem StepR.same {bs : Nat → Option MB} {β β' : Map} {w w' : World} {nb nb' : Nat} {eff eff' : List (Nat × Option MB)} (h : StepR E bs β w nb eff nb' β' w') (he : eqE E E' eff eff') : StepR E' bs β w nb eff' nb' β' w' := by
 have hs := eqE_spec he
 refine ⟨h.ge, h.le, h.old, h.os, h.tape, h.output, h.size, fun b hb hk => h.kept b hb (fun j pl hj => hk j pl (by rw [(hs j).1]; exact hj)), fun j m hj => ?_, fun j hj => h.wr j (by rw [← (hs j).1]; exact hj), fun j pl hn hj hp => ?_, fun j k m m' pl pl' hne hn hn' hj hk hrw => ?_⟩
 · obtain ⟨m0, h1, h2, h3⟩ := (hs j).2.2 m hj
   obtain ⟨pl, hp, hr⟩ := h.mem j m0 h1
   exact ⟨pl, hp, eqB_rep h3 hr.1, fun e => hr.2 (by rw [h2]; exact e)⟩
 · obtain ⟨h1, h2⟩ := h.new j pl hn hj hp
   refine ⟨h1, h2.imp id ?_⟩
   rintro ⟨k, pk, a1, a2, a3⟩
   exact ⟨k, pk, by rw [(hs k).1]; exact a1, (hs k).2.1.mpr a2, a3⟩
 · obtain ⟨a, h1, h2, _⟩ := (hs j).2.2 m hj
   obtain ⟨b, h3, _⟩ := (hs k).2.2 m' hk
   exact h.excl j k a b pl pl' hne hn hn' h1 h3 (by rw [h2]; exact hrw)
end
def preF : O Res → Facts
 | .chk t x => addF t true (preF x)
 | _ => []
theorem preF_ok {Φ : Sig} {ρ : Env} {res : Res} : ∀ {o : O Res}, o.val (T.den Φ ρ) = some res → (preF o).hold Φ ρ
 | .ret _, _ => fun t p hm => by cases hm
 | .split .., _ => fun t p hm => by cases hm
 | .fail _, _ => fun t p hm => by cases hm
 | .chk t x, h => by
   simp only [O.val] at h
   split at h
   · rename_i hc; exact addF_ok hc (preF_ok h)
   · cases h
def Leaf (Φ : Sig) (ρ ρ' : Env) (res : Res) (r : V × St) : Prop :=
 eqV (T.den Φ ρ') (T.den Φ ρ) r.1 res.val ∧ eqE (T.den Φ ρ') (T.den Φ ρ) r.2.me res.eff ∧ r.2.nb ≤ res.nb
theorem StepR.grow {E : Ev} {bs : Nat → Option MB} {β β' : Map} {w w' : World} {nb nb' nb'' : Nat} {eff : List (Nat × Option MB)} (h : StepR E bs β w nb eff nb' β' w') (hf : ∀ j, nb ≤ j → β j = none) (hf' : ∀ j, nb' ≤ j → β' j = none) (hle : nb' ≤ nb'') : StepR E bs β w nb eff nb'' β' w' := by
 have big : ∀ j, ¬ isNew nb nb'' j → ¬ isNew nb nb' j := fun j hn hn' => hn ⟨hn'.1, by have := hn'.2; omega⟩
 have lows : ∀ j pl, ¬ isNew nb nb' j → β j = some pl → ¬ isNew nb nb'' j := fun j pl hn hp hn' => by rw [hf j hn'.1] at hp; cases hp
 have live : ∀ j pl, isNew nb nb'' j → β' j = some pl → isNew nb nb' j := fun j pl hn hp => ⟨hn.1, by
   rcases Nat.lt_or_ge j nb' with h | h
   · exact h
   · rw [hf' j h] at hp; cases hp⟩
 refine ⟨Nat.le_trans h.ge hle, h.le, fun j hn => h.old j (big j hn), h.os, h.tape, h.output, h.size, fun b hb hk => h.kept b hb (fun j pl hj hn hp => hk j pl hj (lows j pl hn hp) hp), h.mem, fun j hj hn => h.wr j hj (big j hn), fun j pl hn hj hs => ?_, fun j k m m' pl pl' hne hn hn' hj hk hrw hp hp' => h.excl j k m m' pl pl' hne (live j pl hn hp) (live k pl' hn' hp') hj hk hrw hp hp'⟩
 obtain ⟨h1, h2⟩ := h.new j pl (live j pl hn hj) hj hs
 refine ⟨h1, h2.imp id ?_⟩
 rintro ⟨k, pk, a1, a2, a3, a4, a5⟩
 exact ⟨k, pk, a1, a2, lows k pk a3 a4, a4, a5⟩
theorem tmpl_of {P : Program} {Φ : Sig} {A : Anns} {cons : List (Nat × Con)} {d : Nat} {f : FuncId} {t : Tmpl} {tree : M (V × St)} (hcons : ConsOk P Φ cons) (hev : funTree (ctxN P A cons d) A f t.vs t.bs t.n (preF t.res) = tree)
   (h : ∀ ρ res, t.res.val (T.den Φ ρ) = some res → ∃ J, tree.ok Φ J (fun _ _ => False) ρ (fun _ ρ' r => Leaf Φ ρ ρ' res r)) : TmplOk P Φ f t := by
 intro ρ res hres args β w hargs hb hm hfree
 obtain ⟨J, hok⟩ := h ρ res hres
 rw [← hev] at hok
 have hX : CallOk (ctxN P A cons d).P Φ (ctxN P A cons d).call := by rw [ctxN_P]; exact ctxN_ok hcons d
 have hc := fun_sound hX (M.ok_bind hok) (preF_ok hres) hargs hb hm hfree
 rw [ctxN_P] at hc
 refine Calls.mono hc ?_
 rintro e w' ⟨x, v, B', ρ', S', β', rfl, ⟨k1, k2, k3⟩, hv, hd, _⟩
 have st := (hd.step (v := v) hfree).same k2
 refine ⟨x, β', rfl, eqV_rep k1 hv, ?_⟩
 exact st.grow hfree hd.free k3
end Go.Proofs.YtfhjlimdakphcaaGreat.Sx
set_option linter.unusedVariables false
set_option linter.unusedSimpArgs false
namespace Go.Proofs.YtfhjlimdakphcaaGreat.Sx
open Go
def slc (j v : Nat) : V := .c (.s j 1 0 (.num 0) (.c1 .len (.var v)))
def rowB (v : Nat) : MB := ⟨false, .row [.u8] (.var v)⟩
def short (v : Nat) (x : O Res) : O Res := .chk (.c2 .le (.c1 .len (.var v)) (.num 140737488351232)) x
def kinds (ks : List IntKind) (v : Nat) (x : O Res) : O Res := .chk (.c1 (.kin ks) (.var v)) x
def bytes (v : Nat) (x : O Res) : O Res := kinds [.u8] v x
def inR (v : Nat) (lo hi : Int) (x : O Res) : O Res := .chk (.c2 .le (.num lo) (.var v)) (.chk (.c2 .le (.var v) (.num hi)) x)
def truth (nb : Nat) : O Res := .ret ⟨.c (.b (.bol true)), [], nb⟩
def tEq : Tmpl := ⟨[slc 0 0, slc 1 1], [(0, rowB 0), (1, rowB 1)], 2, short 0 (short 1 (.ret ⟨.c (.b (.c2 .leq (.var 0) (.var 1))), [], 2⟩))⟩
def cellsV (b : Nat) : List IntKind → List C
 | [] => []
 | k :: ks => .i k (.var b) :: cellsV (b + 1) ks
def inKs (b : Nat) : List IntKind → O Res → O Res
 | [], x => x
 | k :: ks, x => inR b (kmin k) (kmax k) (inKs (b + 1) ks x)
def turnAll (id ti ta : Nat) (S : St) : Ann := match look S.tm ta with
 | some (.w (.c (.s j 1 0 (.num 0) n))) => .inv id ⟨[(ti, .c (.i .i64 (.var S.nv)))], [(j, some ⟨true, .row [.u8] (.var (S.nv + 1))⟩)], [], 2, [(.c2 .le (.num 0) (.var S.nv), true), (.c2 .eq (.c1 .len (.var (S.nv + 1))) n, true), (.c1 (.kin [.u8]) (.var (S.nv + 1)), true)]⟩
 | _ => .unroll 1
section
variable {Φ : Sig} {ρ : Env}
theorem chk_some {α : Type} {E : Ev} {t : T} {x : O α} {a : α} (h : (O.chk t x).val E = some a) : (E t).bool = true ∧ x.val E = some a := by
 simp only [O.val] at h
 split at h
 · exact ⟨by assumption, h⟩
 · cases h
theorem ret_some {α : Type} {E : Ev} {x a : α} (h : (O.ret x).val E = some a) : x = a := by
 simp only [O.val] at h; injection h
theorem noCons {P : Program} : ConsOk P Φ [] := fun f c h => by cases h
theorem moreCons {P : Program} {f : FuncId} {c : Con} {cons : List (Nat × Con)} (h : ConOk P Φ f c) (hc : ConsOk P Φ cons) : ConsOk P Φ ((f, c) :: cons) := by
 intro g d hd
 simp only [findCon] at hd
 split at hd
 · rename_i e
   injection hd with hd
   subst hd
   rw [← Nat.eq_of_beq_eq_true e]; exact h
 · exact hc g d hd
def Bytes (l : List Int) : Prop := ∀ z ∈ l, 0 ≤ z ∧ z < 256
theorem bytes_iff {l : List Int} : inKinds [.u8] 0 l = true ↔ Bytes l := by
 rw [inKinds_iff]
 constructor
 · intro h z hz
   obtain ⟨j, hj, e⟩ := List.getElem_of_mem hz
   have := h j z (by rw [List.getElem?_eq_getElem hj, e])
   simp [kAt, Nat.mod_one, kmin, kmax] at this
   omega
 · intro h j z hj
   have := h z (List.mem_of_getElem? hj)
   simp [kAt, Nat.mod_one, kmin, kmax]
   omega
theorem short_some {v : Nat} {x : O Res} {res : Res} (h : (short v x).val (T.den Φ ρ) = some res) : (ρ v).list.length ≤ 140737488351232 ∧ x.val (T.den Φ ρ) = some res := by
 replace h := chk_some h
 obtain ⟨h1, h⟩ := h
 simp [T.den, O2.den, U1.den] at h1
 exact ⟨by omega, h⟩
theorem bytes_some {v : Nat} {x : O Res} {res : Res} (h : (bytes v x).val (T.den Φ ρ) = some res) : Bytes (ρ v).list ∧ x.val (T.den Φ ρ) = some res := by
 replace h := chk_some h
 obtain ⟨h1, h⟩ := h
 refine ⟨bytes_iff.mp h1, h⟩
theorem inR_some {v : Nat} {lo hi : Int} {x : O Res} {res : Res} (h : (inR v lo hi x).val (T.den Φ ρ) = some res) : lo ≤ (ρ v).int ∧ (ρ v).int ≤ hi ∧ x.val (T.den Φ ρ) = some res := by
 replace h := chk_some h
 obtain ⟨h1, h⟩ := h
 replace h := chk_some h
 obtain ⟨h2, h⟩ := h
 simp [T.den, O2.den] at h1 h2
 exact ⟨h1, h2, h⟩
theorem inKs_some {x : O Res} {res : Res} : ∀ {ks : List IntKind} {b : Nat}, (inKs b ks x).val (T.den Φ ρ) = some res → (∀ i k, ks[i]? = some k → kmin k ≤ (ρ (b + i)).int ∧ (ρ (b + i)).int ≤ kmax k) ∧ x.val (T.den Φ ρ) = some res
 | [], b, h => ⟨fun i k h => by simp at h, h⟩
 | k :: ks, b, h => by
   obtain ⟨h1, h2, h⟩ := inR_some h
   obtain ⟨h3, h4⟩ := inKs_some h
   refine ⟨fun i k' hk => ?_, h4⟩
   cases i with
   | zero => simp only [List.getElem?_cons_zero, Option.some.injEq] at hk; subst hk; exact ⟨h1, h2⟩
   | succ i =>
     simp only [List.getElem?_cons_succ] at hk
     have := h3 i k' hk
     rw [show b + (i + 1) = b + 1 + i from by omega]; exact this
end
end Go.Proofs.YtfhjlimdakphcaaGreat.Sx
set_option linter.unusedVariables false
set_option linter.unusedSimpArgs false
namespace Go.Proofs.YtfhjlimdakphcaaGreat.Sx
open Go Go.RowKit Go.WideShapes Go.ChangeShapes
theorem true_calls {P : Program} {Φ : Sig} {f : FuncId} {t : Tmpl} (ht : TmplOk P Φ f t) {ρ : Env} {nb : Nat} (hres : t.res.val (T.den Φ ρ) = some ⟨.c (.b (.bol true)), [], nb⟩) {args : List Value} {β : Map} {w : World}
   (hargs : repVs (T.den Φ ρ) β t.vs args) (hin : inHeap β w) (hm : memRep (T.den Φ ρ) β w (look t.bs)) (hfree : ∀ j, lenN t.bs ≤ j → β j = none) :
   Calls P f args.toArray w fun e w' => e = .returned (.bool true) ∧ Below w.heap.size w w' := by
 refine (ht ρ _ hres args β w hargs hin hm hfree).mono ?_
 rintro e w' ⟨v, β', rfl, hv, hs⟩
 refine ⟨?_, hs.os, hs.tape, hs.output, hs.size, fun k hk => hs.kept k hk (fun j pl hj => by cases hj)⟩
 have : v = .bool true := hv
 rw [this]
def envL (l : List D) : Env := fun i => nthD l i
def mapP (l : List Place) : Map := fun j => l[j]?
section
variable {Φ : Sig} {ρ : Env} {β : Map} {w : World}
theorem mem_in {bs : Bs} (h : ∀ j m, look bs j = some m → m.rw = false ∧ ∃ pl, β j = some pl ∧ m.rep (T.den Φ ρ) β w pl) : memRep (T.den Φ ρ) β w (look bs) :=
 ⟨fun j m hj => (h j m hj).2, fun j j' m m' pl pl' _ hj _ hrw => by rw [(h j m hj).1] at hrw; cases hrw⟩
theorem look_nil {Q : MB → Nat → Prop} : ∀ i m, look ([] : Bs) i = some m → Q m i := fun i m h => by cases h
theorem in_nil : inHeap (mapP []) w := fun j p hj => by simp [mapP] at hj
theorem mapP_free {pls : List Place} {n : Nat} (hn : pls.length = n) : ∀ j, n ≤ j → mapP pls j = none := fun j hj => List.getElem?_eq_none (by omega)
def GoodInts (ks : List IntKind) (xs : List Int) : Prop := ks.length = xs.length ∧ ∀ (i : Nat) k z, ks[i]? = some k → xs[i]? = some z → kmin k ≤ z ∧ z ≤ kmax k
theorem good_cons {k : IntKind} {ks : List IntKind} {z : Int} {xs : List Int} : GoodInts (k :: ks) (z :: xs) ↔ (kmin k ≤ z ∧ z ≤ kmax k) ∧ GoodInts ks xs := by
 constructor
 · rintro ⟨h1, h2⟩
   exact ⟨h2 0 k z rfl rfl, by simpa using h1, fun i k' z' a b => h2 (i + 1) k' z' (by simpa using a) (by simpa using b)⟩
 · rintro ⟨h0, h1, h2⟩
   refine ⟨by simpa using h1, fun i k' z' a b => ?_⟩
   cases i with
   | zero => simp at a b; subst a b; exact h0
   | succ i => exact h2 i k' z' (by simpa using a) (by simpa using b)
theorem good_nil : GoodInts [] [] := ⟨rfl, fun i k z h => by simp at h⟩
def AtEnv (ρ : Env) (b : Nat) (xs : List Int) : Prop := ∀ (i : Nat) z, xs[i]? = some z → ρ (b + i) = .i z
theorem cellsV_rep : ∀ {ks : List IntKind} {xs : List Int} {b : Nat}, ks.length = xs.length → AtEnv ρ b xs → repL (T.den Φ ρ) β (cellsV b ks) (ints ks xs)
 | [], [], _, _, _ => trivial
 | [], _ :: _, _, h, _ => by simp at h
 | _ :: _, [], _, h, _ => by simp at h
 | k :: ks, x :: xs, b, h, ha => by
   refine ⟨?_, cellsV_rep (by simpa using h) (fun i z hz => ?_)⟩
   · show Value.int k x = .int k (ρ b).int
     rw [show ρ b = .i x from ha 0 x rfl]; rfl
   · rw [show b + 1 + i = b + (i + 1) from by omega]; exact ha (i + 1) z (by simpa using hz)
end
theorem env_get {ds : List D} {i : Nat} {d : D} (h : ds[i]? = some d) : envL ds i = d := by
 have : ∀ (ds : List D) (i : Nat), ds[i]? = some d → nthD ds i = d := by
   intro ds
   induction ds with
   | nil => intro i h; simp at h
   | cons x ds ih => intro i h; cases i with
     | zero => simpa [nthD] using h
     | succ i => exact ih i (by simpa using h)
 exact this ds i h
theorem env_ints {pre post : List D} {xs : List Int} {b : Nat} (hb : pre.length = b) : AtEnv (envL (pre ++ (xs.map D.i ++ post))) b xs := by
 intro i z hz
 apply env_get
 have hi : i < xs.length := (List.getElem?_eq_some_iff.1 hz).1
 rw [List.getElem?_append_right (by omega), show b + i - pre.length = i from by omega, List.getElem?_append_left (by simpa using hi), List.getElem?_map, hz]
 rfl
end Go.Proofs.YtfhjlimdakphcaaGreat.Sx
set_option linter.unusedVariables false
set_option linter.unusedSimpArgs false
namespace Go.Proofs.YtfhjlimdakphcaaGreat.Sx
open Go
theorem wrap_is {k : IntKind} {z : Int} (h1 : kmin k ≤ z) (h2 : z ≤ kmax k) : k.wrap z = z := by
 cases k <;> simp [kmin, kmax] at h1 h2 <;> simp [IntKind.wrap, IntKind.bits, IntKind.signed] <;> omega
section
variable (Φ : Sig) (ρ : Env) (x y z : T)
@[simp] theorem den_var (i : Nat) : T.den Φ ρ (.var i) = ρ i := rfl
@[simp] theorem den_num (i : Int) : T.den Φ ρ (.num i) = .i i := rfl
@[simp] theorem den_bol (p : Bool) : T.den Φ ρ (.bol p) = .b p := rfl
@[simp] theorem int_add : (T.den Φ ρ (.c2 .add x y)).int = (T.den Φ ρ x).int + (T.den Φ ρ y).int := rfl
@[simp] theorem int_sub : (T.den Φ ρ (.c2 .sub x y)).int = (T.den Φ ρ x).int - (T.den Φ ρ y).int := rfl
@[simp] theorem int_mul : (T.den Φ ρ (.c2 .mul x y)).int = (T.den Φ ρ x).int * (T.den Φ ρ y).int := rfl
@[simp] theorem int_fdiv : (T.den Φ ρ (.c2 .fdiv x y)).int = (T.den Φ ρ x).int.fdiv (T.den Φ ρ y).int := rfl
@[simp] theorem int_rem : (T.den Φ ρ (.c2 .rem x y)).int = (T.den Φ ρ x).int.tmod (T.den Φ ρ y).int := rfl
@[simp] theorem int_len : (T.den Φ ρ (.c1 .len x)).int = ((T.den Φ ρ x).list.length : Int) := rfl
@[simp] theorem int_wr (k : IntKind) : (T.den Φ ρ (.wr k x)).int = k.wrap (T.den Φ ρ x).int := rfl
@[simp] theorem int_bits (o : Bo) (k : IntKind) : (T.den Φ ρ (.bits o k x y)).int = Go.bits o.op k (T.den Φ ρ x).int (T.den Φ ρ y).int := rfl
@[simp] theorem int_rd : (T.den Φ ρ (.c2 .rd x y)).int = (T.den Φ ρ x).list[(T.den Φ ρ y).int.toNat]?.getD 0 := rfl
@[simp] theorem den_fn (f : Nat) : T.den Φ ρ (.fn f x y z) = Φ f (T.den Φ ρ x) (T.den Φ ρ y) (T.den Φ ρ z) := rfl
@[simp] theorem list_nil : (T.den Φ ρ .nil).list = [] := rfl
@[simp] theorem list_cons : (T.den Φ ρ (.cons x y)).list = (T.den Φ ρ x).int :: (T.den Φ ρ y).list := rfl
@[simp] theorem list_take : (T.den Φ ρ (.c2 .take x y)).list = (T.den Φ ρ y).list.take (T.den Φ ρ x).int.toNat := rfl
@[simp] theorem list_drop : (T.den Φ ρ (.c2 .drop x y)).list = (T.den Φ ρ y).list.drop (T.den Φ ρ x).int.toNat := rfl
@[simp] theorem list_app : (T.den Φ ρ (.c2 .app x y)).list = (T.den Φ ρ x).list ++ (T.den Φ ρ y).list := rfl
@[simp] theorem list_set : (T.den Φ ρ (.set x y z)).list = (T.den Φ ρ x).list.set (T.den Φ ρ y).int.toNat (T.den Φ ρ z).int := rfl
@[simp] theorem le_t : (T.den Φ ρ (.c2 .le x y)).bool = true ↔ (T.den Φ ρ x).int ≤ (T.den Φ ρ y).int := decide_eq_true_iff
@[simp] theorem le_f : (T.den Φ ρ (.c2 .le x y)).bool = false ↔ (T.den Φ ρ y).int < (T.den Φ ρ x).int := by simp [T.den, O2.den]
@[simp] theorem lt_t : (T.den Φ ρ (.c2 .lt x y)).bool = true ↔ (T.den Φ ρ x).int < (T.den Φ ρ y).int := decide_eq_true_iff
@[simp] theorem lt_f : (T.den Φ ρ (.c2 .lt x y)).bool = false ↔ (T.den Φ ρ y).int ≤ (T.den Φ ρ x).int := by simp [T.den, O2.den]
@[simp] theorem eq_t : (T.den Φ ρ (.c2 .eq x y)).bool = true ↔ (T.den Φ ρ x).int = (T.den Φ ρ y).int := by simp [T.den, O2.den]
@[simp] theorem eq_f : (T.den Φ ρ (.c2 .eq x y)).bool = false ↔ ¬ (T.den Φ ρ x).int = (T.den Φ ρ y).int := by simp [T.den, O2.den]
@[simp] theorem leq_t : (T.den Φ ρ (.c2 .leq x y)).bool = true ↔ (T.den Φ ρ x).list = (T.den Φ ρ y).list := by simp [T.den, O2.den]
@[simp] theorem leq_f : (T.den Φ ρ (.c2 .leq x y)).bool = false ↔ ¬ (T.den Φ ρ x).list = (T.den Φ ρ y).list := by simp [T.den, O2.den]
@[simp] theorem not_t : (T.den Φ ρ (.c1 .not x)).bool = true ↔ (T.den Φ ρ x).bool = false := by simp [T.den, U1.den]
@[simp] theorem not_f : (T.den Φ ρ (.c1 .not x)).bool = false ↔ (T.den Φ ρ x).bool = true := by simp [T.den, U1.den]
@[simp] theorem and_t : (T.den Φ ρ (.c2 .and x y)).bool = true ↔ (T.den Φ ρ x).bool = true ∧ (T.den Φ ρ y).bool = true := by simp [T.den, O2.den]
@[simp] theorem and_f : (T.den Φ ρ (.c2 .and x y)).bool = false ↔ ((T.den Φ ρ x).bool = true → (T.den Φ ρ y).bool = false) := by
 cases h : (T.den Φ ρ x).bool <;> simp [T.den, O2.den, h]
@[simp] theorem bytes_t : (T.den Φ ρ (.c1 (.kin [.u8]) x)).bool = true ↔ Bytes (T.den Φ ρ x).list := bytes_iff
end
@[simp] theorem fdiv_lit (a : Int) (n : Nat) : a.fdiv (no_index (OfNat.ofNat n)) = a / (OfNat.ofNat n) := Int.fdiv_eq_ediv_of_nonneg a (Int.natCast_nonneg n)
theorem leaf_true {Φ : Sig} {ρ ρ' : Env} {nb n nv : Nat} {t : T} {tm : List (Nat × V)} {fa : Facts} (h : (t.den Φ ρ').bool = true) (hn : n ≤ nb) : Leaf Φ ρ ρ' ⟨.c (.b (.bol true)), [], nb⟩ (.w (.c (.b t)), ⟨tm, [], n, nv, fa⟩) :=
 ⟨h, trivial, hn⟩
theorem upd_at {ρ : Env} {b : Nat} {ds : List D} {i : Nat} (h : i < ds.length) : upd ρ b ds (b + i) = nthD ds i := by
 unfold upd; rw [if_pos (by omega), Nat.add_sub_cancel_left]
theorem byte_rd {l : List Int} (h : Bytes l) (i : Nat) : 0 ≤ l[i]?.getD 0 ∧ l[i]?.getD 0 ≤ 255 := by
 by_cases hi : i < l.length
 · rw [List.getElem?_eq_getElem hi]
   have := h _ (List.getElem_mem hi)
   simp; omega
 · rw [List.getElem?_eq_none (by omega)]; simp
theorem set_bytes {l : List Int} {i : Nat} {x : Int} (h : Bytes l) (hx : 0 ≤ x ∧ x < 256) : Bytes (l.set i x) := by
 intro z hz
 rcases List.mem_or_eq_of_mem_set hz with h1 | h1
 · exact h z h1
 · rw [h1]; exact hx
theorem cons_take {l r : List Int} {x : Int} {k n : Nat} (hk : k < l.length) (hx : x = l[k]?.getD 0) (hr : r = (l.drop (k + 1)).take n) : x :: r = (l.drop k).take (n + 1) := by
 rw [List.drop_eq_getElem_cons hk, List.take_succ_cons, hr, hx, List.getElem?_eq_getElem hk]; rfl
def eqJ : Inv := ⟨fun _ ρ ds => ∃ i : Nat, ds = [.i i] ∧ i ≤ (ρ 0).list.length ∧ (ρ 0).list.length = (ρ 1).list.length ∧ (ρ 0).list.length ≤ 140737488351232 ∧ (ρ 0).list.take i = (ρ 1).list.take i, fun _ ρ ds => (ρ 0).list.length - (nthD ds 0).int.toNat⟩
theorem take_more {a b : List Int} {i : Nat} (h : a.take i = b.take i) (ha : i < a.length) (hb : i < b.length) (e : a.getD i 0 = b.getD i 0) : a.take (i + 1) = b.take (i + 1) := by
 rw [List.take_add_one, List.take_add_one, h]
 rw [List.getD_eq_getElem?_getD, List.getD_eq_getElem?_getD, List.getElem?_eq_getElem ha, List.getElem?_eq_getElem hb] at e
 simp only [Option.getD_some] at e
 rw [List.getElem?_eq_getElem ha, List.getElem?_eq_getElem hb, e]
def eqTree : M (V × St) :=
(.split (.c1 .not (.c2 .eq (.c1 .len (.var 0)) (.c1 .len (.var 1))))
 (.ret (.w (.c (.b (.bol false))), ⟨[], [], 2, 2, []⟩))
 (.loop 0 2 1 [(.num 0)] [((.c2 .le (.num 0) (.var 2)), true)]
 (.split (.c2 .lt (.var 2) (.c1 .len (.var 0)))
  (.chk (.c2 .lt (.var 2) (.c1 .len (.var 1)))
  (.split (.c1 .not (.c2 .eq (.c2 .rd (.var 0) (.var 2)) (.c2 .rd (.var 1) (.var 2))))
   (.ret (.w (.c (.b (.bol false))), ⟨[], [], 2, 3, []⟩))
   (.back 0 2 [(.wr .i64 (.c2 .add (.var 2) (.num 1)))])))
  (.ret (.w (.c (.b (.bol true))), ⟨[], [], 2, 3, []⟩)))))
theorem eq_ok {P : Program} {Φ : Sig} {A : Anns} {d : Nat} {f : FuncId} (hev : funTree (ctxN P A [] d) A f tEq.vs tEq.bs tEq.n (preF tEq.res) = eqTree) : TmplOk P Φ f tEq := by
 refine tmpl_of noCons hev (fun ρ res hres => ⟨eqJ, ?_⟩)
 obtain ⟨h0, hres⟩ := short_some hres
 obtain ⟨h1, hres⟩ := short_some hres
 obtain rfl := ret_some hres
 generalize ha : (ρ 0).list = a at h0
 generalize hb : (ρ 1).list = b at h1
 refine ⟨fun h => ?_, fun h => ?_⟩
 · simp only [T.den, U1.den, O2.den, D.bool_b, D.int_i, ha, hb] at h
   refine ⟨?_, trivial, Nat.le_refl _⟩
   show false = decide _
   simp only [T.den, ha, hb]
   rw [eq_comm, decide_eq_false_iff_not]
   intro e; rw [e] at h; simp at h
 · simp only [T.den, U1.den, O2.den, D.bool_b, D.int_i, ha, hb] at h
   have hl : a.length = b.length := by simp at h; omega
   refine ⟨⟨0, rfl, by simp, by rw [ha, hb]; exact hl, by rw [ha]; exact h0, by simp⟩, ?_⟩
   rintro ds hn ⟨i, rfl, hi, _, _, ht⟩
   have e2 : upd ρ 2 [D.i (i : Int)] 2 = .i i := rfl
   have e0 : upd ρ 2 [D.i (i : Int)] 0 = ρ 0 := rfl
   have e1 : upd ρ 2 [D.i (i : Int)] 1 = ρ 1 := rfl
   refine ⟨?_, fun h2 => ⟨?_, fun h3 => ?_, fun h3 => ?_⟩, fun h2 => ?_⟩
   · intro t p hm
     simp only [List.mem_singleton, Prod.mk.injEq] at hm
     obtain ⟨rfl, rfl⟩ := hm
     simp [T.den, O2.den, e2]
   · simp [T.den, O2.den, U1.den, e0, e1, e2, ha, hb] at h2 ⊢
     omega
   · simp [T.den, O2.den, U1.den, e0, e1, e2, ha, hb] at h2 h3
     refine ⟨?_, trivial, Nat.le_refl _⟩
     show false = decide _
     simp only [T.den, ha, hb]
     rw [eq_comm, decide_eq_false_iff_not]
     intro e; rw [e] at h3; exact h3 rfl
   · simp [T.den, O2.den, U1.den, e0, e1, e2, ha, hb] at h2 h3
     rw [ha] at hi ht
     rw [hb] at ht
     have hw : IntKind.i64.wrap ((i : Int) + 1) = ((i + 1 : Nat) : Int) := by rw [wrap64_id (by omega) (by omega)]; rfl
     have hsub : [(T.wr .i64 (.c2 .add (.var 2) (.num 1)))].map (T.den Φ (upd ρ 2 [D.i (i : Int)])) = [D.i ((i + 1 : Nat) : Int)] := by
       simp only [List.map, T.den, O2.den, e2, D.int_i, hw]
     show BK.at_ _ 2 _ 2 _
     rw [hsub]
     simp only [BK.at_, if_true]
     refine ⟨⟨i + 1, rfl, by rw [ha]; omega, by rw [ha, hb]; exact hl, by rw [ha]; exact h0, ?_⟩, ?_⟩
     · rw [ha, hb]; exact take_more ht h2 (by omega) h3
     · simp only [eqJ, nthD, D.int_i, ha]; omega
   · simp [T.den, O2.den, U1.den, e0, e1, e2, ha, hb] at h2
     rw [ha] at hi ht
     rw [hb] at ht
     have : i = a.length := by omega
     subst this
     refine ⟨?_, trivial, Nat.le_refl _⟩
     show true = decide _
     simp only [T.den, ha, hb]
     rw [eq_comm, decide_eq_true_iff]
     rw [List.take_length, List.take_of_length_le (by omega)] at ht
     exact ht
end Go.Proofs.YtfhjlimdakphcaaGreat.Sx
set_option linter.unusedVariables false
namespace Go.Proofs.YtfhjlimdakphcaaGreat.Sx
open Go
def sumT (l : T) : T := .wr .u16 (.fn 1 l .nil .nil)
def ocsT (x : T) : T := .wr .u16 (.fn 2 x .nil .nil)
def annsSm : Anns := fun f i S => match f, i with
 | 162, 1 => .inv 0 ⟨[(0, .c (.i .u64 (.var S.nv)))], [], [], 1, [(.c2 .le (.num 0) (.var S.nv), true), (.c2 .le (.var S.nv) (.num 18446744073709551615), true)]⟩
 | 161, 3 => .inv 0 ⟨[(3, .c (.i .u64 (.var S.nv))), (8, .c (.i .i64 (.var (S.nv + 1))))], [], [], 2, [(.c2 .le (.num 0) (.var S.nv), true), (.c2 .le (.var S.nv) (.num 10000000000000000000), true), (.c2 .le (.num 0) (.var (S.nv + 1)), true)]⟩
 | 153, 3 => .inv 0 ⟨[(3, .c (.i .i64 (.var S.nv))), (4, .c (.i .i64 (.var (S.nv + 1))))], [], [], 2, [(.c2 .le (.num 0) (.var S.nv), true), (.c2 .le (.var S.nv) (.num 65535), true), (.c2 .le (.num 0) (.var (S.nv + 1)), true)]⟩
 | _, _ => .unroll 40
def tFold : Tmpl := ⟨[.c (.i .u64 (.var 0))], [], 1, inR 0 0 18446744073709551615 (.ret ⟨.c (.i .u16 (ocsT (.var 0))), [], 0⟩)⟩
def tSum : Tmpl := ⟨[slc 0 0], [(0, rowB 0)], 1, short 0 (bytes 0 (.ret ⟨.c (.i .u16 (sumT (.var 0))), [], 1⟩))⟩
def consFold : List (Nat × Con) := [(162, tFold.con)]
end Go.Proofs.YtfhjlimdakphcaaGreat.Sx
set_option linter.unusedVariables false
set_option linter.unusedSimpArgs false
namespace Go.Proofs.YtfhjlimdakphcaaGreat.Sx
open Go
def wsum : List Int → Int
 | [] => 0
 | [a] => a * 256
 | a :: b :: r => a * 256 + b + wsum r
def ocs (n : Int) : Int := if n ≤ 0 then 0 else (n - 1) % 65535 + 1
theorem ocs_range (n : Int) : 0 ≤ ocs n ∧ ocs n ≤ 65535 := by unfold ocs; split <;> omega
theorem ocs_id {n : Int} (h0 : 0 ≤ n) (h1 : n ≤ 65535) : ocs n = n := by unfold ocs; split <;> omega
theorem ocs_fold {n : Int} (h : 65535 < n) : ocs (n / 65536 + (n - n / 65536 * 65536)) = ocs n := by unfold ocs; split <;> split <;> omega
theorem wsum_range {l : List Int} (h : Bytes l) : 0 ≤ wsum l ∧ 2 * wsum l ≤ 65535 * (l.length + 1) := by
 have : ∀ (n : Nat) (l : List Int), l.length ≤ n → Bytes l → 0 ≤ wsum l ∧ 2 * wsum l ≤ 65535 * (l.length + 1) := by
   intro n
   induction n with
   | zero => intro l hl _; have : l = [] := List.eq_nil_of_length_eq_zero (by omega); subst this; simp [wsum]
   | succ n ih =>
     intro l hl hb
     match l, hl, hb with
     | [], _, _ => simp [wsum]
     | [a], _, hb => have := hb a (by simp); simp [wsum]; omega
     | a :: b :: r, hl, hb =>
       have h1 := hb a (by simp)
       have h2 := hb b (by simp)
       have h3 := ih r (by simp at hl; omega) (fun z hz => hb z (by simp [hz]))
       simp [wsum]; omega
 exact this _ l (Nat.le_refl _) h
theorem wsum_two : ∀ (i : Nat) (l : List Int), 2 * i + 1 < l.length → wsum (l.take (2 * i + 2)) = wsum (l.take (2 * i)) + (l[2 * i]?.getD 0 * 256 + l[2 * i + 1]?.getD 0)
 | 0, l, h => by
   match l, h with
   | a :: b :: r, _ => simp [wsum]
 | i + 1, l, h => by
   match l, h with
   | a :: b :: r, h =>
     have := wsum_two i r (by simp at h; omega)
     rw [show 2 * (i + 1) + 2 = (2 * i + 2) + 1 + 1 from by omega, show 2 * (i + 1) = 2 * i + 1 + 1 from by omega, show 2 * i + 1 + 1 + 1 = (2 * i + 1) + 1 + 1 from by omega]
     simp only [List.take_succ_cons, wsum, List.getElem?_cons_succ, this]
     omega
theorem wsum_last : ∀ (i : Nat) (l : List Int), l.length = 2 * i + 1 → wsum l = wsum (l.take (2 * i)) + l[2 * i]?.getD 0 * 256
 | 0, l, h => by
   match l, h with
   | [a], _ => simp [wsum]
 | i + 1, l, h => by
   match l, h with
   | a :: b :: r, h =>
     have := wsum_last i r (by simp at h; omega)
     rw [show 2 * (i + 1) = 2 * i + 1 + 1 from by omega]
     simp only [List.take_succ_cons, wsum, List.getElem?_cons_succ]
     rw [this]
     omega
theorem wsum_one (i : Nat) (l : List Int) (h : i < l.length) : wsum (l.take (i + 1)) = wsum (l.take i) + (if i % 2 = 0 then l[i]?.getD 0 * 256 else l[i]?.getD 0) := by
 by_cases hi : i % 2 = 0
 · rw [if_pos hi]
   obtain ⟨k, rfl⟩ : ∃ k, i = 2 * k := ⟨i / 2, by omega⟩
   have := wsum_last k (l.take (2 * k + 1)) (by simp; omega)
   rw [this, List.take_take, Nat.min_eq_left (by omega), List.getElem?_take, if_pos (by omega)]
 · rw [if_neg hi]
   obtain ⟨k, rfl⟩ : ∃ k, i = 2 * k + 1 := ⟨i / 2, by omega⟩
   have h1 := wsum_two k l (by omega)
   have h2 := wsum_last k (l.take (2 * k + 1)) (by simp; omega)
   rw [List.take_take, Nat.min_eq_left (by omega), List.getElem?_take, if_pos (by omega)] at h2
   rw [show 2 * k + 1 + 1 = 2 * k + 2 from rfl, h1, h2]
   omega
structure SumSig (Φ : Sig) : Prop where
 sum : ∀ x y z, Φ 1 x y z = .i (ocs (wsum x.list))
 ocs : ∀ x y z, Φ 2 x y z = .i (ocs x.int)
theorem wrap_ocs (n : Int) : IntKind.u16.wrap (ocs n) = ocs n := wrap_is (k := .u16) (ocs_range n).1 (ocs_range n).2
end Go.Proofs.YtfhjlimdakphcaaGreat.Sx
set_option maxRecDepth 100000
namespace Go.Proofs.YtfhjlimdakphcaaGreat.Sx
open Go
def treeSmFold : M (V × St) :=
(.loop 0 1 1 [(.var 0)] [((.c2 .le (.num 0) (.var 1)), true), ((.c2 .le (.var 1) (.num 18446744073709551615)), true)]
 (.split (.c2 .lt (.num 65535) (.var 1))
 (.back 0 1 [(.c2 .add (.c2 .fdiv (.var 1) (.num 65536)) (.c2 .sub (.var 1) (.c2 .mul (.c2 .fdiv (.var 1) (.num 65536)) (.num 65536))))])
 (.ret (.w (.c (.i .u16 (.var 1))), ⟨[], [], 0, 2, []⟩))))
theorem treeSmFold_is : funTree (ctxN Go.Proofs.Tryz.prog annsSm [] 8) annsSm 162 tFold.vs tFold.bs tFold.n (preF tFold.res) = treeSmFold := by kernel_rfl
end Go.Proofs.YtfhjlimdakphcaaGreat.Sx
set_option maxRecDepth 100000
namespace Go.Proofs.YtfhjlimdakphcaaGreat.Sx
open Go
def treeSmSum : M (V × St) :=
(.loop 0 1 2 [(.num 0), (.num 0)] [((.c2 .le (.num 0) (.var 1)), true), ((.c2 .le (.var 1) (.num 10000000000000000000)), true), ((.c2 .le (.num 0) (.var 2)), true)]
 (.split (.c2 .lt (.var 2) (.c2 .fdiv (.c1 .len (.var 0)) (.num 2)))
 (.chk (.c2 .le (.num 0) (.wr .i64 (.c2 .mul (.var 2) (.num 2))))
 (.chk (.c2 .lt (.wr .i64 (.c2 .mul (.var 2) (.num 2))) (.c1 .len (.var 0)))
 (.chk (.c2 .le (.num 0) (.wr .i64 (.c2 .add (.wr .i64 (.c2 .mul (.var 2) (.num 2))) (.num 1))))
 (.chk (.c2 .lt (.wr .i64 (.c2 .add (.wr .i64 (.c2 .mul (.var 2) (.num 2))) (.num 1))) (.c1 .len (.var 0)))
 (.back 0 1 [(.c2 .add (.var 1) (.c2 .add (.c2 .mul (.c2 .rd (.var 0) (.wr .i64 (.c2 .mul (.var 2) (.num 2)))) (.num 256)) (.c2 .rd (.var 0) (.wr .i64 (.c2 .add (.wr .i64 (.c2 .mul (.var 2) (.num 2))) (.num 1)))))), (.wr .i64 (.c2 .add (.var 2) (.num 1)))])))))
 (.split (.c2 .eq (.c2 .sub (.c1 .len (.var 0)) (.c2 .mul (.c2 .fdiv (.c1 .len (.var 0)) (.num 2)) (.num 2))) (.num 1))
 (.ret (.w (.c (.i .u16 (.wr .u16 (.fn 2 (.c2 .add (.var 1) (.c2 .mul (.c2 .rd (.var 0) (.c2 .sub (.c1 .len (.var 0)) (.num 1))) (.num 256))) .nil .nil)))), ⟨[], [], 1, 3, []⟩))
 (.ret (.w (.c (.i .u16 (.wr .u16 (.fn 2 (.var 1) .nil .nil)))), ⟨[], [], 1, 3, []⟩)))))
theorem treeSmSum_is : funTree (ctxN Go.Proofs.Tryz.prog annsSm consFold 8) annsSm 161 tSum.vs tSum.bs tSum.n (preF tSum.res) = treeSmSum := by kernel_rfl
end Go.Proofs.YtfhjlimdakphcaaGreat.Sx
set_option maxRecDepth 100000
namespace Go.Proofs.YtfhjlimdakphcaaGreat.Sx
open Go
def treeSmRef : M (V × St) :=
(.loop 0 1 2 [(.num 0), (.num 0)] [((.c2 .le (.num 0) (.var 1)), true), ((.c2 .le (.var 1) (.num 65535)), true), ((.c2 .le (.num 0) (.var 2)), true)]
 (.split (.c2 .lt (.var 2) (.c1 .len (.var 0)))
 (.split (.c2 .eq (.c2 .sub (.var 2) (.c2 .mul (.c2 .fdiv (.var 2) (.num 2)) (.num 2))) (.num 0))
 (.split (.c2 .lt (.num 65535) (.c2 .add (.var 1) (.c2 .mul (.c2 .rd (.var 0) (.var 2)) (.num 256))))
 (.back 0 1 [(.c2 .sub (.c2 .add (.var 1) (.c2 .mul (.c2 .rd (.var 0) (.var 2)) (.num 256))) (.num 65535)), (.wr .i64 (.c2 .add (.var 2) (.num 1)))])
 (.back 0 1 [(.c2 .add (.var 1) (.c2 .mul (.c2 .rd (.var 0) (.var 2)) (.num 256))), (.wr .i64 (.c2 .add (.var 2) (.num 1)))]))
 (.split (.c2 .lt (.num 65535) (.c2 .add (.var 1) (.c2 .rd (.var 0) (.var 2))))
 (.back 0 1 [(.c2 .sub (.c2 .add (.var 1) (.c2 .rd (.var 0) (.var 2))) (.num 65535)), (.wr .i64 (.c2 .add (.var 2) (.num 1)))])
 (.back 0 1 [(.c2 .add (.var 1) (.c2 .rd (.var 0) (.var 2))), (.wr .i64 (.c2 .add (.var 2) (.num 1)))])))
 (.ret (.w (.c (.i .u16 (.var 1))), ⟨[], [], 1, 3, []⟩))))
theorem treeSmRef_is : funTree (ctxN Go.Proofs.Tryz.prog annsSm [] 8) annsSm 153 tSum.vs tSum.bs tSum.n (preF tSum.res) = treeSmRef := by kernel_rfl
end Go.Proofs.YtfhjlimdakphcaaGreat.Sx
set_option linter.unusedVariables false
set_option linter.unusedSimpArgs false
namespace Go.Proofs.YtfhjlimdakphcaaGreat.Sx
open Go
section
variable {Φ : Sig}
def foldJ : Inv := ⟨fun _ ρ ds => 0 ≤ (nthD ds 0).int ∧ (nthD ds 0).int ≤ 18446744073709551615 ∧ ocs (nthD ds 0).int = ocs (ρ 0).int, fun _ ρ ds => (nthD ds 0).int.toNat⟩
theorem fold_ok (hΦ : SumSig Φ) : TmplOk Go.Proofs.Tryz.prog Φ 162 tFold := by
 refine tmpl_of noCons treeSmFold_is (fun ρ res hres => ⟨foldJ, ?_⟩)
 obtain ⟨h0, h1, hres⟩ := inR_some hres
 obtain rfl := ret_some hres
 refine ⟨⟨h0, h1, rfl⟩, ?_⟩
 rintro ds hlen ⟨i0, i1, i2⟩
 have e0 : upd ρ 1 ds 0 = ρ 0 := upd_lo ds (by decide)
 have e1 : upd ρ 1 ds 1 = nthD ds 0 := upd_at (i := 0) (by omega)
 generalize hn : (nthD ds 0).int = n at *
 refine ⟨?_, fun c => ?_, fun c => ?_⟩
 · intro t p hm
   simp only [List.mem_cons, Prod.mk.injEq, List.not_mem_nil, or_false] at hm
   rcases hm with ⟨rfl, rfl⟩ | ⟨rfl, rfl⟩ <;> simp [e1, hn] <;> omega
 · simp [e1, hn] at c
   show BK.at_ _ 1 _ 1 _
   simp only [BK.at_, if_true, foldJ, List.map, nthD, int_add, int_sub, int_mul, int_fdiv, den_var, den_num, D.int_i, fdiv_lit, e1, hn]
   refine ⟨⟨by omega, by omega, ?_⟩, by omega⟩
   rw [← i2]; exact ocs_fold c
 · simp [e1, hn] at c
   refine ⟨⟨rfl, ?_⟩, trivial, Nat.le_refl _⟩
   show (T.den Φ (upd ρ 1 ds) (.var 1)).int = (T.den Φ ρ (ocsT (.var 0))).int
   simp only [ocsT, den_var, int_wr, den_fn, hΦ.ocs, D.int_i, e1, hn, wrap_ocs, ← i2]
   exact (ocs_id i0 c).symm
def sumJ : Inv := ⟨fun _ ρ ds => ∃ i : Nat, (nthD ds 1).int = i ∧ 2 * i ≤ (ρ 0).list.length ∧ (nthD ds 0).int = wsum ((ρ 0).list.take (2 * i)), fun _ ρ ds => (ρ 0).list.length - (nthD ds 1).int.toNat⟩
theorem sum_ok (hΦ : SumSig Φ) : TmplOk Go.Proofs.Tryz.prog Φ 161 tSum := by
 refine tmpl_of (moreCons (con_ok (fold_ok hΦ)) noCons) treeSmSum_is (fun ρ res hres => ⟨sumJ, ?_⟩)
 obtain ⟨h0, hres⟩ := short_some hres
 obtain ⟨hb, hres⟩ := bytes_some hres
 obtain rfl := ret_some hres
 refine ⟨⟨0, rfl, by simp, by simp [wsum, nthD]⟩, ?_⟩
 rintro ds hlen ⟨i, hi, hil, hs⟩
 have e0 : upd ρ 1 ds 0 = ρ 0 := upd_lo ds (by decide)
 have e1 : upd ρ 1 ds 1 = nthD ds 0 := upd_at (i := 0) (by omega)
 have e2 : upd ρ 1 ds 2 = nthD ds 1 := upd_at (i := 1) (by omega)
 generalize hl : (ρ 0).list = l at *
 have hbt : Bytes (l.take (2 * i)) := fun z hz => hb z (List.mem_of_mem_take hz)
 have hr := wsum_range hbt
 rw [List.length_take, Nat.min_eq_left hil] at hr
 have hw : ∀ z : Int, 0 ≤ z → z ≤ 9223372036854775807 → IntKind.i64.wrap z = z := fun z a b => wrap_is (by simp [kmin]; omega) (by simp [kmax]; omega)
 refine ⟨?_, fun c => ?_, fun c => ?_⟩
 · intro t p hm
   simp only [List.mem_cons, Prod.mk.injEq, List.not_mem_nil, or_false] at hm
   rcases hm with ⟨rfl, rfl⟩ | ⟨rfl, rfl⟩ | ⟨rfl, rfl⟩ <;> simp [e1, e2, hs, hi] <;> omega
 · simp [e0, e2, hi, hl] at c
   have w1 : IntKind.i64.wrap ((i : Int) * 2) = (i : Int) * 2 := hw _ (by omega) (by omega)
   have w2 : IntKind.i64.wrap ((i : Int) * 2 + 1) = (i : Int) * 2 + 1 := hw _ (by omega) (by omega)
   have w3 : IntKind.i64.wrap ((i : Int) + 1) = (i : Int) + 1 := hw _ (by omega) (by omega)
   have t1 : ((i : Int) * 2).toNat = 2 * i := by omega
   have t2 : ((i : Int) * 2 + 1).toNat = 2 * i + 1 := by omega
   refine ⟨?_, ?_, ?_, ?_, ?_⟩
   · simp [e2, hi, w1]; omega
   · simp [e0, e2, hi, w1, hl]; omega
   · simp [e2, hi, w1, w2]; omega
   · simp [e0, e2, hi, w1, w2, hl]; omega
   · show BK.at_ _ 1 _ 1 _
     simp only [BK.at_, if_true, sumJ, List.map, nthD, int_add, int_sub, int_mul, int_fdiv, int_wr, int_rd, den_var, den_num, D.int_i, e0, e1, e2, hs, hi, w1, w2, w3, t1, t2, hl]
     refine ⟨⟨i + 1, by omega, by omega, ?_⟩, by omega⟩
     rw [show 2 * (i + 1) = 2 * i + 2 from by omega, wsum_two i l (by omega)]
 · simp [e0, e2, hi, hl] at c
   refine ⟨fun d => ?_, fun d => ?_⟩
   · simp [e0, hl] at d
     refine ⟨⟨rfl, ?_⟩, trivial, Nat.le_refl _⟩
     have hx : ((l.length : Int) - 1).toNat = 2 * i := by omega
     show (T.den Φ (upd ρ 1 ds) (ocsT (.c2 .add (.var 1) (.c2 .mul (.c2 .rd (.var 0) (.c2 .sub (.c1 .len (.var 0)) (.num 1))) (.num 256))))).int = (T.den Φ ρ (sumT (.var 0))).int
     simp only [ocsT, sumT, den_var, int_wr, den_fn, hΦ.ocs, hΦ.sum, D.int_i, int_add, int_mul, int_rd, int_sub, int_len, den_num, e0, e1, hs, hl, wrap_ocs, hx]
     rw [wsum_last i l (by omega)]
   · simp [e0, hl] at d
     refine ⟨⟨rfl, ?_⟩, trivial, Nat.le_refl _⟩
     show (T.den Φ (upd ρ 1 ds) (ocsT (.var 1))).int = (T.den Φ ρ (sumT (.var 0))).int
     simp only [ocsT, sumT, den_var, int_wr, den_fn, hΦ.ocs, hΦ.sum, D.int_i, e1, hs, hl, wrap_ocs]
     rw [List.take_of_length_le (by omega)]
def refJ : Inv := ⟨fun _ ρ ds => ∃ i : Nat, (nthD ds 1).int = i ∧ i ≤ (ρ 0).list.length ∧ (nthD ds 0).int = ocs (wsum ((ρ 0).list.take i)), fun _ ρ ds => (ρ 0).list.length - (nthD ds 1).int.toNat⟩
theorem ocs_more {n a : Int} (hn : 0 ≤ n) (ha : 0 ≤ a) (h : ocs n + a ≤ 65535) : ocs n + a = ocs (n + a) := by unfold ocs at *; split at h <;> split <;> omega
theorem ocs_over {n a : Int} (hn : 0 ≤ n) (ha : 0 ≤ a) (h1 : a ≤ 65535) (h : 65535 < ocs n + a) : ocs n + a - 65535 = ocs (n + a) := by unfold ocs at *; split at h <;> split <;> omega
theorem sumRef_ok (hΦ : SumSig Φ) : TmplOk Go.Proofs.Tryz.prog Φ 153 tSum := by
 refine tmpl_of noCons treeSmRef_is (fun ρ res hres => ⟨refJ, ?_⟩)
 obtain ⟨h0, hres⟩ := short_some hres
 obtain ⟨hb, hres⟩ := bytes_some hres
 obtain rfl := ret_some hres
 refine ⟨⟨0, rfl, by simp, by simp [wsum, nthD, ocs]⟩, ?_⟩
 rintro ds hlen ⟨i, hi, hil, hs⟩
 have e0 : upd ρ 1 ds 0 = ρ 0 := upd_lo ds (by decide)
 have e1 : upd ρ 1 ds 1 = nthD ds 0 := upd_at (i := 0) (by omega)
 have e2 : upd ρ 1 ds 2 = nthD ds 1 := upd_at (i := 1) (by omega)
 generalize hl : (ρ 0).list = l at *
 have hbt : Bytes (l.take i) := fun z hz => hb z (List.mem_of_mem_take hz)
 have hr := wsum_range hbt
 have ho := ocs_range (wsum (l.take i))
 have hbi := byte_rd hb i
 refine ⟨?_, fun c => ?_, fun c => ?_⟩
 · intro t p hm
   simp only [List.mem_cons, Prod.mk.injEq, List.not_mem_nil, or_false] at hm
   rcases hm with ⟨rfl, rfl⟩ | ⟨rfl, rfl⟩ | ⟨rfl, rfl⟩ <;> simp [e1, e2, hs, hi] <;> omega
 · simp [e0, e2, hi, hl] at c
   have w3 : IntKind.i64.wrap ((i : Int) + 1) = (i : Int) + 1 := wrap_is (by simp [kmin]; omega) (by simp [kmax]; omega)
   have one := wsum_one i l c
   have back : ∀ (t : T), (T.den Φ (upd ρ 1 ds) t).int = ocs (wsum (l.take (i + 1))) → ∀ B : BK, M.ok (α := V × St) Φ refJ (.back 0 1 [t, (.wr .i64 (.c2 .add (.var 2) (.num 1)))]) (B.at_ 1 fun ds' => refJ.I 0 ρ ds' ∧ refJ.μ 0 ρ ds' < refJ.μ 0 ρ ds) (upd ρ 1 ds) (fun _ ρ' r => Leaf Φ ρ ρ' ⟨.c (.i .u16 (sumT (.var 0))), [], 1⟩ r) := by
     intro t ht B
     show BK.at_ _ 1 _ 1 _
     simp only [BK.at_, if_true, refJ, List.map, nthD, ht, int_wr, int_add, den_var, den_num, D.int_i, e2, hi, hl, w3]
     exact ⟨⟨i + 1, by omega, by omega, rfl⟩, by omega⟩
   refine ⟨fun d => ⟨fun f => back _ ?_ _, fun f => back _ ?_ _⟩, fun d => ⟨fun f => back _ ?_ _, fun f => back _ ?_ _⟩⟩
   all_goals
     simp [e0, e1, e2, hs, hi, hl] at d f ⊢
   · rw [if_pos (by omega)] at one
     rw [one]; exact ocs_over hr.1 (by omega) (by omega) f
   · rw [if_pos (by omega)] at one
     rw [one]; exact ocs_more hr.1 (by omega) (by omega)
   · rw [if_neg (by omega)] at one
     rw [one]; exact ocs_over hr.1 (by omega) (by omega) f
   · rw [if_neg (by omega)] at one
     rw [one]; exact ocs_more hr.1 (by omega) (by omega)
 · simp [e0, e2, hi, hl] at c
   refine ⟨⟨rfl, ?_⟩, trivial, Nat.le_refl _⟩
   show (T.den Φ (upd ρ 1 ds) (.var 1)).int = (T.den Φ ρ (sumT (.var 0))).int
   simp only [sumT, den_var, int_wr, den_fn, hΦ.sum, D.int_i, e1, hs, hl, wrap_ocs]
   rw [List.take_of_length_le (by omega)]
end
end Go.Proofs.YtfhjlimdakphcaaGreat.Sx
set_option linter.unusedVariables false
namespace Go.Proofs.YtfhjlimdakphcaaGreat.Sx
open Go
def kLink : List IntKind := [.u8, .u8, .u8, .u8, .u8, .u8, .u8, .u8, .u8, .u8, .u8, .u8, .u16]
def kTag : List IntKind := [.u8, .u16, .u16]
def kNet4 : List IntKind := [.u8, .u8, .u8, .u16, .u8, .u8, .u8, .u8, .u8, .u8, .u8, .u8]
def kNet6 : List IntKind := [.u8, .u32, .u8, .u8, .u8, .u8, .u8, .u8, .u8, .u8, .u8, .u8, .u8, .u8, .u8, .u8, .u8, .u8, .u8, .u8, .u8, .u8, .u8, .u8, .u8, .u8, .u8, .u8, .u8, .u8, .u8, .u8, .u8, .u8, .u8, .u8]
def kSeg : List IntKind := [.u16, .u16, .u32, .u32, .u8, .u16]
def kDgram : List IntKind := [.u16, .u16]
def fn1 (f : Nat) (x : T) : T := .fn f x .nil .nil
def rdCells (F : T) : Nat → List IntKind → List C
 | _, [] => []
 | i, k :: ks => .i k (.wr k (.c2 .rd F (.num (.ofNat i)))) :: rdCells F (i + 1) ks
def varsT (b : Nat) : Nat → T
 | 0 => .nil
 | n + 1 => .cons (.var b) (varsT (b + 1) n)
def tRead (k nb : Nat) (ks : List IntKind) : Tmpl := ⟨[slc 0 0], [(0, rowB 0)], 1, short 0 (bytes 0 (.ret ⟨.t [.g (rdCells (fn1 (10 + k) (.var 0)) 0 ks), .c (.i .i64 (fn1 (20 + k) (.var 0)))], [], nb⟩))⟩
def wrErr (k n : Nat) : T := .fn (40 + k) (varsT 0 n) (.var n) .nil
def wrRow (k n : Nat) : T := .fn (30 + k) (varsT 0 n) (.var n) .nil
def wrRes (k j nb sz n : Nat) : O Res :=
 .split (.c2 .eq (wrErr k n) (.num 0))
   (.chk (.c1 (.kin [.u8]) (wrRow k n)) (.chk (.c2 .eq (.c1 .len (wrRow k n)) (.num (.ofNat sz))) (.ret ⟨.t [.c (.s j 1 0 (.num 0) (.num (.ofNat sz))), .c (.i .i64 (.num 0))], [(j, some ⟨true, .row [.u8] (wrRow k n)⟩)], nb⟩)))
   (.ret ⟨.t [.c .sn, .c (.i .i64 (wrErr k n))], [], nb⟩)
def tBytes (k j nb sz : Nat) (ks : List IntKind) : Tmpl := ⟨[.w (.g (cellsV 0 ks)), slc 0 (lenN ks)], [(0, rowB (lenN ks))], lenN ks + 1, inKs 0 ks (short (lenN ks) (bytes (lenN ks) (wrRes k j nb sz (lenN ks))))⟩
def consSum : List (Nat × Con) := [(161, tSum.con), (162, tFold.con), (153, tSum.con)]
def tClone : Tmpl := ⟨[slc 0 0], [(0, rowB 0)], 1, short 0 (.ret ⟨.c (.s 1 1 0 (.num 0) (.c1 .len (.var 0))), [(1, some ⟨true, .row [.u8] (.var 0)⟩)], 2⟩)⟩
def annsHd : Anns := fun _ _ _ => .unroll 40
end Go.Proofs.YtfhjlimdakphcaaGreat.Sx
set_option linter.unusedVariables false
set_option linter.unusedSimpArgs false
namespace Go.Proofs.YtfhjlimdakphcaaGreat.Sx
open Go
abbrev g (p : List Int) (i : Nat) : Int := p[i]?.getD 0
abbrev word (p : List Int) (i : Nat) : Int := g p i * 256 + g p (i + 1)
def z2 (p : List Int) (i : Nat) : List Int := (p.set i 0).set (i + 1) 0
def fld (p : List Int) : Int := 65535 - ocs (wsum p)
def fld1 (p : List Int) : Int := if fld p = 0 then 65535 else fld p
def rdErr : Nat → List Int → Int
 | 1, p => if p.length < 14 then 6 else 0
 | 2, p => if p.length < 4 then 6 else if g p 0 / 16 % 2 ≠ 0 then 60 else 0
 | 3, p => if p.length < 20 then 6 else if g p 0 ≠ 69 ∨ g p 6 ≠ 0 ∨ g p 7 ≠ 0 ∨ word p 2 ≠ p.length then 70 else if word p 10 ≠ fld (z2 (p.take 20) 10) then 110 else 0
 | 4, p => if p.length < 40 then 6 else if g p 0 / 16 ≠ 6 ∨ word p 4 ≠ (p.length : Int) - 40 then 80 else 0
 | 5, p => if p.length < 20 then 6 else if g p 12 ≠ 80 ∨ 64 ≤ g p 13 ∨ g p 18 ≠ 0 ∨ g p 19 ≠ 0 then 90 else if word p 16 ≠ fld (z2 p 16) then 110 else 0
 | 6, p => if p.length < 8 then 6 else if word p 4 ≠ p.length then 100 else if word p 6 ≠ fld1 (z2 p 6) then 110 else 0
 | _, _ => 120
def hdSize : Nat → Nat | 1 => 14 | 2 => 4 | 3 => 20 | 4 => 40 | 5 => 20 | 6 => 8 | _ => 0
def hdKinds : Nat → List IntKind | 1 => kLink | 2 => kTag | 3 => kNet4 | 4 => kNet6 | 5 => kSeg | 6 => kDgram | _ => []
def rdGood : Nat → List Int → List Int
 | 1, p => [g p 0, g p 1, g p 2, g p 3, g p 4, g p 5, g p 6, g p 7, g p 8, g p 9, g p 10, g p 11, word p 12]
 | 2, p => [g p 0 / 32, word p 0 % 4096, word p 2]
 | 3, p => [g p 1, g p 8, g p 9, word p 4, g p 12, g p 13, g p 14, g p 15, g p 16, g p 17, g p 18, g p 19]
 | 4, p => [word p 0 / 16 % 256, g p 1 % 16 * 65536 + word p 2, g p 6, g p 7, g p 8, g p 9, g p 10, g p 11, g p 12, g p 13, g p 14, g p 15, g p 16, g p 17, g p 18, g p 19, g p 20, g p 21, g p 22, g p 23, g p 24, g p 25, g p 26, g p 27, g p 28, g p 29, g p 30, g p 31, g p 32, g p 33, g p 34, g p 35, g p 36, g p 37, g p 38, g p 39]
 | 5, p => [word p 0, word p 2, word p 4 * 65536 + word p 6, word p 8 * 65536 + word p 10, g p 13, word p 14]
 | 6, p => [word p 0, word p 2]
 | _, _ => []
def rdRow (k : Nat) (p : List Int) : List Int := if rdErr k p = 0 then rdGood k p else List.replicate (hdKinds k).length 0
def wrFail : Nat → List Int → List Int → Int
 | 1, _, p => if 2034 < p.length then 5 else 0
 | 2, h, p => if 7 < g h 0 ∨ 4095 < g h 1 then 60 else if 2044 < p.length then 5 else 0
 | 3, _, p => if 2028 < p.length then 5 else 0
 | 4, h, p => if 1048576 ≤ g h 1 then 80 else if 2008 < p.length then 5 else 0
 | 5, h, p => if 64 ≤ g h 4 then 90 else if 2028 < p.length then 5 else 0
 | 6, _, p => if 2040 < p.length then 5 else 0
 | _, _, _ => 120
def putF (b : List Int) (i : Nat) (f : Int) : List Int := (b.set i (f / 256)).set (i + 1) (f % 256)
def wrBase : Nat → List Int → List Int → List Int
 | 3, h, p => [69, g h 0, (20 + (p.length : Int)) / 256, (20 + (p.length : Int)) % 256, g h 3 / 256, g h 3 % 256, 0, 0, g h 1, g h 2, 0, 0, g h 4, g h 5, g h 6, g h 7, g h 8, g h 9, g h 10, g h 11]
 | 5, h, p => [g h 0 / 256, g h 0 % 256, g h 1 / 256, g h 1 % 256, g h 2 / 16777216, g h 2 / 65536 % 256, g h 2 / 256 % 256, g h 2 % 256, g h 3 / 16777216, g h 3 / 65536 % 256, g h 3 / 256 % 256, g h 3 % 256, 80, g h 4, g h 5 / 256, g h 5 % 256, 0, 0, 0, 0]
 | 6, h, p => [g h 0 / 256, g h 0 % 256, g h 1 / 256, g h 1 % 256, (8 + (p.length : Int)) / 256, (8 + (p.length : Int)) % 256, 0, 0]
 | _, _, _ => []
def wrGood : Nat → List Int → List Int → List Int
 | 1, h, p => [g h 0, g h 1, g h 2, g h 3, g h 4, g h 5, g h 6, g h 7, g h 8, g h 9, g h 10, g h 11, g h 12 / 256, g h 12 % 256]
 | 2, h, p => [(g h 0 * 8192 + g h 1) / 256, (g h 0 * 8192 + g h 1) % 256, g h 2 / 256, g h 2 % 256]
 | 3, h, p => putF (wrBase 3 h p) 10 (fld (wrBase 3 h p))
 | 4, h, p => [96 + g h 0 / 16, g h 0 % 16 * 16 + g h 1 / 65536, g h 1 / 256 % 256, g h 1 % 256, (p.length : Int) / 256, (p.length : Int) % 256, g h 2, g h 3, g h 4, g h 5, g h 6, g h 7, g h 8, g h 9, g h 10, g h 11, g h 12, g h 13, g h 14, g h 15, g h 16, g h 17, g h 18, g h 19, g h 20, g h 21, g h 22, g h 23, g h 24, g h 25, g h 26, g h 27, g h 28, g h 29, g h 30, g h 31, g h 32, g h 33, g h 34, g h 35]
 | 5, h, p => putF (wrBase 5 h p) 16 (fld (wrBase 5 h p ++ p))
 | 6, h, p => putF (wrBase 6 h p) 6 (fld1 (wrBase 6 h p ++ p))
 | _, _, _ => []
theorem wsum_app : ∀ (a b : List Int), a.length % 2 = 0 → wsum (a ++ b) = wsum a + wsum b
 | [], b, _ => by simp [wsum]
 | [x], b, h => by simp at h
 | x :: y :: r, b, h => by
   have := wsum_app r b (by simp at h; omega)
   simp only [List.cons_append, wsum, this]
   omega
theorem z2_eq {l : List Int} {i : Nat} (h : i + 1 < l.length) : z2 l i = l.take i ++ (0 :: 0 :: l.drop (i + 2)) := by
 apply List.ext_getElem?
 intro j
 unfold z2
 simp only [List.getElem?_set, List.getElem?_append, List.length_take, List.length_set]
 by_cases h1 : j < i
 · rw [if_neg (by omega), if_neg (by omega), if_pos (by omega), List.getElem?_take, if_pos h1]
 · by_cases h2 : j = i
   · subst h2
     rw [if_neg (by omega), if_pos rfl, if_pos (by omega), if_neg (by omega), show j - min j l.length = 0 from by omega]; rfl
   · by_cases h3 : j = i + 1
     · subst h3
       rw [if_pos rfl, if_pos (by omega), if_neg (by omega), show i + 1 - min i l.length = 1 from by omega]; rfl
     · rw [if_neg (by omega), if_neg (by omega), if_neg (by omega)]
       obtain ⟨m, hm⟩ : ∃ m, j - min i l.length = m + 2 := ⟨j - i - 2, by omega⟩
       rw [hm]
       simp only [List.getElem?_cons_succ, List.getElem?_drop]
       congr 1; omega
theorem ocs_two {a b : Int} (ha : 0 ≤ a) (hb : 0 ≤ b) : ocs (ocs a + ocs b) = ocs (a + b) := by unfold ocs; split <;> split <;> split <;> split <;> omega
theorem z2_sum {l : List Int} (k : Nat) (h : 2 * k + 1 < l.length) : wsum (z2 l (2 * k)) = wsum (l.take (2 * k)) + wsum (l.drop (2 * k + 2)) := by
 rw [z2_eq h, wsum_app _ _ (by rw [List.length_take]; omega)]
 simp [wsum]
theorem bytes_take {l : List Int} (h : Bytes l) (n : Nat) : Bytes (l.take n) := fun z hz => h z (List.mem_of_mem_take hz)
theorem bytes_drop {l : List Int} (h : Bytes l) (n : Nat) : Bytes (l.drop n) := fun z hz => h z (List.mem_of_mem_drop hz)
theorem fld_at {l : List Int} (hb : Bytes l) (k : Nat) (h : 2 * k + 1 < l.length) : 65535 - ocs (ocs (wsum (l.take (2 * k))) + ocs (wsum (l.drop (2 * k + 2)))) = fld (z2 l (2 * k)) := by
 rw [fld, z2_sum k h, ocs_two (wsum_range (bytes_take hb _)).1 (wsum_range (bytes_drop hb _)).1]
theorem fld_n4 {l : List Int} (hb : Bytes l) (h : 20 ≤ l.length) : 65535 - ocs (ocs (wsum (l.take 10)) + ocs (wsum ((l.drop 12).take 8))) = fld (z2 (l.take 20) 10) := by
 have := fld_at (bytes_take hb 20) 5 (by rw [List.length_take]; omega)
 rw [List.take_take, List.drop_take] at this
 exact this
structure HdSig (Φ : Sig) : Prop extends SumSig Φ where
 rdRow : ∀ k x y z, 1 ≤ k → k ≤ 6 → Φ (10 + k) x y z = .l (Sx.rdRow k x.list)
 rdErr : ∀ k x y z, 1 ≤ k → k ≤ 6 → Φ (20 + k) x y z = .i (Sx.rdErr k x.list)
 wrRow : ∀ k x y z, 1 ≤ k → k ≤ 6 → Φ (30 + k) x y z = .l (wrGood k x.list y.list)
 wrErr : ∀ k x y z, 1 ≤ k → k ≤ 6 → Φ (40 + k) x y z = .i (wrFail k x.list y.list)
end Go.Proofs.YtfhjlimdakphcaaGreat.Sx
set_option linter.unusedVariables false
set_option linter.unusedSimpArgs false
namespace Go.Proofs.YtfhjlimdakphcaaGreat.Sx
open Go
def cellsAre (E : Ev) : List IntKind → List C → List Int → Prop
 | [], [], [] => True
 | k :: ks, .i k' t :: cs, z :: zs => k' = k ∧ (E t).int = k.wrap z ∧ cellsAre E ks cs zs
 | _, _, _ => False
theorem wrap0 (k : IntKind) : k.wrap 0 = 0 := wrap_is (kin_zero k).1 (kin_zero k).2
theorem cells_zero (E : Ev) (hE : ∀ z, (E (.num z)).int = z) : ∀ ks : List IntKind, cellsAre E ks (ks.map fun k => .i k (.num 0)) (List.replicate ks.length 0)
 | [] => trivial
 | k :: ks => ⟨rfl, by rw [hE, wrap0], cells_zero E hE ks⟩
section
variable {Φ : Sig} {ρ : Env}
theorem cells_eqL {F : T} {row : List Int} (hF : (T.den Φ ρ F).list = row) : ∀ (ks : List IntKind) (cs : List C) (zs : List Int) (b : Nat), cellsAre (T.den Φ ρ) ks cs zs → (∀ i, i < zs.length → row[b + i]? = zs[i]?) → eqL (T.den Φ ρ) (T.den Φ ρ) cs (rdCells F b ks)
 | [], [], [], _, _, _ => trivial
 | [], [], _ :: _, _, h, _ => h.elim
 | [], _ :: _, _, _, h, _ => h.elim
 | _ :: _, [], _, _, h, _ => h.elim
 | k :: ks, .i k' t :: cs, z :: zs, b, h, hr => by
   obtain ⟨rfl, h2, h3⟩ := h
   refine ⟨⟨rfl, ?_⟩, cells_eqL hF ks cs zs (b + 1) h3 (fun i hi => ?_)⟩
   · have := hr 0 (by simp)
     simp only [Nat.add_zero, List.getElem?_cons_zero] at this
     rw [h2]
     show _ = k'.wrap ((T.den Φ ρ F).list.getD (Int.toNat (Int.ofNat b)) 0)
     rw [hF, List.getD_eq_getElem?_getD, show (Int.ofNat b).toNat = b from rfl, this]; rfl
   · have := hr (i + 1) (by simpa using hi)
     rw [show b + 1 + i = b + (i + 1) from by omega, this]; rfl
 | _ :: _, .i _ _ :: _, [], _, h, _ => h.elim
 | _ :: _, .b _ :: _, _, _, h, _ => h.elim
 | _ :: _, .p .. :: _, _, _, h, _ => h.elim
 | _ :: _, .pn :: _, _, _, h, _ => h.elim
 | _ :: _, .s .. :: _, _, _, h, _ => h.elim
 | _ :: _, .sn :: _, _, _, h, _ => h.elim
 | _ :: _, .sz :: _, _, _, h, _ => h.elim
 | _ :: _, .fn _ :: _, _, _, h, _ => h.elim
 | _ :: _, .nf :: _, _, _, h, _ => h.elim
theorem leaf_read {k nb n nv : Nat} {ks : List IntKind} {cs : List C} {e : T} {F X : T} (hF : T.den Φ ρ F = .l (rdRow k (ρ 0).list)) (hX : T.den Φ ρ X = .i (rdErr k (ρ 0).list))
   (hc : cellsAre (T.den Φ ρ) ks cs (rdRow k (ρ 0).list)) (he : (T.den Φ ρ e).int = rdErr k (ρ 0).list) (hn : n ≤ nb) :
   Leaf Φ ρ ρ ⟨.t [.g (rdCells F 0 ks), .c (.i .i64 X)], [], nb⟩ (.t [.g cs, .c (.i .i64 e)], ⟨[], [], n, nv, []⟩) :=
 ⟨⟨cells_eqL (row := rdRow k (ρ 0).list) (congrArg D.list hF) ks cs _ 0 hc (fun i _ => by rw [Nat.zero_add]), ⟨rfl, by rw [he, hX]; rfl⟩, trivial⟩, trivial, hn⟩
theorem leaf_rd_err {k nb n nv : Nat} {ks : List IntKind} {z : Int} {F X : T} (hF : T.den Φ ρ F = .l (rdRow k (ρ 0).list)) (hX : T.den Φ ρ X = .i (rdErr k (ρ 0).list)) (hk : hdKinds k = ks) (hz : rdErr k (ρ 0).list = z) (hne : z ≠ 0) (hn : n ≤ nb) :
   Leaf Φ ρ ρ ⟨.t [.g (rdCells F 0 ks), .c (.i .i64 X)], [], nb⟩ (.t [.g (ks.map fun k => .i k (.num 0)), .c (.i .i64 (.num z))], ⟨[], [], n, nv, []⟩) := by
 refine leaf_read hF hX ?_ hz.symm hn
 rw [rdRow, if_neg (by rw [hz]; exact hne), hk]
 exact cells_zero _ (fun _ => rfl) ks
theorem leaf_rd_good {k nb n nv : Nat} {ks : List IntKind} {cs : List C} {F X : T} (hF : T.den Φ ρ F = .l (rdRow k (ρ 0).list)) (hX : T.den Φ ρ X = .i (rdErr k (ρ 0).list)) (hz : rdErr k (ρ 0).list = 0) (hc : cellsAre (T.den Φ ρ) ks cs (rdGood k (ρ 0).list)) (hn : n ≤ nb) :
   Leaf Φ ρ ρ ⟨.t [.g (rdCells F 0 ks), .c (.i .i64 X)], [], nb⟩ (.t [.g cs, .c (.i .i64 (.num 0))], ⟨[], [], n, nv, []⟩) := by
 refine leaf_read hF hX ?_ hz.symm hn
 rw [rdRow, if_pos hz]; exact hc
end
theorem byte_g {p : List Int} (hb : Bytes p) (i : Nat) : 0 ≤ g p i ∧ g p i ≤ 255 := byte_rd hb i
theorem word_g {p : List Int} (hb : Bytes p) (i : Nat) : 0 ≤ word p i ∧ word p i ≤ 65535 := by
 have h1 := byte_g hb i
 have h2 := byte_g hb (i + 1)
 show 0 ≤ g p i * 256 + g p (i + 1) ∧ g p i * 256 + g p (i + 1) ≤ 65535
 omega
theorem wrap_byte {p : List Int} (hb : Bytes p) (i : Nat) : g p i = IntKind.u8.wrap (g p i) := (wrap_is (k := .u8) (byte_g hb i).1 (byte_g hb i).2).symm
theorem wrap_word {p : List Int} (hb : Bytes p) (i : Nat) : word p i = IntKind.u16.wrap (word p i) := (wrap_is (k := .u16) (word_g hb i).1 (word_g hb i).2).symm
theorem and_4096 {x : Int} (h0 : 0 ≤ x) (h1 : x ≤ 65535) : Go.bits Bo.and.op .u16 x 4096 = x / 4096 % 2 * 4096 := by
 obtain ⟨n, rfl⟩ := Int.eq_ofNat_of_zero_le h0
 have h : n &&& 2 ^ 12 = if n.testBit 12 then 2 ^ 12 else 0 := by
   apply Nat.eq_of_testBit_eq
   intro i
   rw [Nat.testBit_and, Nat.testBit_two_pow]
   by_cases hi : 12 = i
   · subst hi
     cases e : n.testBit 12
     · simp
     · simp only [decide_true, Bool.and_true, if_true, Nat.testBit_two_pow]
   · cases e : n.testBit 12
     · simp [hi]
     · simp only [hi, decide_false, Bool.and_false, if_true, Nat.testBit_two_pow]
 rw [Nat.testBit_eq_decide_div_mod_eq] at h
 have : Go.bits Bo.and.op .u16 (n : Int) 4096 = ((n / 4096 % 2 * 4096 : Nat) : Int) := by
   refine bits_nat (o := .and) ⟨h0, h1⟩ ⟨by decide, by decide⟩ (by simp [kmax]; omega) ?_
   show n &&& 4096 = n / 4096 % 2 * 4096
   rw [show (4096 : Nat) = 2 ^ 12 from rfl, h]
   by_cases e : n / 2 ^ 12 % 2 = 1
   · simp [e]
   · have : n / 2 ^ 12 % 2 = 0 := by omega
     simp [this]
 rw [this]; omega
theorem wrap_eq {k : IntKind} {x z : Int} (h : x = z) (h1 : kmin k ≤ z) (h2 : z ≤ kmax k) : x = k.wrap z := by rw [wrap_is h1 h2, h]
theorem consSum_ok {Φ : Sig} (hΦ : SumSig Φ) : ConsOk Go.Proofs.Tryz.prog Φ consSum := moreCons (con_ok (sum_ok hΦ)) (moreCons (con_ok (fold_ok hΦ)) (moreCons (con_ok (sumRef_ok hΦ)) noCons))
end Go.Proofs.YtfhjlimdakphcaaGreat.Sx
set_option linter.unusedVariables false
namespace Go.Proofs.YtfhjlimdakphcaaGreat.Sx
open Go
def kHead : List IntKind := .u8 :: (kLink ++ (kTag ++ (kNet4 ++ (kNet6 ++ (kSeg ++ kDgram)))))
def headV (b : Nat) : V := .w (.g (cellsV b kHead))
def slcH (j n : Nat) : V := .c (.s j 73 0 (.num 0) (.var n))
def rowH (v : Nat) : MB := ⟨false, .row kHead (.var v)⟩
def annsPe : Anns := fun f i S => match f, i with
 | 27, 4 => .inv 0 ⟨[(5, .c (.s S.nb 73 0 (.num 0) (.var S.nv))), (7, .c (.i .u8 (.var (S.nv + 1)))), (8, .c (.b (.var (S.nv + 2)))), (0, .c (.s 0 1 0 (.var (S.nv + 3)) (.var (S.nv + 4))))], [], [⟨true, .row kHead (.var (S.nv + 5))⟩], 6,
     [(.c2 .le (.num 0) (.var S.nv), true), (.c2 .le (.var S.nv) (.num 8), true), (.c2 .le (.num 0) (.var (S.nv + 1)), true), (.c2 .le (.var (S.nv + 1)) (.num 6), true), (.c2 .le (.num 0) (.var (S.nv + 3)), true), (.c2 .le (.num 0) (.var (S.nv + 4)), true),
      (.c2 .eq (.c2 .add (.var (S.nv + 3)) (.var (S.nv + 4))) (.c1 .len (.var 0)), true), (.c2 .eq (.c1 .len (.var (S.nv + 5))) (.c2 .mul (.var S.nv) (.num 73)), true), (.c1 (.kin kHead) (.var (S.nv + 5)), true)]⟩
 | 115652, 4 => .inv 0 ⟨[(5, .c (.s S.nb 73 0 (.num 0) (.var S.nv))), (6, .c (.i .u8 (.var (S.nv + 1)))), (7, .c (.b (.var (S.nv + 2)))), (8, .c (.i .i64 (.var (S.nv + 3))))], [], [⟨true, .row kHead (.var (S.nv + 4))⟩], 5,
     [(.c2 .le (.num 0) (.var S.nv), true), (.c2 .le (.var S.nv) (.num 8), true), (.c2 .le (.num 0) (.var (S.nv + 1)), true), (.c2 .le (.var (S.nv + 1)) (.num 6), true), (.c2 .le (.num 0) (.var (S.nv + 3)), true), (.c2 .le (.var (S.nv + 3)) (.c1 .len (.var 0)), true),
      (.c2 .eq (.c1 .len (.var (S.nv + 4))) (.c2 .mul (.var S.nv) (.num 73)), true), (.c1 (.kin kHead) (.var (S.nv + 4)), true)]⟩
 | 20, 4 => .inv 0 ⟨[(5, .c (.i .i64 (.var S.nv)))], [], [], 1, [(.c2 .le (.num 0) (.var S.nv), true)]⟩
 | _, _ => .unroll 40
def consRd : List (Nat × Con) := [(71, (tRead 1 60 kLink).con), (50, (tRead 1 60 kLink).con), (74, (tRead 2 60 kTag).con), (52, (tRead 2 60 kTag).con),
 (77, (tRead 3 60 kNet4).con), (53, (tRead 3 60 kNet4).con), (80, (tRead 4 60 kNet6).con), (54, (tRead 4 60 kNet6).con),
 (83, (tRead 5 60 kSeg).con), (55, (tRead 5 60 kSeg).con), (86, (tRead 6 60 kDgram).con), (56, (tRead 6 60 kDgram).con)]
end Go.Proofs.YtfhjlimdakphcaaGreat.Sx
set_option linter.unusedVariables false
set_option linter.unusedSimpArgs false
namespace Go.Proofs.YtfhjlimdakphcaaGreat.Sx
open Go
def zL : Nat → List Int → List Int
 | 0, t => t
 | n + 1, t => 0 :: zL n t
def rL (r : List Int) : Nat → List IntKind → List Int → List Int
 | _, [], t => t
 | i, k :: ks, t => k.wrap (r[i]?.getD 0) :: rL r (i + 1) ks t
def headOf : Nat → List Int → List Int
 | 1, r => 1 :: rL r 0 kLink (zL 59 [])
 | 2, r => 2 :: zL 13 (rL r 0 kTag (zL 56 []))
 | 3, r => 3 :: zL 16 (rL r 0 kNet4 (zL 44 []))
 | 4, r => 4 :: zL 28 (rL r 0 kNet6 (zL 8 []))
 | 5, r => 5 :: zL 64 (rL r 0 kSeg (zL 2 []))
 | 6, r => 6 :: zL 70 (rL r 0 kDgram [])
 | _, _ => []
def byT (t : Int) : Int := if t = 33024 then 2 else if t = 2048 then 3 else if t = 34525 then 4 else 0
def byP (t : Int) : Int := if t = 6 then 5 else if t = 17 then 6 else 0
def nextK (h : List Int) : Int := if g h 0 = 1 then byT (g h 13) else if g h 0 = 2 then byT (g h 16) else if g h 0 = 3 then byP (g h 19) else if g h 0 = 4 then byP (g h 31) else 0
def peelGo : Nat → List Int → Nat → Nat → List Int → List Int × Nat × Int
 | 0, _, _, _, _ => ([], 0, 3)
 | n + 1, p, a, k, acc =>
   if rdErr k (p.drop a) = 0 then
     (if nextK (headOf k (rdRow k (p.drop a))) = 0 then (acc ++ headOf k (rdRow k (p.drop a)), a + hdSize k, 0)
     else peelGo n p (a + hdSize k) (nextK (headOf k (rdRow k (p.drop a)))).toNat (acc ++ headOf k (rdRow k (p.drop a))))
   else ([], 0, rdErr k (p.drop a))
def peelOf (p : List Int) : List Int × Nat × Int := peelGo 8 p 0 1 []
structure PeSig (Φ : Sig) : Prop extends HdSig Φ where
 row : ∀ x y z, Φ 50 x y z = .l (peelOf x.list).1
 err : ∀ x y z, Φ 51 x y z = .i (peelOf x.list).2.2
 num : ∀ x y z, Φ 52 x y z = .i ((peelOf x.list).1.length / 73 : Nat)
 rest : ∀ x y z, Φ 53 x y z = .l (x.list.drop (peelOf x.list).2.1)
 next : ∀ x y z, Φ 54 x y z = .i (nextK x.list)
def eachK : List IntKind → List Int → Prop
 | [], [] => True
 | k :: ks, z :: zs => (kmin k ≤ z ∧ z ≤ kmax k) ∧ eachK ks zs
 | _, _ => False
theorem each_zL : ∀ (ks ks2 : List IntKind) (t : List Int), eachK ks2 t → eachK (ks ++ ks2) (zL ks.length t)
 | [], _, _, h => h
 | k :: ks, ks2, t, h => ⟨⟨(kin_zero k).1, (kin_zero k).2⟩, each_zL ks ks2 t h⟩
theorem each_rL (r : List Int) : ∀ (ks ks2 : List IntKind) (i : Nat) (t : List Int), eachK ks2 t → eachK (ks ++ ks2) (rL r i ks t)
 | [], _, _, _, h => h
 | k :: ks, ks2, i, t, h => ⟨wrap_range k _, each_rL r ks ks2 (i + 1) t h⟩
theorem each_len : ∀ {ks : List IntKind} {l : List Int}, eachK ks l → l.length = ks.length
 | [], [], _ => rfl
 | k :: ks, z :: zs, h => by simp [each_len h.2]
 | [], _ :: _, h => h.elim
 | _ :: _, [], h => h.elim
theorem each_head (k : Nat) (r : List Int) (hk : 1 ≤ k ∧ k ≤ 6) : eachK kHead (headOf k r) := by
 obtain ⟨h1, h2⟩ := hk
 have u : ∀ z : Int, 0 ≤ z ∧ z ≤ 255 → kmin .u8 ≤ z ∧ z ≤ kmax .u8 := fun z h => h
 have n0 : eachK [] [] := trivial
 have : k = 1 ∨ k = 2 ∨ k = 3 ∨ k = 4 ∨ k = 5 ∨ k = 6 := by omega
 rcases this with rfl | rfl | rfl | rfl | rfl | rfl
 · exact ⟨u 1 (by decide), each_rL r kLink (kTag ++ (kNet4 ++ (kNet6 ++ (kSeg ++ kDgram)))) 0 _ (each_zL (kTag ++ (kNet4 ++ (kNet6 ++ (kSeg ++ kDgram)))) [] [] n0)⟩
 · exact ⟨u 2 (by decide), each_zL kLink (kTag ++ (kNet4 ++ (kNet6 ++ (kSeg ++ kDgram)))) _ (each_rL r kTag (kNet4 ++ (kNet6 ++ (kSeg ++ kDgram))) 0 _ (each_zL (kNet4 ++ (kNet6 ++ (kSeg ++ kDgram))) [] [] n0))⟩
 · exact ⟨u 3 (by decide), each_zL (kLink ++ kTag) (kNet4 ++ (kNet6 ++ (kSeg ++ kDgram))) _ (each_rL r kNet4 (kNet6 ++ (kSeg ++ kDgram)) 0 _ (each_zL (kNet6 ++ (kSeg ++ kDgram)) [] [] n0))⟩
 · exact ⟨u 4 (by decide), each_zL (kLink ++ (kTag ++ kNet4)) (kNet6 ++ (kSeg ++ kDgram)) _ (each_rL r kNet6 (kSeg ++ kDgram) 0 _ (each_zL (kSeg ++ kDgram) [] [] n0))⟩
 · exact ⟨u 5 (by decide), each_zL (kLink ++ (kTag ++ (kNet4 ++ kNet6))) (kSeg ++ kDgram) _ (each_rL r kSeg kDgram 0 _ (each_zL kDgram [] [] n0))⟩
 · exact ⟨u 6 (by decide), each_zL (kLink ++ (kTag ++ (kNet4 ++ (kNet6 ++ kSeg)))) kDgram _ (each_rL r kDgram [] 0 _ n0)⟩
theorem head_len (k : Nat) (r : List Int) (hk : 1 ≤ k ∧ k ≤ 6) : (headOf k r).length = 73 := each_len (each_head k r hk)
theorem head_kind {k : Nat} (r : List Int) (hk : 1 ≤ k ∧ k ≤ 6) : (headOf k r)[0]? = some (k : Int) := by
 have : k = 1 ∨ k = 2 ∨ k = 3 ∨ k = 4 ∨ k = 5 ∨ k = 6 := by omega
 rcases this with rfl | rfl | rfl | rfl | rfl | rfl <;> rfl
theorem kHead_len : kHead.length = 73 := rfl
end Go.Proofs.YtfhjlimdakphcaaGreat.Sx
set_option linter.unusedVariables false
set_option linter.unusedSimpArgs false
namespace Go.Proofs.YtfhjlimdakphcaaGreat.Sx
open Go
section
variable {Φ : Sig} {ρ ρ' : Env}
theorem vars_at (Φ : Sig) (ρ : Env) : ∀ (n b i : Nat), i < n → (T.den Φ ρ (varsT b n)).list[i]?.getD 0 = (ρ (b + i)).int
 | n + 1, b, 0, _ => rfl
 | n + 1, b, i + 1, h => by
   show (T.den Φ ρ (varsT (b + 1) n)).list[i]?.getD 0 = _
   rw [vars_at Φ ρ n (b + 1) i (by omega), show b + 1 + i = b + (i + 1) from by omega]
def hdrOf (Φ : Sig) (ρ : Env) (n : Nat) : List Int := (T.den Φ ρ (varsT 0 n)).list
theorem hdr_at (n i : Nat) (h : i < n) : (hdrOf Φ ρ n)[i]?.getD 0 = (ρ i).int := by rw [hdrOf, vars_at Φ ρ n 0 i h, Nat.zero_add]
structure WrRes (Φ : Sig) (ρ : Env) (k j nb sz n : Nat) (res : Res) : Prop where
 err : (T.den Φ ρ (wrErr k n)).int = wrFail k (hdrOf Φ ρ n) (ρ n).list
 row : (T.den Φ ρ (wrRow k n)).list = wrGood k (hdrOf Φ ρ n) (ρ n).list
 or : (wrFail k (hdrOf Φ ρ n) (ρ n).list = 0 ∧ res = ⟨.t [.c (.s j 1 0 (.num 0) (.num (.ofNat sz))), .c (.i .i64 (.num 0))], [(j, some ⟨true, .row [.u8] (wrRow k n)⟩)], nb⟩) ∨
   (¬ wrFail k (hdrOf Φ ρ n) (ρ n).list = 0 ∧ res = ⟨.t [.c .sn, .c (.i .i64 (wrErr k n))], [], nb⟩)
theorem wr_res (hΦ : HdSig Φ) {k j nb sz n : Nat} {res : Res} (hk : 1 ≤ k ∧ k ≤ 6) (h : (wrRes k j nb sz n).val (T.den Φ ρ) = some res) : WrRes Φ ρ k j nb sz n res := by
 have he : (T.den Φ ρ (wrErr k n)).int = wrFail k (hdrOf Φ ρ n) (ρ n).list := by
   show (Φ (40 + k) _ _ _).int = _
   rw [hΦ.wrErr k _ _ _ hk.1 hk.2]; rfl
 have hr : (T.den Φ ρ (wrRow k n)).list = wrGood k (hdrOf Φ ρ n) (ρ n).list := by
   show (Φ (30 + k) _ _ _).list = _
   rw [hΦ.wrRow k _ _ _ hk.1 hk.2]; rfl
 refine ⟨he, hr, ?_⟩
 simp only [wrRes, O.val] at h
 split at h
 · rename_i c
   rw [eq_t, he] at c
   refine .inl ⟨c, ?_⟩
   repeat' (split at h)
   all_goals first | (cases h; done) | skip
   injection h with h
   exact h.symm
 · rename_i c
   have c : (T.den Φ ρ (.c2 .eq (wrErr k n) (.num 0))).bool = false := by simpa using c
   rw [eq_f, he] at c
   injection h with h
   exact .inr ⟨c, h.symm⟩
theorem leaf_wr_err {k j nb sz n m nv : Nat} {res : Res} {e : Int} (hr : WrRes Φ ρ k j nb sz n res) (hz : wrFail k (hdrOf Φ ρ n) (ρ n).list = e) (he : ¬ e = 0) (hn : m ≤ nb) : Leaf Φ ρ ρ' res (.t [.c .sn, .c (.i .i64 (.num e))], ⟨[], [], m, nv, []⟩) := by
 rcases hr.or with ⟨h, _⟩ | ⟨_, rfl⟩
 · rw [hz] at h; exact absurd h he
 · exact ⟨⟨trivial, ⟨rfl, by rw [hr.err, hz]; rfl⟩, trivial⟩, trivial, hn⟩
theorem leaf_wr_ok {k j nb sz n m nv : Nat} {res : Res} {t s : T} (hr : WrRes Φ ρ k j nb sz n res) (hz : wrFail k (hdrOf Φ ρ n) (ρ n).list = 0) (ht : (T.den Φ ρ' t).list = wrGood k (hdrOf Φ ρ n) (ρ n).list) (hs : (T.den Φ ρ' s).int = sz) (hn : m ≤ nb) :
   Leaf Φ ρ ρ' res (.t [.c (.s j 1 0 (.num 0) s), .c (.i .i64 (.num 0))], ⟨[], [(j, some ⟨true, .row [.u8] t⟩)], m, nv, []⟩) := by
 rcases hr.or with ⟨_, rfl⟩ | ⟨h, _⟩
 · exact ⟨⟨⟨rfl, rfl, rfl, rfl, by rw [hs]; rfl⟩, ⟨rfl, rfl⟩, trivial⟩, ⟨rfl, rfl, ⟨rfl, by rw [ht, hr.row]⟩, trivial⟩, hn⟩
 · exact absurd hz h
end
end Go.Proofs.YtfhjlimdakphcaaGreat.Sx
