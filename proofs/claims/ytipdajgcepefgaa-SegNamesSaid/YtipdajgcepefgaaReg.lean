/- Regions whose order is open, by an invariant: each operation is looked at once, whatever has been done before it; no condition on the program. -/
import Derived.Orders
import Derived.WalkKit
import Derived.Test.YtipdajgcepefgaaOwn
namespace Go.Proofs.YtipdajgcepefgaaW.Own
open Go Go.RowKit Go.Proofs.YtipdajgcepefgaaW.PrintWords
section
variable {P : Program} {ops : Array Oper} {Q : Exit → Act → World → Prop}

/-- The frame behind the operations that are done: each has left its value in its slot. -/
def puts : List (Option Tmp × Value) → Nat → (Nat → Bool) → Act → Act
  | [], _, _, a => a
  | (d, v) :: V, i, dn, a => puts V (i + 1) dn (if dn i then a.put d v else a)
def putAll' : List (Option Tmp × Value) → Act → Act
  | [], a => a
  | (d, v) :: V, a => putAll' V (a.put d v)
def more (dn : Nat → Bool) (i : Nat) : Nat → Bool := fun j => if j = i then true else dn j
theorem more_same (dn : Nat → Bool) (i : Nat) : more dn i i = true := by simp [more]
theorem more_other {dn : Nat → Bool} {i j : Nat} (h : j ≠ i) : more dn i j = dn j := by simp [more, h]

theorem put_comm {a : Act} {d d' : Option Tmp} (v v' : Value) (h : ∀ x, d = some x → d' ≠ some x) : (a.put d v).put d' v' = (a.put d' v').put d v := by
  cases d with
  | none => rfl
  | some x =>
    cases d' with
    | none => rfl
    | some y =>
      have hne : x ≠ y := fun e => h x rfl (by rw [e])
      simp only [Act.put]
      rw [Array.setIfInBounds_comm _ _ hne]
theorem puts_put {d : Option Tmp} {v : Value} : ∀ (V : List (Option Tmp × Value)) (i : Nat) (dn : Nat → Bool) (a : Act), (∀ x, d = some x → some x ∉ V.map (·.1)) → puts V i dn (a.put d v) = (puts V i dn a).put d v
  | [], _, _, _, _ => rfl
  | (d', v') :: V, i, dn, a, h => by
    have h1 : ∀ x, d = some x → d' ≠ some x := fun x hx e => h x hx (by simp [e])
    have h2 : ∀ x, d = some x → some x ∉ V.map (·.1) := fun x hx e => h x hx (by simp only [List.map_cons, List.mem_cons]; exact .inr e)
    simp only [puts]
    split
    · rw [put_comm v v' h1, puts_put V (i + 1) dn _ h2]
    · exact puts_put V (i + 1) dn a h2
theorem puts_ext : ∀ (V : List (Option Tmp × Value)) (i : Nat) (dn dn' : Nat → Bool) (a : Act), (∀ j, i ≤ j → j < i + V.length → dn j = dn' j) → puts V i dn a = puts V i dn' a
  | [], _, _, _, _, _ => rfl
  | (d, v) :: V, i, dn, dn', a, h => by
    simp only [puts]
    rw [h i (Nat.le_refl _) (by simp), puts_ext V (i + 1) dn dn' _ (fun j h1 h2 => h j (by omega) (by simp only [List.length_cons]; omega))]
/-- The slots are written once each. -/
def slotsOk : List (Option Tmp × Value) → Prop
  | [] => True
  | (d, _) :: V => (∀ x, d = some x → some x ∉ V.map (·.1)) ∧ slotsOk V
theorem puts_more : ∀ (V : List (Option Tmp × Value)) (i0 k : Nat) (d : Option Tmp) (v : Value) (dn : Nat → Bool) (a : Act), slotsOk V → V[k]? = some (d, v) → dn (i0 + k) = false → puts V i0 (more dn (i0 + k)) a = (puts V i0 dn a).put d v
  | [], _, _, _, _, _, _, _, h, _ => by simp at h
  | (d', v') :: V, i0, 0, d, v, dn, a, ok, h, hf => by
    simp only [List.getElem?_cons_zero, Option.some.injEq, Prod.mk.injEq] at h
    obtain ⟨rfl, rfl⟩ := h
    simp only [Nat.add_zero] at hf ⊢
    simp only [puts]
    rw [more_same, if_pos rfl, hf, if_neg (by simp), ← puts_put V (i0 + 1) dn a ok.1]
    exact puts_ext _ _ _ _ _ (fun j h1 _ => more_other (by omega))
  | (d', v') :: V, i0, k + 1, d, v, dn, a, ok, h, hf => by
    simp only [List.getElem?_cons_succ] at h
    simp only [puts]
    rw [more_other (by omega), show i0 + (k + 1) = i0 + 1 + k from by omega]
    exact puts_more V (i0 + 1) k d v dn _ ok.2 h (by rw [show i0 + 1 + k = i0 + (k + 1) from by omega]; exact hf)
theorem puts_all : ∀ (V : List (Option Tmp × Value)) (i0 : Nat) (dn : Nat → Bool) (a : Act), (∀ j, j < V.length → dn (i0 + j) = true) → puts V i0 dn a = putAll' V a
  | [], _, _, _, _ => rfl
  | (d, v) :: V, i0, dn, a, h => by
    simp only [puts, putAll']
    rw [show i0 = i0 + 0 from rfl, h 0 (by simp), if_pos rfl]
    exact puts_all V (i0 + 1) dn _ (fun j hj => by rw [show i0 + 1 + j = i0 + (j + 1) from by omega]; exact h (j + 1) (by simp only [List.length_cons]; omega))
theorem puts_size : ∀ (V : List (Option Tmp × Value)) (i0 : Nat) (dn : Nat → Bool) (a : Act), (puts V i0 dn a).tmps.size = a.tmps.size
  | [], _, _, _ => rfl
  | (d, v) :: V, i0, dn, a => by
    simp only [puts]
    rw [puts_size V (i0 + 1) dn]
    split
    · cases d <;> simp [Act.put]
    · rfl
theorem puts_other : ∀ (V : List (Option Tmp × Value)) (i0 : Nat) (dn : Nat → Bool) (a : Act) (t : Nat), some t ∉ V.map (·.1) → (puts V i0 dn a).eval (.tmp t) = a.eval (.tmp t)
  | [], _, _, _, _, _ => rfl
  | (d, v) :: V, i0, dn, a, t, h => by
    have h1 : d ≠ some t := fun e => h (by simp [e])
    have h2 : some t ∉ V.map (·.1) := fun e => h (by simp only [List.map_cons, List.mem_cons]; exact .inr e)
    simp only [puts]
    rw [puts_other V (i0 + 1) dn _ t h2]
    split
    · exact Act.eval_put (fun x hx e => h1 (by cases e; exact hx))
    · rfl
/-- What a slot holds whose operation is done. -/
theorem puts_done : ∀ (V : List (Option Tmp × Value)) (i0 k t : Nat) (v : Value) (dn : Nat → Bool) (a : Act), slotsOk V → V[k]? = some (some t, v) → t < a.tmps.size → dn (i0 + k) = true → (puts V i0 dn a).eval (.tmp t) = v
  | [], _, _, _, _, _, _, _, h, _, _ => by simp at h
  | (d', v') :: V, i0, 0, t, v, dn, a, ok, h, ht, hd => by
    simp only [List.getElem?_cons_zero, Option.some.injEq, Prod.mk.injEq] at h
    obtain ⟨rfl, rfl⟩ := h
    simp only [Nat.add_zero] at hd
    simp only [puts]
    rw [hd, if_pos rfl, puts_other V (i0 + 1) dn _ t (ok.1 t rfl)]
    simp [Act.put, Act.eval, Array.getD, ht]
  | (d', v') :: V, i0, k + 1, t, v, dn, a, ok, h, ht, hd => by
    simp only [List.getElem?_cons_succ] at h
    simp only [puts]
    refine puts_done V (i0 + 1) k t v dn _ ok.2 h ?_ (by rw [show i0 + 1 + k = i0 + (k + 1) from by omega]; exact hd)
    split
    · cases d' <;> simpa [Act.put] using ht
    · exact ht

theorem wpAny_inv {md : Region.Mode} (I : (Nat → Bool) → Act → World → Prop)
    (hstep : ∀ (i : Nat) (o : Oper), ops[i]? = some o → ∀ dn a w, I dn a w → dn i = false → (o.after.all fun e => !Region.binds md e || dn e.on) = true → wpOp P ops Q i (fun a' w' => I (more dn i) a' w') a w)
    (hext : ∀ dn dn' a w, (∀ j, j < ops.size → dn j = dn' j) → I dn a w → I dn' a w)
    (hord : ∀ (i : Nat) (o : Oper), ops[i]? = some o → (o.after.all fun e => decide (e.on < i)) = true)
    (hfin : ∀ a w, I (fun _ => true) a w → Q .normal a w) :
    ∀ (fuel : Nat) (listed : Array Bool) (a : Act) (w : World), listed.size = ops.size → (listed.toList.filter (fun b => !b)).length ≤ fuel → I (fun j => listed.getD j false) a w → wpAny P md ops Q fuel listed a w := by
  have fin : ∀ (listed : Array Bool) (a : Act) (w : World), listed.size = ops.size → I (fun j => listed.getD j false) a w → Region.ready md ops listed = [] → Q .normal a w := by
    intro listed a w hs hI hr
    refine hfin a w (hext _ _ a w ?_ hI)
    have key : ∀ n j, j < n → j < ops.size → listed.getD j false = true := by
      intro n
      induction n with
      | zero => intro j hj; omega
      | succ n ih =>
        intro j hj hjs
        by_cases hl : listed.getD j false = true
        · exact hl
        exfalso
        have hmem : j ∈ Region.ready md ops listed := by
          unfold Region.ready
          rw [List.mem_filter]
          refine ⟨List.mem_range.mpr hjs, ?_⟩
          have ho : ops[j]? = some ops[j] := Array.getElem?_eq_getElem hjs
          have h1 : listed.getD j true = false := by
            rw [Array.getD_eq_getD_getElem?] at hl ⊢
            rw [Array.getElem?_eq_getElem (by omega)] at hl ⊢
            simpa using hl
          rw [h1, ho]
          simp only [Bool.not_false, Bool.true_and, Option.map_some, Option.getD_some]
          rw [Array.all_eq_true_iff_forall_mem]
          intro e he
          have := hord j _ ho
          rw [Array.all_eq_true_iff_forall_mem] at this
          have hlt := of_decide_eq_true (this e he)
          rw [ih e.on (by omega) (by omega)]
          simp
        rw [hr] at hmem
        cases hmem
    intro j hj
    exact key (j + 1) j (Nat.lt_succ_self j) hj
  intro fuel
  induction fuel with
  | zero =>
    intro listed a w hs hc hI
    have hr : Region.ready md ops listed = [] := by
      rw [List.eq_nil_iff_forall_not_mem]
      intro i hi
      unfold Region.ready at hi
      rw [List.mem_filter] at hi
      obtain ⟨h1, h2⟩ := hi
      have hlt := List.mem_range.mp h1
      simp only [Bool.and_eq_true, Bool.not_eq_true'] at h2
      have : listed[i]? = some false := by
        have h3 := h2.1
        rw [Array.getD_eq_getD_getElem?, Array.getElem?_eq_getElem (by omega)] at h3
        rw [Array.getElem?_eq_getElem (by omega)]
        simpa using h3
      have hm : false ∈ listed.toList.filter (fun b => !b) := List.mem_filter.mpr ⟨by rw [← Array.getElem?_toList] at this; exact List.mem_of_getElem? this, rfl⟩
      have := List.length_pos_of_mem hm
      omega
    exact ⟨hr, fin listed a w hs hI hr⟩
  | succ fuel ih =>
    intro listed a w hs hc hI
    refine ⟨fin listed a w hs hI, fun i hi => ?_⟩
    unfold Region.ready at hi
    rw [List.mem_filter] at hi
    obtain ⟨h1, h2⟩ := hi
    have hlt := List.mem_range.mp h1
    have ho : ops[i]? = some ops[i] := Array.getElem?_eq_getElem hlt
    rw [ho] at h2
    simp only [Bool.and_eq_true, Bool.not_eq_true', Option.map_some, Option.getD_some] at h2
    have hf : listed.getD i false = false := by
      have h3 := h2.1
      rw [Array.getD_eq_getD_getElem?, Array.getElem?_eq_getElem (by omega)] at h3 ⊢
      simpa using h3
    refine wpOp_mono (fun a' w' hI' => ih _ a' w' (by simpa using hs) ?_ (hext _ _ a' w' ?_ hI')) (hstep i _ ho _ a w hI hf h2.2)
    · have hi' : i < listed.toList.length := by simpa [hs] using hlt
      have hx : listed.toList[i] = false := by
        rw [Array.getD_eq_getD_getElem?, Array.getElem?_eq_getElem (by omega)] at hf
        simpa using hf
      have : ((listed.setIfInBounds i true).toList.filter (fun b => !b)).length + 1 = (listed.toList.filter (fun b => !b)).length := by
        rw [Array.toList_setIfInBounds, List.set_eq_take_append_cons_drop, if_pos hi']
        conv => rhs; rw [← List.take_append_drop i listed.toList, List.drop_eq_getElem_cons hi', hx]
        simp [List.filter_append]
        omega
      omega
    · intro j hj
      simp only [more]
      rw [Array.getD_eq_getD_getElem?, Array.getD_eq_getD_getElem?, Array.getElem?_setIfInBounds]
      by_cases hji : j = i
      · subst hji; simp [hs, hj]
      · rw [if_neg hji, if_neg (fun e => hji e.symm)]
theorem done0 {V : List (Option Tmp × Value)} (k t : Nat) {v : Value} {dn : Nat → Bool} {a : Act} (hs : slotsOk V) (hv : V[k]? = some (some t, v)) (ht : t < a.tmps.size) (hd : dn k = true) : (puts V 0 dn a).eval (.tmp t) = v :=
  puts_done V 0 k t v dn a hs hv ht (by rw [Nat.zero_add]; exact hd)
/-- An operation that runs to a value. -/
theorem op_run {i : Nat} {o : Oper} {K : Act → World → Prop} {a : Act} {w w' : World} {v : Value} (ho : ops[i]? = some o) (hg : o.guard = none) (hrun : (execOp a.eval o).run P w = .ok (.value v) w') (h : K (a.put o.dst v) w') : wpOp P ops Q i K a w := by
  unfold wpOp
  rw [ho]
  simp only [Region.wanted, hg, if_true]
  left
  unfold Oper.wp
  rw [hrun]
  exact h
theorem op_skip {i : Nat} {o : Oper} {K : Act → World → Prop} {a : Act} {w w' : World} (ho : ops[i]? = some o) (hg : o.guard = none) (hrun : (execOp a.eval o).run P w = .ok .skip w') (h : K (a.put o.dst undef) w') : wpOp P ops Q i K a w := by
  unfold wpOp
  rw [ho]
  simp only [Region.wanted, hg, if_true]
  left
  unfold Oper.wp
  rw [hrun]
  exact h
theorem op_call {i f : Nat} {args : Array Value} {o : Oper} {K : Act → World → Prop} {a : Act} {w w1 : World} {v : Value} (ho : ops[i]? = some o) (hg : o.guard = none) (hrun : (execOp a.eval o).run P w = .ok (.enter f args) w1) (hc : Calls P f args w1 fun e w' => e = .returned v ∧ K (a.put o.dst v) w') : wpOp P ops Q i K a w := by
  unfold wpOp
  rw [ho]
  simp only [Region.wanted, hg, if_true]
  left
  unfold Oper.wp
  rw [hrun]
  refine Calls.mono hc (fun e w' h => ?_)
  obtain ⟨rfl, h⟩ := h
  exact h

/-- A region whose order is open: an invariant of the world, and what each operation leaves. -/
theorem region_inv {id : Nat} {a : Act} {w : World} (hm : P.follows .mixedOrders = true) (V : List (Option Tmp × Value)) (hn : V.length = ops.size) (hs : slotsOk V)
    (hord : (ops.toList.zipIdx.all fun x => x.1.after.all fun e => decide (e.on < x.2)) = true) (WR : (Nat → Bool) → World → Prop)
    (hext : ∀ dn dn' w, (∀ j, j < ops.size → dn j = dn' j) → WR dn w → WR dn' w) (h0 : WR (fun _ => false) w.drew)
    (hstep : ∀ (i : Nat), i < ops.size → ∀ dn w, WR dn w → dn i = false → (∀ o, ops[i]? = some o → (o.after.all fun e => !Region.binds .any e || dn e.on) = true) →
      wpOp P ops Q i (fun a' w' => (∃ d v, V[i]? = some (d, v) ∧ a' = (puts V 0 dn a).put d v) ∧ WR (more dn i) w') (puts V 0 dn a) w)
    (hfin : ∀ w, WR (fun _ => true) w → Q .normal (putAll' V a) w) : (Code.region id ops true).wp P Q a w := by
  refine wp_region_any hm ?_
  have hord' : ∀ (i : Nat) (o : Oper), ops[i]? = some o → (o.after.all fun e => decide (e.on < i)) = true := by
    intro i o ho
    rw [List.all_eq_true] at hord
    refine hord (o, i) ?_
    rw [List.mem_zipIdx_iff_getElem?]
    rw [← Array.getElem?_toList] at ho
    exact ho
  refine wpAny_inv (fun dn a' w' => a' = puts V 0 dn a ∧ WR dn w') ?_ ?_ hord' ?_ _ _ _ _ (by simp) (by simp) ?_
  · rintro i o ho dn a' w' ⟨rfl, hW⟩ hdn hdep
    have hi : i < ops.size := (Array.getElem?_eq_some_iff.1 ho).1
    refine wpOp_mono ?_ (hstep i hi dn w' hW hdn (fun o' ho' => by rw [ho] at ho'; cases ho'; exact hdep))
    rintro a' w'' ⟨⟨d, v, hv, rfl⟩, hW'⟩
    refine ⟨?_, hW'⟩
    have := puts_more V 0 i d v dn a hs hv (by rw [Nat.zero_add]; exact hdn)
    rw [Nat.zero_add] at this
    exact this.symm
  · rintro dn dn' a' w' hj ⟨rfl, hW⟩
    exact ⟨puts_ext V 0 dn dn' a (fun j _ h2 => hj j (by omega)), hext dn dn' w' hj hW⟩
  · rintro a' w' ⟨rfl, hW⟩
    rw [puts_all V 0 _ a (fun _ _ => rfl)]
    exact hfin w' hW
  · have e : (fun j => (Array.replicate ops.size false).getD j false) = fun _ => false := by
      funext j
      rw [Array.getD_eq_getD_getElem?]
      by_cases hj : j < ops.size
      · rw [Array.getElem?_eq_getElem (by simpa using hj)]; simp
      · rw [Array.getElem?_eq_none (by simpa using hj)]; rfl
    rw [e]
    refine ⟨?_, h0⟩
    have key : ∀ (V : List (Option Tmp × Value)) i, puts V i (fun _ => false) a = a := by
      intro V
      induction V with
      | nil => intro i; rfl
      | cons x V ih => intro i; obtain ⟨d, v⟩ := x; simp only [puts]; rw [if_neg (by simp)]; exact ih (i + 1)
    exact (key V 0).symm

/-- A region that reads, calls quietly, lays one new variable (operation ia) and stores into it (operation is). -/
structure Bld (W : World) (zs fs : Array Value) (t : TypeId) (ia is : Nat) (dn : Nat → Bool) (w : World) : Prop where
  below : Below W.heap.size W w
  size : dn ia = false → w.heap.size = W.heap.size
  ord : dn is = true → dn ia = true
  zero : dn ia = true → dn is = false → w.heap[W.heap.size]? = some (.cells zs t (0, 0))
  full : dn is = true → w.heap[W.heap.size]? = some (.cells fs t (0, 0))
section
variable {W w w' : World} {zs fs : Array Value} {t : TypeId} {ia is i n : Nat} {dn dn' : Nat → Bool}
theorem Bld.ext (h : Bld W zs fs t ia is dn w) (h1 : dn ia = dn' ia) (h2 : dn is = dn' is) : Bld W zs fs t ia is dn' w :=
  ⟨h.below, fun e => h.size (h1.trans e), fun e => h1 ▸ h.ord (h2.trans e), fun e e' => h.zero (h1.trans e) (h2.trans e'), fun e => h.full (h2.trans e)⟩
theorem Bld.start (W : World) : Bld W zs fs t ia is (fun _ => false) W.drew :=
  ⟨below_drew (Below.refl _ _), fun _ => rfl, fun e => (by cases e), fun e => (by cases e), fun e => (by cases e)⟩
theorem Bld.quiet (h : Bld W zs fs t ia is dn w) (h1 : ia ≠ i) (h2 : is ≠ i) : Bld W zs fs t ia is (more dn i) (w.drewN n) := by
  have e1 := more_other (dn := dn) h1; have e2 := more_other (dn := dn) h2
  exact ⟨pw_below_drewN h.below n, fun e => h.size (e1 ▸ e), fun e => e1 ▸ h.ord (e2 ▸ e), fun e e' => h.zero (e1 ▸ e) (e2 ▸ e'), fun e => h.full (e2 ▸ e)⟩
theorem Bld.same (h : Bld W zs fs t ia is dn w) (h1 : ia ≠ i) (h2 : is ≠ i) : Bld W zs fs t ia is (more dn i) w := h.quiet (n := 0) h1 h2
theorem Bld.alloc (h : Bld W zs fs t ia is dn w) (hd : dn ia = false) (hne : is ≠ ia) : Bld W zs fs t ia is (more dn ia) (w.alloc (.cells zs t)) := by
  have e2 := more_other (dn := dn) hne
  refine ⟨below_alloc h.below _, fun e => ?_, fun _ => more_same _ _, fun _ _ => ?_, fun e => ?_⟩
  · rw [more_same] at e; cases e
  · rw [← h.size hd]; exact blk_new _ _
  · rw [e2] at e; rw [h.ord e] at hd; cases hd
theorem Bld.store (h : Bld W zs fs t ia is dn w) (hd : dn ia = true) (hne : ia ≠ is) (hg : w.grownBy w' (some W.heap.size)) (hr : w'.heap[W.heap.size]? = some (.cells fs t (0, 0))) : Bld W zs fs t ia is (more dn is) w' := by
  have e1 := more_other (dn := dn) hne
  exact ⟨pw_below_grown h.below _ h.below.size hg (fun k hk => by cases hk; exact Nat.le_refl _), fun e => (by rw [e1, hd] at e; cases e), fun _ => (by rw [e1]; exact hd), fun _ e => (by rw [more_same] at e; cases e), fun _ => hr⟩
theorem Bld.row (h : Bld W zs fs t ia is (fun _ => true) w) : w.heap[W.heap.size]? = some (.cells fs t (0, 0)) := h.full rfl
end
/-- A region that reads, calls quietly (operation ic), and writes last (operation is) into the row of block g, beside a call's box. -/
structure Wrt (w0 : World) (b : Nat) (bx : Array Value) (tb : TypeId) (g : Nat) (cs cs' : Array Value) (te : TypeId) (ic is : Nat) (dn : Nat → Bool) (w : World) : Prop where
  before : dn is = false → St w0 w b bx tb g cs te
  after : dn is = true → St w0 w b bx tb g cs' te
  ord : dn is = true → dn ic = true
section
variable {w0 w w' : World} {b g : Nat} {bx cs cs' : Array Value} {tb te : TypeId} {ic is i n : Nat} {dn dn' : Nat → Bool}
theorem Wrt.ext (h : Wrt w0 b bx tb g cs cs' te ic is dn w) (h1 : dn ic = dn' ic) (h2 : dn is = dn' is) : Wrt w0 b bx tb g cs cs' te ic is dn' w :=
  ⟨fun e => h.before (h2.trans e), fun e => h.after (h2.trans e), fun e => h1 ▸ h.ord (h2.trans e)⟩
theorem Wrt.start (h : St w0 w b bx tb g cs te) : Wrt w0 b bx tb g cs cs' te ic is (fun _ => false) w.drew :=
  ⟨fun _ => h.drew, fun e => (by cases e), fun e => (by cases e)⟩
theorem Wrt.same (h : Wrt w0 b bx tb g cs cs' te ic is dn w) (h1 : ic ≠ i) (h2 : is ≠ i) : Wrt w0 b bx tb g cs cs' te ic is (more dn i) w := by
  have e1 := more_other (dn := dn) h1; have e2 := more_other (dn := dn) h2
  exact ⟨fun e => h.before (e2 ▸ e), fun e => h.after (e2 ▸ e), fun e => e1 ▸ h.ord (e2 ▸ e)⟩
theorem Wrt.yet (h : Wrt w0 b bx tb g cs cs' te ic is dn w) (hd : dn ic = false) : dn is = false := by
  cases e : dn is with
  | false => rfl
  | true => have := h.ord e; rw [hd] at this; cases this
theorem Wrt.call (h : Wrt w0 b bx tb g cs cs' te ic is dn w) (_hd : dn ic = false) (hne : is ≠ ic) : Wrt w0 b bx tb g cs cs' te ic is (more dn ic) (w.drewN n) := by
  have e2 := more_other (dn := dn) hne
  exact ⟨fun e => (h.before (e2 ▸ e)).drewN n, fun e => (h.after (e2 ▸ e)).drewN n, fun _ => more_same _ _⟩
theorem Wrt.write (h : Wrt w0 b bx tb g cs cs' te ic is dn w) (hd : dn ic = true) (hs : dn is = false) (hne : ic ≠ is) (hg : w.grownBy w' (some g)) (hr : w'.heap[g]? = some (.cells cs' te (0, 0))) : Wrt w0 b bx tb g cs cs' te ic is (more dn is) w' := by
  have e1 := more_other (dn := dn) hne
  exact ⟨fun e => (by rw [more_same] at e; cases e), fun _ => (h.before hs).grown hg hr, fun _ => (by rw [e1]; exact hd)⟩
theorem Wrt.all (h : Wrt w0 b bx tb g cs cs' te ic is (fun _ => true) w) : St w0 w b bx tb g cs' te := h.after rfl
end
end
end Go.Proofs.YtipdajgcepefgaaW.Own
