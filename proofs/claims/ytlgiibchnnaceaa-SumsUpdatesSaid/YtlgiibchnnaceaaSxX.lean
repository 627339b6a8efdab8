/- Sx, part 14: regions, in the text's order and in any order. Conditions: none. -/
import Derived.Test.YtlgiibchnnaceaaSxW
set_option linter.unusedVariables false
set_option linter.unusedSimpArgs false
namespace Go.Proofs.Ytlgiibchnnaceaa.Sx
open Go Go.RowKit

/-! What a function's run has done since it began: d is what it has turned. -/
structure Run (base : List (Nat × Option MB)) (β0 : Map) (w0 : World) (nb0 : Nat) (d : List (Nat × Option MB)) (β : Map) (w : World) : Prop where
  old : ∀ j, j < nb0 → β j = β0 j
  os : w.os = w0.os
  tape : w.tape = w0.tape
  output : w.output = w0.output
  size : w0.heap.size ≤ w.heap.size
  kept : ∀ b, b < w0.heap.size → (∀ j pl, hasK d j = true → j < nb0 → β0 j = some pl → pl.sz ≠ 0 → b ≠ pl.b) → w.heap[b]? = w0.heap[b]?
  wr : ∀ j, hasK d j = true → j < nb0 → ∃ m, lookM base j = some m ∧ m.rw = true
  new : ∀ j pl, nb0 ≤ j → β j = some pl → pl.sz ≠ 0 → w0.heap.size ≤ pl.b ∨ ∃ k pk, hasK d k = true ∧ lookM d k = none ∧ k < nb0 ∧ β0 k = some pk ∧ pk.sz ≠ 0 ∧ pl.b = pk.b

section
variable {base : List (Nat × Option MB)} {β0 β β' : Map} {w0 w w' : World} {nb0 nb nb' : Nat} {d d' eff : List (Nat × Option MB)} {E : Ev} {bs : Nat → Option MB}
theorem Run.start (base : List (Nat × Option MB)) (β0 : Map) (w0 : World) (nb0 : Nat) (hfree : ∀ j, nb0 ≤ j → β0 j = none) : Run base β0 w0 nb0 [] β0 w0 where
  old := fun _ _ => rfl
  os := rfl
  tape := rfl
  output := rfl
  size := Nat.le_refl _
  kept := fun _ _ _ => rfl
  wr := fun j h => by cases h
  new := fun j pl h hj => by rw [hfree j h] at hj; cases hj
theorem Run.congr (h : Run base β0 w0 nb0 d β w) (hk : ∀ j, hasK d' j = hasK d j) (hl : ∀ j, lookM d' j = lookM d j) : Run base β0 w0 nb0 d' β w where
  old := h.old
  os := h.os
  tape := h.tape
  output := h.output
  size := h.size
  kept := fun b hb hh => h.kept b hb (fun j pl hj => hh j pl ((hk j).trans hj))
  wr := fun j hj => h.wr j ((hk j).symm.trans hj)
  new := fun j pl hj hp hs => (h.new j pl hj hp hs).imp id (fun ⟨k, pk, h1, h2, h3⟩ => ⟨k, pk, (hk k).trans h1, (hl k).trans h2, h3⟩)
theorem Run.heap (h : Run base β0 w0 nb0 d β w) (hh : w'.heap = w.heap) (h1 : w'.os = w.os) (h2 : w'.tape = w.tape) (h3 : w'.output = w.output) : Run base β0 w0 nb0 d β w' where
  old := h.old
  os := h1.trans h.os
  tape := h2.trans h.tape
  output := h3.trans h.output
  size := by rw [hh]; exact h.size
  kept := fun b hb hk => by rw [hh]; exact h.kept b hb hk
  wr := h.wr
  new := h.new
theorem Run.step (h : Run base β0 w0 nb0 d β w) (s : StepR E bs β w nb eff nb' β' w') (hsub : ∀ j m, bs j = some m → lookM (d ++ base) j = some m) (hlo : nb0 ≤ nb) : Run base β0 w0 nb0 (eff ++ d) β' w' where
  old := fun j hj => (s.old j (fun hn => by unfold isNew at hn; omega)).trans (h.old j hj)
  os := s.os.trans h.os
  tape := s.tape.trans h.tape
  output := s.output.trans h.output
  size := Nat.le_trans h.size s.size
  kept := fun b hb hk => by
    have key : ∀ j pl, hasK d j = true → j < nb0 → β0 j = some pl → pl.sz ≠ 0 → b ≠ pl.b := fun j pl hj => hk j pl (by rw [hasK_append, hj]; simp)
    rw [s.kept b (Nat.lt_of_lt_of_le hb h.size) ?_, h.kept b hb key]
    intro j pl hj hn hpl hs
    by_cases hlt : j < nb0
    · rw [h.old j hlt] at hpl
      exact hk j pl (by rw [hasK_append, hj]; simp) hlt hpl hs
    · rcases h.new j pl (by omega) hpl hs with h1 | ⟨k, pk, h1, h2, h3, h4, h5, h6⟩
      · omega
      · rw [h6]; exact key k pk h1 h3 h4 h5
  wr := fun j hj hlt => by
    rw [hasK_append, Bool.or_eq_true] at hj
    rcases hj with hj | hj
    · obtain ⟨m, hm, hr⟩ := s.wr j hj (fun hn => by unfold isNew at hn; omega)
      have := hsub j m hm
      rw [lookM_append] at this
      split at this
      · rename_i hd; exact h.wr j hd hlt
      · exact ⟨m, this, hr⟩
    · exact h.wr j hj hlt
  new := fun j pl hj hpl hs => by
    have back : ∀ k pk, hasK d k = true → lookM d k = none → k < nb0 → β0 k = some pk → pk.sz ≠ 0 → hasK (eff ++ d) k = true ∧ lookM (eff ++ d) k = none := by
      intro k pk h1 h2 h3 h4 h5
      refine ⟨by rw [hasK_append, h1]; simp, ?_⟩
      rw [lookM_append]
      split
      · rename_i hk
        obtain ⟨m, hm, _⟩ := s.wr k hk (fun hn => by unfold isNew at hn; omega)
        have := hsub k m hm
        rw [lookM_append, if_pos h1, h2] at this
        cases this
      · exact h2
    have prev : ∀ j pl, nb0 ≤ j → β j = some pl → pl.sz ≠ 0 → w0.heap.size ≤ pl.b ∨ ∃ k pk, hasK (eff ++ d) k = true ∧ lookM (eff ++ d) k = none ∧ k < nb0 ∧ β0 k = some pk ∧ pk.sz ≠ 0 ∧ pl.b = pk.b := by
      intro j pl hj hpl hs
      rcases h.new j pl hj hpl hs with h1 | ⟨k, pk, h1, h2, h3, h4, h5, h6⟩
      · exact .inl h1
      · obtain ⟨g1, g2⟩ := back k pk h1 h2 h3 h4 h5
        exact .inr ⟨k, pk, g1, g2, h3, h4, h5, h6⟩
    by_cases hn : isNew nb nb' j
    · rcases (s.new j pl hn hpl hs).2 with h1 | ⟨k, pk, h1, h2, h3, h4, h5, h6⟩
      · exact .inl (Nat.le_trans h.size h1)
      · by_cases hlt : k < nb0
        · rw [h.old k hlt] at h4
          exact .inr ⟨k, pk, by rw [hasK_append, h1]; simp, by rw [lookM_append, if_pos h1, h2], hlt, h4, h5, h6⟩
        · rw [h6]
          exact prev k pk (by omega) h4 h5
    · rw [s.old j hn] at hpl
      exact prev j pl hj hpl hs

/-! Worlds with the same memory. -/
theorem memRep_heap {me : Nat → Option MB} (h : memRep E β w me) (hh : w'.heap = w.heap) : memRep E β w' me :=
  ⟨fun j m hj => by obtain ⟨pl, h1, h2⟩ := h.1 j m hj; exact ⟨pl, h1, MB.rep_keep h2 (Map.le_refl _) (fun _ => by rw [hh])⟩, h.2⟩
theorem inHeap_heap (h : inHeap β w) (hh : w'.heap = w.heap) : inHeap β w' := fun j pl h1 h2 => by rw [hh]; exact h j pl h1 h2
theorem memRep_ext {me me' : Nat → Option MB} (h : memRep E β w me) (he : ∀ j, me' j = me j) : memRep E β w me' := by
  have : me' = me := funext he
  rw [this]; exact h
end

/-! A function's run at a point. -/
structure En where
  n : Nat
  base : List (Nat × Option MB)
  β0 : Map
  w0 : World
  nb0 : Nat
structure Cur (E : Ev) (en : En) (TM : List (Nat × V)) (ME d : List (Nat × Option MB)) (β : Map) (a : Act) (w : World) : Prop where
  tm : tmRep E β (look TM) a.tmps
  me : memRep E β w (lookM ME)
  heap : inHeap β w
  size : a.tmps.size = en.n
  defers : a.defers = []
  eq : ∀ j, lookM ME j = lookM (d ++ en.base) j
  run : Run en.base en.β0 en.w0 en.nb0 d β w

section
variable {Φ : Sig} {ρ : Env} {en : En}
theorem Cur.to {TM TM' : List (Nat × V)} {ME ME' d d' : List (Nat × Option MB)} {β : Map} {a : Act} {w : World} {E : Ev} (h : Cur E en TM ME d β a w) (h1 : ∀ t, look TM' t = look TM t) (h2 : ∀ j, lookM ME' j = lookM ME j) (h3 : ∀ j, hasK d' j = hasK d j) (h4 : ∀ j, lookM d' j = lookM d j) : Cur E en TM' ME' d' β a w where
  tm := by have : look TM' = look TM := funext h1; rw [this]; exact h.tm
  me := memRep_ext h.me h2
  heap := h.heap
  size := h.size
  defers := h.defers
  eq := fun j => by rw [h2, h.eq, lookM_append, lookM_append, h3, h4]
  run := h.run.congr h3 h4
/-- One operation. -/
theorem item_step {X : Ctx} (hX : CallOk X.P Φ X.call) {ops : Array Oper} {i : Nat} {o : Oper} (ho : ops[i]? = some o) {S : St} {it : Item} (hs : OpSpec X Φ ρ ops en.n o S it) {TM : List (Nat × V)} {ME d : List (Nat × Option MB)} {a : Act} {w : World} {β : Map}
    (ht : ∀ t ∈ it.sr, look TM t = look S.tm t) (hmm : ∀ j ∈ it.br, lookM ME j = lookM S.me j) (hc : Cur (T.den Φ ρ) en TM ME d β a w) (hfree : ∀ j, isNew it.nb it.nb' j → β j = none) (hlo : en.nb0 ≤ it.nb)
    (K : Act → World → Prop) (Q : Exit → Act → World → Prop)
    (hK : ∀ a' w' β', Cur (T.den Φ ρ) en (bind1 it.dst it.val ++ TM) (it.eff ++ ME) (it.eff ++ d) β' a' w' → β.le β' → (∀ j, ¬ isNew it.nb it.nb' j → β' j = β j) → K a' w') : wpOp X.P ops Q i K a w := by
  refine op_sim hX ho hs ht hmm hc.tm hc.me hc.heap hfree K Q (fun v w' β' hv hst => ?_)
  have hdst := hs.2.1
  refine hK _ _ β' ⟨?_, ?_, ?_, ?_, ?_, ?_, ?_⟩ hst.le hst.old
  · rw [hdst]
    exact tmRep_put (tmRep_le hc.tm hst.le) hv (by rw [hc.size]; exact hs.1)
  · refine hst.memIn hc.heap hc.me (fun j m h => h) (fun j hj => ?_)
    cases hl : lookM ME j with
    | none => rfl
    | some m =>
      obtain ⟨pl, hpl, _⟩ := hc.me.1 j m hl
      rw [hfree j hj] at hpl
      cases hpl
  · exact hst.heapIn hc.heap
  · rw [put_size]; exact hc.size
  · rw [put_defers]; exact hc.defers
  · intro j
    rw [List.append_assoc, lookM_append, hc.eq, ← lookM_append]
  · exact hc.run.step hst (fun j m h => by rw [← hc.eq]; exact h) hlo

/-! Regions in the text's order. -/
theorem isNew_of {it : Item} {nb j : Nat} (h : isNew it.nb it.nb' j) (hn : it.nb = nb) : nb ≤ j := by unfold isNew at h; omega
theorem OpSpec.nb_le {X : Ctx} {ops : Array Oper} {n : Nat} {o : Oper} {S : St} {it : Item} (h : OpSpec X Φ ρ ops n o S it) : it.nb ≤ it.nb' := h.2.2.2.2.1
theorem seq_sound {X : Ctx} (hX : CallOk X.P Φ X.call) {ops : Array Oper} {Q : Exit → Act → World → Prop} {S' : St} : ∀ (os : List Oper) (i : Nat) (S : St) (its : List Item), (∀ k o, os[k]? = some o → ops[i + k]? = some o) → (evOps X ops en.n os S).val (T.den Φ ρ) = some (S', its) → S.fa.hold Φ ρ → ∀ (β : Map) (a : Act) (w : World) (d : List (Nat × Option MB)), Cur (T.den Φ ρ) en S.tm S.me d β a w →
    (∀ j, S.nb ≤ j → β j = none) → en.nb0 ≤ S.nb →
    (∀ a' w' β' p q, S'.fa.hold Φ ρ → S'.nv = S.nv → S.nb ≤ S'.nb → S'.tm = p ++ S.tm → S'.me = q ++ S.me → Cur (T.den Φ ρ) en S'.tm S'.me (q ++ d) β' a' w' → (∀ j, S'.nb ≤ j → β' j = none) → (∀ j, j < S.nb → β' j = β j) → Q .normal a' w') →
    wpOps X.P ops Q (List.range' i os.length) a w
  | [], i, S, its, hos, hev, hf, β, a, w, d, hc, hfree, hlo, hQ => by
    simp only [evOps, O.val] at hev
    injection hev with hev
    injection hev with e1 e2
    subst e1
    exact hQ a w β [] [] hf rfl (Nat.le_refl _) rfl rfl hc hfree (fun _ _ => rfl)
  | o :: os, i, S, its, hos, hev, hf, β, a, w, d, hc, hfree, hlo, hQ => by
    simp only [evOps] at hev
    obtain ⟨⟨it, fa⟩, h1, h2⟩ := O.bind_some hev
    obtain ⟨⟨S1, its1⟩, h3, h4⟩ := O.bind_some h2
    simp only [O.val] at h4
    injection h4 with h4
    injection h4 with e1 e2
    subst e1
    obtain ⟨hfa, hsp⟩ := evOp_spec h1 hf
    have hnb := hsp.2.2.1
    have hle := hsp.nb_le
    rw [List.length_cons, List.range'_succ, wpOps_cons]
    refine item_step hX (by simpa using hos 0 o rfl) hsp (fun _ _ => rfl) (fun _ _ => rfl) hc (fun j hj => hfree j (isNew_of hj hnb)) (by omega) _ _ (fun a' w' β' hc' hbl hbo => ?_)
    refine seq_sound hX os (i + 1) (S.put it fa) its1 (fun k o' hk => ?_) h3 hfa β' a' w' (it.eff ++ d) hc' ?_ ?_ ?_
    · have := hos (k + 1) o' (by simpa using hk)
      rw [show i + 1 + k = i + (k + 1) from by omega]; exact this
    · intro j hj
      have hj : it.nb' ≤ j := hj
      rw [hbo j (fun hn => by unfold isNew at hn; omega)]
      exact hfree j (by omega)
    · show en.nb0 ≤ it.nb'
      omega
    · intro a'' w'' β'' p q g1 g2 g3 g4 g5 g6 g7 g8
      have g3 : it.nb' ≤ S1.nb := g3
      refine hQ a'' w'' β'' (p ++ bind1 it.dst it.val) (q ++ it.eff) g1 g2 (by omega) ?_ ?_ ?_ g7 ?_
      · rw [g4, List.append_assoc]; rfl
      · rw [g5, List.append_assoc]; rfl
      · rw [List.append_assoc]; exact g6
      · intro j hj
        have : (S.put it fa).nb = it.nb' := rfl
        rw [g8 j (by omega), hbo j (fun hn => by unfold isNew at hn; omega)]
end
end Go.Proofs.Ytlgiibchnnaceaa.Sx
