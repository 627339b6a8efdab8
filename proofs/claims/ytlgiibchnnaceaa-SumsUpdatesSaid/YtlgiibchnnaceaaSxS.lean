/- Sx, part 5: what a step does to a world, and what stays. Conditions: none. -/
import Derived.Test.YtlgiibchnnaceaaSxO
import Derived.Deep.AppendSrc
import Derived.Deep.MidRow
import Derived.ChangeKeysEq
set_option linter.unusedVariables false
set_option linter.unusedSimpArgs false
namespace Go.Proofs.Ytlgiibchnnaceaa.Sx
open Go Go.RowKit

def isNew (nb nb' j : Nat) : Prop := nb ≤ j ∧ j < nb'
def inHeap (β : Map) (w : World) : Prop := ∀ j pl, β j = some pl → pl.sz ≠ 0 → pl.b < w.heap.size

/-- A step from w to w' that has made, turned and given up the blocks of eff; the new names are nb, .. -/
structure StepR (E : Ev) (bs : Nat → Option MB) (β : Map) (w : World) (nb : Nat) (eff : List (Nat × Option MB)) (nb' : Nat) (β' : Map) (w' : World) : Prop where
  ge : nb ≤ nb'
  le : β.le β'
  old : ∀ j, ¬ isNew nb nb' j → β' j = β j
  os : w'.os = w.os
  tape : w'.tape = w.tape
  output : w'.output = w.output
  size : w.heap.size ≤ w'.heap.size
  kept : ∀ b, b < w.heap.size → (∀ j pl, hasK eff j = true → ¬ isNew nb nb' j → β j = some pl → pl.sz ≠ 0 → b ≠ pl.b) → w'.heap[b]? = w.heap[b]?
  mem : ∀ j m, lookM eff j = some m → ∃ pl, β' j = some pl ∧ m.rep E β' w' pl
  wr : ∀ j, hasK eff j = true → ¬ isNew nb nb' j → ∃ m, bs j = some m ∧ m.rw = true
  new : ∀ j pl, isNew nb nb' j → β' j = some pl → pl.sz ≠ 0 → pl.b < w'.heap.size ∧
    (w.heap.size ≤ pl.b ∨ ∃ k pk, hasK eff k = true ∧ lookM eff k = none ∧ ¬ isNew nb nb' k ∧ β k = some pk ∧ pk.sz ≠ 0 ∧ pl.b = pk.b)
  excl : ∀ j j' m m' pl pl', j ≠ j' → isNew nb nb' j → isNew nb nb' j' → lookM eff j = some m → lookM eff j' = some m' → m.rw = true → β' j = some pl → β' j' = some pl' → pl.sz ≠ 0 → pl'.sz ≠ 0 → pl.b ≠ pl'.b

section
variable {E : Ev} {bs : Nat → Option MB} {β β' : Map} {w w' : World} {nb nb' : Nat} {eff : List (Nat × Option MB)}

theorem notNew_self (j : Nat) : ¬ isNew nb nb j := fun h => by unfold isNew at h; omega
theorem StepR.pure (E : Ev) (bs : Nat → Option MB) (β : Map) (w : World) (nb : Nat) : StepR E bs β w nb [] nb β w where
  ge := Nat.le_refl _
  le := Map.le_refl _
  old := fun _ _ => rfl
  os := rfl
  tape := rfl
  output := rfl
  size := Nat.le_refl _
  kept := fun _ _ _ => rfl
  mem := fun j m h => by cases h
  wr := fun j h => by cases h
  new := fun j pl h => absurd h (notNew_self j)
  excl := fun j j' m m' pl pl' _ h => absurd h (notNew_self j)
theorem StepR.heapIn (h : StepR E bs β w nb eff nb' β' w') (hb : inHeap β w) : inHeap β' w' := by
  intro j pl hj hs
  by_cases hn : isNew nb nb' j
  · exact (h.new j pl hn hj hs).1
  · rw [h.old j hn] at hj
    exact Nat.lt_of_lt_of_le (hb j pl hj hs) h.size
/-- Memory behind a step. -/
theorem StepR.memIn {mb : List (Nat × Option MB)} (h : StepR E bs β w nb eff nb' β' w') (hb : inHeap β w) (hm : memRep E β w (lookM mb)) (hsub : ∀ j m, bs j = some m → lookM mb j = some m)
    (hnew : ∀ j, isNew nb nb' j → lookM mb j = none) : memRep E β' w' (lookM (eff ++ mb)) := by
  have keep : ∀ j m, hasK eff j = false → lookM mb j = some m → ∃ pl, β' j = some pl ∧ β j = some pl ∧ m.rep E β' w' pl := by
    intro j m he hj
    have hn : ¬ isNew nb nb' j := fun hn => by rw [hnew j hn] at hj; cases hj
    obtain ⟨pl, hpl, hr⟩ := hm.1 j m hj
    refine ⟨pl, (h.old j hn).trans hpl, hpl, MB.rep_keep hr h.le (fun hs => h.kept pl.b (hb j pl hpl hs) ?_)⟩
    intro k pk hk hkn hpk hks
    obtain ⟨mk, hmk, hrwk⟩ := h.wr k hk hkn
    have hne : k ≠ j := fun e => by rw [e, he] at hk; cases hk
    exact fun e => hm.2 k j mk m pk pl hne (hsub k mk hmk) hj hrwk hpk hpl hks hs e.symm
  refine ⟨fun j m hj => ?_, ?_⟩
  · rw [lookM_append] at hj
    split at hj
    · exact h.mem j m hj
    · rename_i he
      obtain ⟨pl, h1, _, h2⟩ := keep j m (by simpa using he) hj
      exact ⟨pl, h1, h2⟩
  · intro j j' m m' pl pl' hne hj hj' hrw hpl hpl' hs hs'
    -- an old name that is still there
    have oldName : ∀ i mi, lookM (eff ++ mb) i = some mi → ¬ isNew nb nb' i → ∃ m0, lookM mb i = some m0 ∧ (mi.rw = true → m0.rw = true) := by
      intro i mi hi hn
      rw [lookM_append] at hi
      split at hi
      · rename_i he
        obtain ⟨m0, h0, hr0⟩ := h.wr i he hn
        exact ⟨m0, hsub i m0 h0, fun _ => hr0⟩
      · exact ⟨mi, hi, id⟩
    have crossed : ∀ i i' mi mi' p p', i ≠ i' → lookM (eff ++ mb) i = some mi → lookM (eff ++ mb) i' = some mi' → isNew nb nb' i → ¬ isNew nb nb' i' → β' i = some p → β' i' = some p' → p.sz ≠ 0 → p'.sz ≠ 0 → p.b ≠ p'.b := by
      intro i i' mi mi' p p' hii hi hi' hn hn' hp hp' hs hs'
      rw [h.old i' hn'] at hp'
      have hlt := hb i' p' hp' hs'
      obtain ⟨m0, h0, _⟩ := oldName i' mi' hi' hn'
      rcases (h.new i p hn hp hs).2 with hge | ⟨k, pk, hk, hkl, hkn, hpk, hks, hbk⟩
      · exact fun e => by omega
      · obtain ⟨mk, hmk, hrwk⟩ := h.wr k hk hkn
        have hki : k ≠ i' := fun e => by
          rw [← e, lookM_append, if_pos hk, hkl] at hi'
          cases hi'
        rw [hbk]
        exact hm.2 k i' mk m0 pk p' hki (hsub k mk hmk) h0 hrwk hpk hp' hks hs'
    by_cases hn : isNew nb nb' j
    · by_cases hn' : isNew nb nb' j'
      · have live : ∀ i mi, isNew nb nb' i → lookM (eff ++ mb) i = some mi → lookM eff i = some mi := by
          intro i mi hi hl
          rw [lookM_append] at hl
          split at hl
          · exact hl
          · rw [hnew i hi] at hl; cases hl
        exact h.excl j j' m m' pl pl' hne hn hn' (live j m hn hj) (live j' m' hn' hj') hrw hpl hpl' hs hs'
      · exact crossed j j' m m' pl pl' hne hj hj' hn hn' hpl hpl' hs hs'
    · by_cases hn' : isNew nb nb' j'
      · exact fun e => crossed j' j m' m pl' pl (fun e => hne e.symm) hj' hj hn' hn hpl' hpl hs' hs e.symm
      · obtain ⟨m0, h0, hr0⟩ := oldName j m hj hn
        obtain ⟨m0', h0', _⟩ := oldName j' m' hj' hn'
        rw [h.old j hn] at hpl
        rw [h.old j' hn'] at hpl'
        exact hm.2 j j' m0 m0' pl pl' hne h0 h0' (hr0 hrw) hpl hpl' hs hs'

/-! A new block. -/
def Map.with (β : Map) (j : Nat) (pl : Place) : Map := fun i => if Nat.beq i j then some pl else β i
theorem Map.with_self (β : Map) (j : Nat) (pl : Place) : (β.with j pl) j = some pl := by simp [Map.with]
theorem Map.with_other (β : Map) {i j : Nat} (pl : Place) (h : i ≠ j) : (β.with j pl) i = β i := by simp [Map.with, h]
theorem Map.le_with {β : Map} {j : Nat} {pl : Place} (h : β j = none) : β.le (β.with j pl) := by
  intro i p hi
  have hne : i ≠ j := fun e => by rw [e, h] at hi; cases hi
  rw [Map.with_other β pl hne]; exact hi
theorem isNew_one {j : Nat} : isNew nb (nb + 1) j ↔ j = nb := by unfold isNew; omega
theorem heap_alloc_self (w : World) (o : Obj) : (w.alloc o).heap[w.heap.size]? = some o := by
  show (w.heap.push o)[w.heap.size]? = _; simp
theorem size_alloc (w : World) (o : Obj) : (w.alloc o).heap.size = w.heap.size + 1 := by
  show (w.heap.push o).size = _; simp
/-- A block of cells is made (w1: w, perhaps with a draw). -/
theorem StepR.alloc {w1 : World} {arr : Array Value} {ty : TypeId} {k : Blk} (hw : w1.heap = w.heap) (hos : w1.os = w.os) (ht : w1.tape = w.tape) (ho : w1.output = w.output) (hfree : β nb = none)
    (hk : k.rep E (β.with nb ⟨w.heap.size, 0, arr.size⟩) (w1.alloc (.cells arr ty)) ⟨w.heap.size, 0, arr.size⟩) :
    StepR E bs β w nb [(nb, some ⟨true, k⟩)] (nb + 1) (β.with nb ⟨w.heap.size, 0, arr.size⟩) (w1.alloc (.cells arr ty)) where
  ge := by omega
  le := Map.le_with hfree
  old := fun j h => Map.with_other β _ (fun e => h (isNew_one.mpr e))
  os := hos
  tape := ht
  output := ho
  size := by rw [size_alloc, hw]; omega
  kept := fun b hb _ => by rw [Below.heap_alloc _ _ _ (by rw [hw]; exact hb), hw]
  mem := fun j m h => by
    simp only [lookM] at h
    split at h
    · rename_i e
      have e := Nat.eq_of_beq_eq_true e
      subst e
      injection h with h
      subst h
      refine ⟨_, Map.with_self β nb _, hk, fun _ => .inr ⟨rfl, arr, ty, ?_, Nat.le_refl _⟩⟩
      have := heap_alloc_self w1 (.cells arr ty)
      rw [hw] at this
      exact this
    · cases h
  wr := fun j h hn => by
    simp only [hasK, Bool.or_false] at h
    exact absurd (isNew_one.mpr (Nat.eq_of_beq_eq_true h).symm) hn
  new := fun j pl h hj hs => by
    have e := isNew_one.mp h
    subst e
    rw [Map.with_self] at hj
    injection hj with hj
    subst hj
    exact ⟨by rw [size_alloc, hw]; simp, .inl (Nat.le_refl _)⟩
  excl := fun j j' m m' pl pl' hne h h' => by
    have := isNew_one.mp h
    have := isNew_one.mp h'
    omega
theorem Blk.cells_new {w1 : World} {arr : Array Value} {ty : TypeId} {xs : List C} (hw : w1.heap.size = w.heap.size) (h : repL E β xs arr.toList) : (Blk.cells xs).rep E β (w1.alloc (.cells arr ty)) ⟨w.heap.size, 0, arr.size⟩ := by
  have hl := repL_length h
  refine ⟨by simp only [hl, Array.length_toList]; exact Nat.le_refl _, fun i x hx => ?_⟩
  obtain ⟨v, hv, hr⟩ := repL_get h hx
  refine ⟨v, ?_, hr⟩
  simp only [Nat.zero_add]
  rw [World.cell?_alloc_at arr ty _ _ hw.symm]
  simpa using hv
theorem Blk.row_new {w1 : World} {arr : Array Value} {ty : TypeId} {ks : List IntKind} {l : T} (hw : w1.heap.size = w.heap.size) (hk : 0 < ks.length) (hl : (E l).list.length ≤ arr.size)
    (h : ∀ (i : Nat) (z : Int), (E l).list[i]? = some z → arr[i]? = some (.int (ks.getD (i % ks.length) .u8) z)) : (Blk.row ks l).rep E β (w1.alloc (.cells arr ty)) ⟨w.heap.size, 0, arr.size⟩ := by
  refine ⟨hk, hl, fun i z hz => ?_⟩
  simp only [Nat.zero_add]
  rw [World.cell?_alloc_at arr ty _ _ hw.symm]
  exact h i z hz

/-! A write into a block of the run's own. -/
theorem setCells_heap (b : Nat) : ∀ (vs : List Value) (o : Nat) (w : World) (k : Nat), k ≠ b → (w.setCells b o vs).heap[k]? = w.heap[k]?
  | [], _, _, _, _ => rfl
  | v :: vs, o, w, k, h => by
    rw [World.setCells, setCells_heap b vs (o + 1) _ k h]
    exact Below.heap_setCell w ⟨b, o, none⟩ v k h
theorem setCells_size (b : Nat) : ∀ (vs : List Value) (o : Nat) (w : World), (w.setCells b o vs).heap.size = w.heap.size
  | [], _, _ => rfl
  | v :: vs, o, w => by rw [World.setCells, setCells_size b vs]; simp [World.setCell]
theorem setCells_os (b : Nat) : ∀ (vs : List Value) (o : Nat) (w : World), (w.setCells b o vs).os = w.os ∧ (w.setCells b o vs).tape = w.tape ∧ (w.setCells b o vs).output = w.output
  | [], _, _ => ⟨rfl, rfl, rfl⟩
  | v :: vs, o, w => by rw [World.setCells]; exact setCells_os b vs (o + 1) _
theorem setCells_own (b : Nat) : ∀ (vs : List Value) (o : Nat) {w : World} {arr : Array Value} {ty : TypeId}, w.heap[b]? = some (.cells arr ty (0, 0)) → ∃ arr', arr'.size = arr.size ∧ (w.setCells b o vs).heap[b]? = some (.cells arr' ty (0, 0))
  | [], _, _, arr, _, h => ⟨arr, rfl, h⟩
  | v :: vs, o, w, arr, ty, h => by
    obtain ⟨arr', h1, h2⟩ := setCells_own b vs (o + 1) (w := w.setCell ⟨b, o, none⟩ v) (arr := arr.setIfInBounds o v) (ty := ty) (by
      simp only [World.setCell, Array.getElem?_modify, h]
      simp)
    exact ⟨arr', by simpa using h1, h2⟩
/-- The cells of a block of the run's own are there and may be written. -/
theorem own_there {pl : Place} (h : ownRep w pl) {i : Nat} (hi : i < pl.sz) : (w.cell? ⟨pl.b, pl.o + i, none⟩).isSome = true ∧ w.frozen? ⟨pl.b, pl.o + i, none⟩ = false := by
  rcases h with h | ⟨ho, arr, ty, ha, hs⟩
  · omega
  · refine ⟨?_, ?_⟩
    · simp only [World.cell?, ha, ho, Nat.zero_add]
      simp [Array.getElem?_eq_getElem (show i < arr.size by omega)]
    · simp only [World.frozen?, ha]
      simp
theorem StepR.write {j : Nat} {m : MB} {pl : Place} {k : Blk} {vs : List Value} {off : Nat} (hj : bs j = some m) (hrw : m.rw = true) (hpl : β j = some pl) (hown : ownRep w pl) (hfit : vs.length ≠ 0 → pl.sz ≠ 0)
    (hk : k.rep E β (w.setCells pl.b off vs) pl) : StepR E bs β w nb [(j, some ⟨true, k⟩)] nb β (w.setCells pl.b off vs) where
  ge := Nat.le_refl _
  le := Map.le_refl _
  old := fun _ _ => rfl
  os := (setCells_os _ _ _ _).1
  tape := (setCells_os _ _ _ _).2.1
  output := (setCells_os _ _ _ _).2.2
  size := by rw [setCells_size]; exact Nat.le_refl _
  kept := fun b hb h => by
    by_cases hv : vs.length = 0
    · have : vs = [] := List.length_eq_zero_iff.mp hv
      rw [this]; rfl
    · exact setCells_heap _ _ _ _ _ (h j pl (by simp [hasK]) (notNew_self j) hpl (hfit hv))
  mem := fun i m' h => by
    simp only [lookM] at h
    split at h
    · rename_i e
      have e := Nat.eq_of_beq_eq_true e
      subst e
      injection h with h
      subst h
      refine ⟨pl, hpl, hk, fun _ => ?_⟩
      rcases hown with h0 | ⟨ho, arr, ty, ha, hs⟩
      · exact .inl h0
      · obtain ⟨arr', h1, h2⟩ := setCells_own pl.b vs off ha
        exact .inr ⟨ho, arr', ty, h2, by omega⟩
    · cases h
  wr := fun i h hn => by
    simp only [hasK, Bool.or_false] at h
    have e := Nat.eq_of_beq_eq_true h
    subst e
    exact ⟨m, hj, hrw⟩
  new := fun i pl h => absurd h (notNew_self i)
  excl := fun i i' m m' pl pl' _ h => absurd h (notNew_self i)
end
end Go.Proofs.Ytlgiibchnnaceaa.Sx
