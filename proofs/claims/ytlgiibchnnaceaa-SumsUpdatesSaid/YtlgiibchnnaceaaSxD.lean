/- Sx, part 8: each operation comes to what the model does. Conditions: none. -/
import Derived.Test.YtlgiibchnnaceaaSxQ
import Derived.Laws.Pointers
import Derived.Laws.Small
set_option linter.unusedVariables false
set_option linter.unusedSimpArgs false
namespace Go.Proofs.Ytlgiibchnnaceaa.Sx
open Go Go.RowKit

def repVs (E : Ev) (β : Map) : List V → List Value → Prop
  | [], [] => True
  | x :: xs, v :: vs => x.rep E β v ∧ repVs E β xs vs
  | _, _ => False
/-- An operation's run, told by terms. -/
def Did (E : Ev) (bs : Nat → Option MB) (β : Map) (w : World) (nb : Nat) (res : Res) (r : Result Next) : Prop :=
  ∃ v w' β', (r = .ok (.value v) w' ∨ (r = .ok .skip w' ∧ v = undef)) ∧ res.val.rep E β' v ∧ StepR E bs β w nb res.eff res.nb β' w'
section
variable {Φ : Sig} {ρ : Env} {β : Map} {w : World} {P : Program} {bs : Bs} {nb : Nat} {res : Res}

theorem Did.same {E : Ev} {bs : Nat → Option MB} {r : Result Next} {x : V} {v : Value} (hr : r = .ok (.value v) w) (hx : x.rep E β v) : Did E bs β w nb ⟨x, [], nb⟩ r :=
  ⟨v, w, β, .inl hr, hx, StepR.pure _ _ _ _ _⟩
theorem rv_some {x : V} {E : Ev} (h : (rv nb x).val E = some res) : res = ⟨x, [], nb⟩ := by
  simp only [rv, O.val] at h; injection h with h; exact h.symm
theorem pick_ok {c a b : V} {cv av bv : Value} (h : (opPick nb c a b).val (T.den Φ ρ) = some res) (hc : c.rep (T.den Φ ρ) β cv) (ha : a.rep (T.den Φ ρ) β av) (hb : b.rep (T.den Φ ρ) β bv) :
    Did (T.den Φ ρ) (look bs) β w nb res ((do pure (.value (if ← asBool cv then av else bv)) : Sem Next).run P w) := by
  unfold opPick at h
  split at h
  · rename_i t a' b'
    rw [splT_val hEb] at h
    simp only [V.rep, W.rep, C.rep] at hc
    subst hc
    split at h
    · rename_i ht
      rw [rv_some h]
      exact Did.same (by simp [asBool, ht]) ha
    · rename_i ht
      rw [rv_some h]
      exact Did.same (by simp [asBool, ht]) hb
  · cases h
theorem alloc_ok {e : TypeId} (h : (opAlloc P e nb).val (T.den Φ ρ) = some res) (hfree : isNew nb res.nb nb → β nb = none) :
    Did (T.den Φ ρ) (look bs) β w nb res ((do pure (.value (← Instr.alloc e true (.tuple #[]))) : Sem Next).run P w) := by
  unfold opAlloc at h
  split at h
  · rename_i cs hcs
    simp only [O.val] at h
    injection h with h
    subst h
    replace hfree := hfree ⟨Nat.le_refl _, Nat.lt_succ_self _⟩
    obtain ⟨i, z, hi, hz, hr⟩ := zeroC_ok (Φ := Φ) (ρ := ρ) (β := β) hcs
    refine ⟨.pointer (some ⟨w.heap.size, 0, none⟩), w.alloc (.cells z.cells e), β.with nb ⟨w.heap.size, 0, z.cells.size⟩, .inl ?_, ⟨_, Map.with_self _ _ _, by simp⟩, StepR.alloc rfl rfl rfl rfl hfree (Blk.cells_new rfl (repL_le (Map.le_with hfree) hr))⟩
    simp [Instr.alloc, run_zero hi hz w, newVar, newRow]
  · cases h
theorem V.cells_ok {x : V} {cs : List C} {v : Value} (h : x.cells? = some cs) (hx : x.rep (T.den Φ ρ) β v) : repL (T.den Φ ρ) β cs v.cells.toList := by
  cases x with
  | w x => simp only [V.cells?] at h; injection h with h; subst h; exact W.rep_cells hx
  | t _ => cases h
  | u => cases h
theorem box_ok {e : TypeId} {x : V} {xv : Value} (h : (opBox nb x).val (T.den Φ ρ) = some res) (hx : x.rep (T.den Φ ρ) β xv) (hfree : isNew nb res.nb nb → β nb = none) :
    Did (T.den Φ ρ) (look bs) β w nb res ((do pure (.value (← Instr.box e xv)) : Sem Next).run P w) := by
  unfold opBox at h
  split at h
  · rename_i cs hcs
    simp only [O.val] at h
    injection h with h
    subst h
    replace hfree := hfree ⟨Nat.le_refl _, Nat.lt_succ_self _⟩
    refine ⟨.pointer (some ⟨w.heap.size, 0, none⟩), w.alloc (.cells xv.cells e), β.with nb ⟨w.heap.size, 0, xv.cells.size⟩, .inl ?_, ⟨_, Map.with_self _ _ _, by simp⟩, StepR.alloc rfl rfl rfl rfl hfree (Blk.cells_new rfl (repL_le (Map.le_with hfree) (V.cells_ok hcs hx)))⟩
    simp [Instr.box, newVar, newRow]
  · cases h

/-! Building. -/
def partsRel (E : Ev) (β : Map) (l : List (Nat × List C)) (m : List (Nat × Value)) : Prop :=
  l.length = m.length ∧ ∀ (i : Nat) (p : Nat × List C) (q : Nat × Value), l[i]? = some p → m[i]? = some q → p.1 = q.1 ∧ repL E β p.2 q.2.cells.toList
theorem fold_put : ∀ (vs : List Value) (k off : Nat) (cells : Array Value), ((vs.zipIdx k).foldl (fun cs (x : Value × Nat) => cs.setIfInBounds (off + x.2) x.1) cells).size = cells.size ∧
    ∀ i, ((vs.zipIdx k).foldl (fun cs (x : Value × Nat) => cs.setIfInBounds (off + x.2) x.1) cells)[i]? = if off + k ≤ i ∧ i < off + k + vs.length ∧ i < cells.size then vs[i - (off + k)]? else cells[i]?
  | [], k, off, cells => ⟨rfl, fun i => by simp; intro h1 h2; omega⟩
  | v :: vs, k, off, cells => by
    obtain ⟨h1, h2⟩ := fold_put vs (k + 1) off (cells.setIfInBounds (off + k) v)
    refine ⟨by simpa using h1, fun i => ?_⟩
    simp only [List.zipIdx_cons, List.foldl_cons]
    rw [h2 i]
    simp only [Array.size_setIfInBounds, List.length_cons]
    by_cases hc : off + (k + 1) ≤ i ∧ i < off + (k + 1) + vs.length ∧ i < cells.size
    · rw [if_pos hc, if_pos (by omega)]
      rw [show i - (off + k) = (i - (off + (k + 1))) + 1 by omega]
      simp
    · rw [if_neg hc]
      by_cases he : i = off + k
      · subst he
        by_cases hs : off + k < cells.size
        · rw [if_pos (by omega)]
          simp [hs]
        · rw [if_neg (by omega)]
          simp [hs]
      · rw [Array.getElem?_setIfInBounds_ne (by omega)]
        rw [if_neg (by omega)]
theorem fill_ok {place : Nat → Option (Nat × Nat)} : ∀ {parts : List (Nat × List C)} {vs : List (Nat × Value)} {cells cells' : List C} {arr : Array Value}, fillC place cells parts = some cells' → repL (T.den Φ ρ) β cells arr.toList →
    partsRel (T.den Φ ρ) β parts vs → ∃ arr', Instr.fill place arr vs = some arr' ∧ repL (T.den Φ ρ) β cells' arr'.toList
  | [], [], cells, cells', arr, h, hr, _ => by simp [fillC] at h; subst h; exact ⟨arr, rfl, hr⟩
  | [], _ :: _, _, _, _, _, _, hp => by simp [partsRel] at hp
  | _ :: _, [], _, _, _, _, _, hp => by simp [partsRel] at hp
  | (i, cs) :: parts, (j, v) :: vs, cells, cells', arr, h, hr, hp => by
    obtain ⟨hij, hcv⟩ := hp.2 0 _ _ rfl rfl
    simp only at hij hcv
    subst hij
    simp only [fillC] at h
    split at h
    · cases h
    · rename_i off size hpl
      split at h
      · rename_i hsz
        split at h
        · rename_i hle
          have hl1 := repL_length hr
          have hl2 := repL_length hcv
          simp only [Array.length_toList] at hl1 hl2
          obtain ⟨hs1, hs2⟩ := fold_put v.cells.toList 0 off arr
          have hz : (v.cells.zipIdx.foldl (fun cs (x : Value × Nat) => cs.setIfInBounds (off + x.2) x.1) arr) = ((v.cells.toList.zipIdx 0).foldl (fun cs (x : Value × Nat) => cs.setIfInBounds (off + x.2) x.1) arr) := by
            rw [← Array.foldl_toList, Array.toList_zipIdx]
          have hrep : repL (T.den Φ ρ) β (putL cells off cs) (v.cells.zipIdx.foldl (fun cs (x : Value × Nat) => cs.setIfInBounds (off + x.2) x.1) arr).toList := by
            rw [hz]
            refine repL_of_get (by rw [putL_length hle]; exact hl1.trans (hs1.symm.trans (Array.length_toList ..).symm)) (fun k x hx => ?_)
            rw [putL_get hle] at hx
            rw [Array.getElem?_toList, hs2 k]
            simp only [Nat.add_zero, Array.length_toList]
            split at hx
            · rw [if_neg (by omega), ← Array.getElem?_toList]
              exact repL_get hr hx
            · split at hx
              · rw [if_pos (by omega)]
                exact repL_get hcv hx
              · rw [if_neg (by omega), ← Array.getElem?_toList]
                exact repL_get hr hx
          obtain ⟨arr', h1, h2⟩ := fill_ok (vs := vs) h hrep ⟨by simpa using hp.1, fun k p q hk hq => hp.2 (k + 1) p q (by simpa using hk) (by simpa using hq)⟩
          refine ⟨arr', ?_, h2⟩
          simp only [Instr.fill, hpl]
          rw [if_neg (by simp; omega)]
          exact h1
        · cases h
      · cases h
theorem parts_ok {ev : Operand → Value} : ∀ {ps : List (Nat × Operand)} {vs : List V} {parts : List (Nat × List C)}, partsV ps vs = some parts → repVs (T.den Φ ρ) β vs (ps.map fun p => ev p.2) →
    partsRel (T.den Φ ρ) β parts (ps.map fun p => (p.1, ev p.2))
  | [], [], parts, h, _ => by simp [partsV] at h; subst h; simp [partsRel]
  | [], _ :: _, _, h, _ => by simp [partsV] at h
  | _ :: _, [], _, h, _ => by simp [partsV] at h
  | (i, x) :: ps, v :: vs, parts, h, hr => by
    simp only [partsV] at h
    split at h
    · rename_i cs hcs
      split at h
      · rename_i r hrr
        injection h with h
        subst h
        obtain ⟨h1, h2⟩ := parts_ok (ev := ev) hrr hr.2
        refine ⟨by simpa using h1, fun k p q hk hq => ?_⟩
        cases k with
        | zero =>
          simp at hk hq
          subst hk hq
          exact ⟨rfl, V.cells_ok hcs hr.1⟩
        | succ k => exact h2 k p q (by simpa using hk) (by simpa using hq)
      · cases h
    · cases h
theorem run_mapM_places {fields : Array Field} (hs : ∀ f ∈ fields.toList, ∃ n, sizeT P f.type = some n) (w : World) :
    (fields.mapM fun f => do pure (f.offset, ← sizeOf f.type) : Sem (Array (Nat × Nat))).run P w = .ok (fields.map fun f => (f.offset, P.cellsOf f.type)) w := by
  rw [Array.mapM_eq_mapM_toList]
  have key : ∀ (l : List Field), (∀ f ∈ l, ∃ n, sizeT P f.type = some n) → (l.mapM fun f => do pure (f.offset, ← sizeOf f.type) : Sem (List (Nat × Nat))).run P w = .ok (l.map fun f => (f.offset, P.cellsOf f.type)) w := by
    intro l
    induction l with
    | nil => intro _; simp
    | cons f l ih =>
      intro h
      obtain ⟨n, hn⟩ := h f List.mem_cons_self
      have h1 := sizeT_ok hn w
      have h2 : P.cellsOf f.type = n := by
        unfold sizeT at hn
        obtain ⟨i, hi, rfl⟩ := Option.map_eq_some_iff.mp hn
        simp [Program.cellsOf, hi]
      simp only [List.mapM_cons, Sem.run_bind, h1, Result.andThen_ok, Sem.run_pure, ih (fun g hg => h g (List.mem_cons_of_mem _ hg)), List.map_cons, h2]
  simp only [Sem.run_map, key fields.toList hs, Result.andThen_ok]
  congr 1
  apply Array.ext'
  simp
theorem build_ok {t : TypeId} {ps : Array (Nat × Operand)} {vs : List V} {ev : Operand → Value} (h : (opBuild P t ps.toList vs nb).val (T.den Φ ρ) = some res) (hv : repVs (T.den Φ ρ) β vs (ps.toList.map fun p => ev p.2)) :
    Did (T.den Φ ρ) (look bs) β w nb res ((do pure (.value (← Instr.build t (ps.map fun (i, x) => (i, ev x)))) : Sem Next).run P w) := by
  unfold opBuild at h
  split at h
  · cases h
  · rename_i z hz
    split at h
    · cases h
    · rename_i parts hparts
      split at h
      · rename_i place hpl
        split at h
        · rename_i cs hcs
          rw [rv_some h]
          obtain ⟨i, zv, hi, hzv, hr⟩ := zeroC_ok (Φ := Φ) (ρ := ρ) (β := β) hz
          have hp := parts_ok (Φ := Φ) (ρ := ρ) (β := β) (ev := ev) hparts hv
          have hl : (ps.map fun (i, x) => (i, ev x)).toList = ps.toList.map fun p => (p.1, ev p.2) := by simp
          obtain ⟨arr, hf, hra⟩ := fill_ok (arr := zv.cells) hcs hr hp
          refine Did.same (v := .agg arr) ?_ ⟨arr, rfl, hra⟩
          unfold placesT at hpl
          split at hpl
          · rename_i fields hu
            split at hpl
            · rename_i hall
              injection hpl with hpl
              subst hpl
              have hsz : ∀ f ∈ fields.toList, ∃ n, sizeT P f.type = some n := fun f hf => Option.isSome_iff_exists.mp ((List.all_eq_true.mp hall) f hf)
              have hm := run_mapM_places hsz w
              have hf' : Instr.fill (fun i => (fields.map fun f => (f.offset, P.cellsOf f.type))[i]?) zv.cells (ps.map fun (i, x) => (i, ev x)).toList = some arr := by
                rw [hl, ← hf]
                congr 1
                funext i
                simp
              simp only [Instr.build, Sem.run_bind, run_zero hi hzv w, Result.andThen_ok, run_underlying hu w, hm, hf', Sem.run_pure]
            · cases hpl
          · rename_i n e hu
            split at hpl
            · rename_i s hs
              injection hpl with hpl
              subst hpl
              rw [← hl] at hf
              simp only [Instr.build, Sem.run_bind, run_zero hi hzv w, Result.andThen_ok, run_underlying hu w, sizeT_ok hs w, hf, Sem.run_pure]
            · cases hpl
          · cases hpl
        · cases h
      · cases h

/-! Rows of whole numbers. -/
theorem kbeqL_eq : ∀ {a b : List IntKind}, kbeqL a b = true → a = b
  | [], [], _ => rfl
  | [], _ :: _, h => by simp [kbeqL] at h
  | _ :: _, [], h => by simp [kbeqL] at h
  | x :: a, y :: b, h => by
    simp only [kbeqL, Bool.and_eq_true] at h
    rw [knum_inj (Nat.eq_of_beq_eq_true h.1), kbeqL_eq h.2]
theorem intsT_ok : ∀ {cs : List C} {ks : List IntKind} {l : T} {vs : List Value}, intsT cs = some (ks, l) → repL (T.den Φ ρ) β cs vs → ks.length = cs.length ∧ (l.den Φ ρ).list.length = cs.length ∧ vs = ints ks (l.den Φ ρ).list
  | [], ks, l, [], h, _ => by simp [intsT] at h; obtain ⟨rfl, rfl⟩ := h; exact ⟨rfl, rfl, rfl⟩
  | [], _, _, _ :: _, _, hr => hr.elim
  | .i k t :: cs, ks, l, [], _, hr => hr.elim
  | .i k t :: cs, ks, l, v :: vs, h, hr => by
    simp only [intsT] at h
    split at h
    · rename_i ks' l' h'
      injection h with h
      injection h with h1 h2
      subst h1 h2
      obtain ⟨a, b, c⟩ := intsT_ok h' hr.2
      have hv := hr.1
      simp only [C.rep] at hv
      exact ⟨by simp [a], by simp [T.den, b], by rw [hv, c]; rfl⟩
    · cases h
  | .b _ :: _, _, _, _, h, _ | .p .. :: _, _, _, _, h, _ | .pn :: _, _, _, _, h, _ | .s .. :: _, _, _, _, h, _ | .sn :: _, _, _, _, h, _ | .sz :: _, _, _, _, h, _ | .fn _ :: _, _, _, _, h, _ | .nf :: _, _, _, _, h, _ => by simp [intsT] at h
theorem ints_get : ∀ (ks : List IntKind) (xs : List Int) (i : Nat) (z : Int) (k : IntKind), ks[i]? = some k → xs[i]? = some z → (ints ks xs)[i]? = some (.int k z)
  | [], _, i, _, _, h, _ => by simp at h
  | _ :: _, [], i, _, _, _, h => by simp at h
  | k :: ks, x :: xs, 0, z, k', h, h' => by simp at h h'; subst h h'; rfl
  | k :: ks, x :: xs, i + 1, z, k', h, h' => by simp at h h'; simpa [ints] using ints_get ks xs i z k' h h'
theorem cyc_ok {ks : List IntKind} : ∀ {l : List IntKind} {i : Nat}, cyc ks i l = true → ∀ (j : Nat) (k : IntKind), l[j]? = some k → k = ks.getD ((i + j) % ks.length) .u8
  | [], _, _, j, k, h => by simp at h
  | x :: l, i, h, j, k, hj => by
    simp only [cyc, Bool.and_eq_true] at h
    cases j with
    | zero =>
      simp at hj
      subst hj
      simpa using knum_inj (Nat.eq_of_beq_eq_true h.1)
    | succ j =>
      have := cyc_ok h.2 j k (by simpa using hj)
      rw [show i + (j + 1) = i + 1 + j by omega]; exact this
/-- Cells that are all whole numbers of kinds that come again and again, as a row. -/
theorem row_of_cells {cs : List C} {ks : List IntKind} {l : T} {st : Nat} {vs : List Value} (hi : intsT cs = some (ks, l)) (hc : cyc (ks.take st) 0 ks = true) (hr : repL (T.den Φ ρ) β cs vs) :
    (l.den Φ ρ).list.length = vs.length ∧ ∀ (i : Nat) (z : Int), (l.den Φ ρ).list[i]? = some z → vs[i]? = some (.int ((ks.take st).getD (i % (ks.take st).length) .u8) z) := by
  obtain ⟨h1, h2, h3⟩ := intsT_ok hi hr
  refine ⟨by rw [h2]; exact repL_length hr, fun i z hz => ?_⟩
  have hlt := (List.getElem?_eq_some_iff.1 hz).1
  have hk : ks[i]? = some ks[i] := List.getElem?_eq_getElem (by omega)
  have := cyc_ok hc i _ hk
  rw [Nat.zero_add] at this
  rw [h3, ← this]
  exact ints_get ks _ i z _ hk hz
theorem rowOrCells_new {w1 : World} {cs : List C} {st : Nat} {arr : Array Value} {ty : TypeId} (h0 : 0 < st) (hw : w1.heap.size = w.heap.size) (hr : repL (T.den Φ ρ) β cs arr.toList) :
    (rowOrCells st cs).rep (T.den Φ ρ) β (w1.alloc (.cells arr ty)) ⟨w.heap.size, 0, arr.size⟩ := by
  unfold rowOrCells
  split
  · rename_i k ks l hi
    split
    · rename_i hc
      obtain ⟨h1, h2⟩ := row_of_cells hi hc hr
      refine Blk.row_new hw ?_ (by rw [h1]; simp) (fun i z hz => by simpa using h2 i z hz)
      cases st with
      | zero => omega
      | succ st => simp
    · exact Blk.cells_new hw hr
  · exact Blk.cells_new hw hr
theorem copies_rep {zs : List C} {vs : List Value} (h : repL (T.den Φ ρ) β zs vs) : ∀ n, repL (T.den Φ ρ) β (copies zs n) (copies vs n)
  | 0 => trivial
  | n + 1 => repL_append h (copies_rep h n)
theorem copies_get {α : Type} [Inhabited α] (z : Array α) : ∀ (n i : Nat), i < n * z.size → (copies z.toList n)[i]? = some z[i % z.size]!
  | 0, i, h => by omega
  | n + 1, i, h => by
    rw [Nat.succ_mul] at h
    simp only [copies]
    by_cases hi : i < z.size
    · rw [List.getElem?_append_left (by simpa using hi), Nat.mod_eq_of_lt hi]
      simp [hi]
    · rw [List.getElem?_append_right (by simp; omega)]
      simp only [Array.length_toList]
      rw [copies_get z n (i - z.size) (by omega)]
      congr 2
      exact (Nat.mod_eq_sub_mod (by omega)).symm
theorem range_copies (z : Array Value) (n : Nat) (hz : 0 < z.size) : ((Array.range (n * z.size)).map (z[· % z.size]!)).toList = copies z.toList n := by
  apply List.ext_getElem?
  intro i
  by_cases hi : i < n * z.size
  · rw [copies_get z n i hi]
    simp [hi]
  · rw [List.getElem?_eq_none (by simp; omega), List.getElem?_eq_none (by rw [copies_length]; simp; omega)]
theorem buildSlice_ok {t : TypeId} {len : Nat} {ps : Array (Nat × Operand)} {vs : List V} {ev : Operand → Value} (h : (opBuildSlice P t len ps.toList vs nb).val (T.den Φ ρ) = some res) (hv : repVs (T.den Φ ρ) β vs (ps.toList.map fun p => ev p.2)) (hfree : isNew nb res.nb nb → β nb = none) :
    Did (T.den Φ ρ) (look bs) β w nb res ((do pure (.value (← Instr.buildSlice t len (ps.map fun (i, x) => (i, ev x)))) : Sem Next).run P w) := by
  unfold opBuildSlice at h
  split at h
  · rename_i e hu
    split at h
    · cases h
    · rename_i st hst
      split at h
      · rename_i h0
        split at h
        · rename_i hbig
          split at h
          · cases h
          · rename_i z hz
            split at h
            · rename_i hzl
              split at h
              · cases h
              · rename_i parts hparts
                split at h
                · rename_i cs hcs
                  simp only [O.val] at h
                  injection h with h
                  subst h
                  replace hfree := hfree ⟨Nat.le_refl _, Nat.lt_succ_self _⟩
                  obtain ⟨i, zv, hi, hzv, hr⟩ := zeroC_ok (Φ := Φ) (ρ := ρ) (β := β) hz
                  have hp := parts_ok (Φ := Φ) (ρ := ρ) (β := β) (ev := ev) hparts hv
                  have hl : (ps.map fun (i, x) => (i, ev x)).toList = ps.toList.map fun p => (p.1, ev p.2) := by simp
                  have hzs : zv.cells.size = st := by have := repL_length hr; simp at this; omega
                  have hrange : repL (T.den Φ ρ) β (copies z len) ((Array.range (len * st)).map (zv.cells[· % zv.cells.size]!)).toList := by
                    rw [← hzs, range_copies zv.cells len (by omega)]
                    exact copies_rep hr len
                  obtain ⟨arr, hf, hra⟩ := fill_ok (arr := ((Array.range (len * st)).map (zv.cells[· % zv.cells.size]!))) hcs hrange hp
                  rw [← hl] at hf
                  have hlen : arr.size = len * st := by
                    have h1 := repL_length hra
                    have h2 : ∀ {parts : List (Nat × List C)} {c c' : List C} {place : Nat → Option (Nat × Nat)}, fillC place c parts = some c' → c'.length = c.length := by
                      intro parts
                      induction parts with
                      | nil => intro c c' place h; simp [fillC] at h; rw [h]
                      | cons p parts ih =>
                        intro c c' place h
                        obtain ⟨i, cs⟩ := p
                        simp only [fillC] at h
                        split at h
                        · cases h
                        · split at h
                          · split at h
                            · rename_i hle
                              rw [ih h, putL_length hle]
                            · cases h
                          · cases h
                    rw [h2 hcs, copies_length, hzl] at h1
                    simp at h1; omega
                  have hnb : ¬ (2 ^ 24 < len * st) := by omega
                  refine ⟨.slice (some ⟨w.heap.size, 0, none⟩) len len, w.alloc (.cells arr e), β.with nb ⟨w.heap.size, 0, arr.size⟩, .inl ?_, ⟨_, Map.with_self _ _ _, _, _, _, rfl, by simp [T.den], Nat.le_refl _, by simp [T.den], by simp [T.den, hlen], fun _ => by simp [T.den]⟩,
                    StepR.alloc rfl rfl rfl rfl hfree (rowOrCells_new h0 rfl (repL_le (Map.le_with hfree) hra))⟩
                  simp only [Instr.buildSlice, Sem.run_bind, run_underlying hu w, Result.andThen_ok, sizeT_ok hst w]
                  rw [if_neg (by simpa using hnb)]
                  by_cases h00 : len * st = 0
                  · rw [h00] at hf
                    simp only [h00, if_true, Sem.run_pure, Result.andThen_ok, Sem.run_bind]
                    have hr0 : Array.range 0 = #[] := rfl
                    rw [hr0] at hf ⊢
                    simp only [List.map_toArray, List.map_nil] at hf ⊢
                    simp only [hf, newRow, Sem.run_bind, run_newObj, Result.andThen_ok, Sem.run_pure]
                    rfl
                  · simp only [h00, if_false, Sem.run_pure, Result.andThen_ok, Sem.run_bind, run_zero hi hzv w, hf, newRow, run_newObj]
                    rfl
                · cases h
            · cases h
        · cases h
      · cases h
  · cases h
end
end Go.Proofs.Ytlgiibchnnaceaa.Sx
