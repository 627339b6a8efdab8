/- Sx: texts of this claim put together: SxD, SxE, SxF, SxG, SxW, SxX, SxI, SxJ. Conditions: none. -/
import Derived.Test.YtfhjlimdakphcaaGreatQ1
import Derived.Laws.Pointers
import Derived.Laws.Small
import Derived.Deep.Upon
import Derived.Orders
set_option linter.unusedVariables false
set_option linter.unusedSimpArgs false
namespace Go.Proofs.YtfhjlimdakphcaaGreat.Sx
open Go Go.RowKit
def repVs (E : Ev) (β : Map) : List V → List Value → Prop
 | [], [] => True
 | x :: xs, v :: vs => x.rep E β v ∧ repVs E β xs vs
 | _, _ => False
def Did (E : Ev) (bs : Nat → Option MB) (β : Map) (w : World) (nb : Nat) (res : Res) (r : Result Next) : Prop :=
 ∃ v w' β', (r = .ok (.value v) w' ∨ (r = .ok .skip w' ∧ v = undef)) ∧ res.val.rep E β' v ∧ StepR E bs β w nb res.eff res.nb β' w'
section
variable {Φ : Sig} {ρ : Env} {β : Map} {w : World} {P : Program} {bs : Bs} {nb : Nat} {res : Res}
theorem Did.same {E : Ev} {bs : Nat → Option MB} {r : Result Next} {x : V} {v : Value} (hr : r = .ok (.value v) w) (hx : x.rep E β v) : Did E bs β w nb ⟨x, [], nb⟩ r :=
 ⟨v, w, β, .inl hr, hx, StepR.pure _ _ _ _ _⟩
theorem rv_some {x : V} {E : Ev} (h : (rv nb x).val E = some res) : res = ⟨x, [], nb⟩ := by
 simp only [rv, O.val] at h; injection h with h; exact h.symm
theorem pick_ok {c a b : V} {cv av bv : Value} (h : (opPick nb c a b).val (T.den Φ ρ) = some res) (hc : c.rep (T.den Φ ρ) β cv) (ha : a.rep (T.den Φ ρ) β av) (hb : b.rep (T.den Φ ρ) β bv) :
   Did (T.den Φ ρ) (look bs) β w nb res ((do pure (.value (if ← asBool cv then av else bv)) : Sem Next).run P w) := by
 unfold opPick at h
 split at h
 · rename_i t a' b'
   rw [splT_val hEb] at h
   simp only [V.rep, W.rep, C.rep] at hc
   subst hc
   split at h
   · rename_i ht
     rw [rv_some h]
     exact Did.same (by simp [asBool, ht]) ha
   · rename_i ht
     rw [rv_some h]
     exact Did.same (by simp [asBool, ht]) hb
 · cases h
theorem alloc_ok {e : TypeId} (h : (opAlloc P e nb).val (T.den Φ ρ) = some res) (hfree : isNew nb res.nb nb → β nb = none) :
   Did (T.den Φ ρ) (look bs) β w nb res ((do pure (.value (← Instr.alloc e true (.tuple #[]))) : Sem Next).run P w) := by
 unfold opAlloc at h
 split at h
 · rename_i cs hcs
   simp only [O.val] at h
   injection h with h
   subst h
   replace hfree := hfree ⟨Nat.le_refl _, Nat.lt_succ_self _⟩
   obtain ⟨i, z, hi, hz, hr⟩ := zeroC_ok (Φ := Φ) (ρ := ρ) (β := β) hcs
   refine ⟨.pointer (some ⟨w.heap.size, 0, none⟩), w.alloc (.cells z.cells e), β.with nb ⟨w.heap.size, 0, z.cells.size⟩, .inl ?_, ⟨_, Map.with_self _ _ _, by simp⟩, StepR.alloc rfl rfl rfl rfl hfree (Blk.cells_new rfl (repL_le (Map.le_with hfree) hr))⟩
   simp [Instr.alloc, run_zero hi hz w, newVar, newRow]
 · cases h
theorem V.cells_ok {x : V} {cs : List C} {v : Value} (h : x.cells? = some cs) (hx : x.rep (T.den Φ ρ) β v) : repL (T.den Φ ρ) β cs v.cells.toList := by
 cases x with
 | w x => simp only [V.cells?] at h; injection h with h; subst h; exact W.rep_cells hx
 | t _ => cases h
 | u => cases h
theorem box_ok {e : TypeId} {x : V} {xv : Value} (h : (opBox nb x).val (T.den Φ ρ) = some res) (hx : x.rep (T.den Φ ρ) β xv) (hfree : isNew nb res.nb nb → β nb = none) :
   Did (T.den Φ ρ) (look bs) β w nb res ((do pure (.value (← Instr.box e xv)) : Sem Next).run P w) := by
 unfold opBox at h
 split at h
 · rename_i cs hcs
   simp only [O.val] at h
   injection h with h
   subst h
   replace hfree := hfree ⟨Nat.le_refl _, Nat.lt_succ_self _⟩
   refine ⟨.pointer (some ⟨w.heap.size, 0, none⟩), w.alloc (.cells xv.cells e), β.with nb ⟨w.heap.size, 0, xv.cells.size⟩, .inl ?_, ⟨_, Map.with_self _ _ _, by simp⟩, StepR.alloc rfl rfl rfl rfl hfree (Blk.cells_new rfl (repL_le (Map.le_with hfree) (V.cells_ok hcs hx)))⟩
   simp [Instr.box, newVar, newRow]
 · cases h
def partsRel (E : Ev) (β : Map) (l : List (Nat × List C)) (m : List (Nat × Value)) : Prop :=
 l.length = m.length ∧ ∀ (i : Nat) (p : Nat × List C) (q : Nat × Value), l[i]? = some p → m[i]? = some q → p.1 = q.1 ∧ repL E β p.2 q.2.cells.toList
theorem fold_put : ∀ (vs : List Value) (k off : Nat) (cells : Array Value), ((vs.zipIdx k).foldl (fun cs (x : Value × Nat) => cs.setIfInBounds (off + x.2) x.1) cells).size = cells.size ∧
   ∀ i, ((vs.zipIdx k).foldl (fun cs (x : Value × Nat) => cs.setIfInBounds (off + x.2) x.1) cells)[i]? = if off + k ≤ i ∧ i < off + k + vs.length ∧ i < cells.size then vs[i - (off + k)]? else cells[i]?
 | [], k, off, cells => ⟨rfl, fun i => by simp; intro h1 h2; omega⟩
 | v :: vs, k, off, cells => by
   obtain ⟨h1, h2⟩ := fold_put vs (k + 1) off (cells.setIfInBounds (off + k) v)
   refine ⟨by simpa using h1, fun i => ?_⟩
   simp only [List.zipIdx_cons, List.foldl_cons]
   rw [h2 i]
   simp only [Array.size_setIfInBounds, List.length_cons]
   by_cases hc : off + (k + 1) ≤ i ∧ i < off + (k + 1) + vs.length ∧ i < cells.size
   · rw [if_pos hc, if_pos (by omega)]
     rw [show i - (off + k) = (i - (off + (k + 1))) + 1 by omega]
     simp
   · rw [if_neg hc]
     by_cases he : i = off + k
     · subst he
       by_cases hs : off + k < cells.size
       · rw [if_pos (by omega)]
         simp [hs]
       · rw [if_neg (by omega)]
         simp [hs]
     · rw [Array.getElem?_setIfInBounds_ne (by omega)]
       rw [if_neg (by omega)]
theorem fill_ok {place : Nat → Option (Nat × Nat)} : ∀ {parts : List (Nat × List C)} {vs : List (Nat × Value)} {cells cells' : List C} {arr : Array Value}, fillC place cells parts = some cells' → repL (T.den Φ ρ) β cells arr.toList →
   partsRel (T.den Φ ρ) β parts vs → ∃ arr', Instr.fill place arr vs = some arr' ∧ repL (T.den Φ ρ) β cells' arr'.toList
 | [], [], cells, cells', arr, h, hr, _ => by simp [fillC] at h; subst h; exact ⟨arr, rfl, hr⟩
 | [], _ :: _, _, _, _, _, _, hp => by simp [partsRel] at hp
 | _ :: _, [], _, _, _, _, _, hp => by simp [partsRel] at hp
 | (i, cs) :: parts, (j, v) :: vs, cells, cells', arr, h, hr, hp => by
   obtain ⟨hij, hcv⟩ := hp.2 0 _ _ rfl rfl
   simp only at hij hcv
   subst hij
   simp only [fillC] at h
   split at h
   · cases h
   · rename_i off size hpl
     split at h
     · rename_i hsz
       split at h
       · rename_i hle
         have hl1 := repL_length hr
         have hl2 := repL_length hcv
         simp only [Array.length_toList] at hl1 hl2
         obtain ⟨hs1, hs2⟩ := fold_put v.cells.toList 0 off arr
         have hz : (v.cells.zipIdx.foldl (fun cs (x : Value × Nat) => cs.setIfInBounds (off + x.2) x.1) arr) = ((v.cells.toList.zipIdx 0).foldl (fun cs (x : Value × Nat) => cs.setIfInBounds (off + x.2) x.1) arr) := by
           rw [← Array.foldl_toList, Array.toList_zipIdx]
         have hrep : repL (T.den Φ ρ) β (putL cells off cs) (v.cells.zipIdx.foldl (fun cs (x : Value × Nat) => cs.setIfInBounds (off + x.2) x.1) arr).toList := by
           rw [hz]
           refine repL_of_get (by rw [putL_length hle]; exact hl1.trans (hs1.symm.trans (Array.length_toList ..).symm)) (fun k x hx => ?_)
           rw [putL_get hle] at hx
           rw [Array.getElem?_toList, hs2 k]
           simp only [Nat.add_zero, Array.length_toList]
           split at hx
           · rw [if_neg (by omega), ← Array.getElem?_toList]
             exact repL_get hr hx
           · split at hx
             · rw [if_pos (by omega)]
               exact repL_get hcv hx
             · rw [if_neg (by omega), ← Array.getElem?_toList]
               exact repL_get hr hx
         obtain ⟨arr', h1, h2⟩ := fill_ok (vs := vs) h hrep ⟨by simpa using hp.1, fun k p q hk hq => hp.2 (k + 1) p q (by simpa using hk) (by simpa using hq)⟩
         refine ⟨arr', ?_, h2⟩
         simp only [Instr.fill, hpl]
         rw [if_neg (by simp; omega)]
         exact h1
       · cases h
     · cases h
theorem parts_ok {ev : Operand → Value} : ∀ {ps : List (Nat × Operand)} {vs : List V} {parts : List (Nat × List C)}, partsV ps vs = some parts → repVs (T.den Φ ρ) β vs (ps.map fun p => ev p.2) →
   partsRel (T.den Φ ρ) β parts (ps.map fun p => (p.1, ev p.2))
 | [], [], parts, h, _ => by simp [partsV] at h; subst h; simp [partsRel]
 | [], _ :: _, _, h, _ => by simp [partsV] at h
 | _ :: _, [], _, h, _ => by simp [partsV] at h
 | (i, x) :: ps, v :: vs, parts, h, hr => by
   simp only [partsV] at h
   split at h
   · rename_i cs hcs
     split at h
     · rename_i r hrr
       injection h with h
       subst h
       obtain ⟨h1, h2⟩ := parts_ok (ev := ev) hrr hr.2
       refine ⟨by simpa using h1, fun k p q hk hq => ?_⟩
       cases k with
       | zero =>
         simp at hk hq
         subst hk hq
         exact ⟨rfl, V.cells_ok hcs hr.1⟩
       | succ k => exact h2 k p q (by simpa using hk) (by simpa using hq)
     · cases h
   · cases h
theorem run_mapM_places {fields : Array Field} (hs : ∀ f ∈ fields.toList, ∃ n, sizeT P f.type = some n) (w : World) :
   (fields.mapM fun f => do pure (f.offset, ← sizeOf f.type) : Sem (Array (Nat × Nat))).run P w = .ok (fields.map fun f => (f.offset, P.cellsOf f.type)) w := by
 rw [Array.mapM_eq_mapM_toList]
 have key : ∀ (l : List Field), (∀ f ∈ l, ∃ n, sizeT P f.type = some n) → (l.mapM fun f => do pure (f.offset, ← sizeOf f.type) : Sem (List (Nat × Nat))).run P w = .ok (l.map fun f => (f.offset, P.cellsOf f.type)) w := by
   intro l
   induction l with
   | nil => intro _; simp
   | cons f l ih =>
     intro h
     obtain ⟨n, hn⟩ := h f List.mem_cons_self
     have h1 := sizeT_ok hn w
     have h2 : P.cellsOf f.type = n := by
       unfold sizeT at hn
       obtain ⟨i, hi, rfl⟩ := Option.map_eq_some_iff.mp hn
       simp [Program.cellsOf, hi]
     simp only [List.mapM_cons, Sem.run_bind, h1, Result.andThen_ok, Sem.run_pure, ih (fun g hg => h g (List.mem_cons_of_mem _ hg)), List.map_cons, h2]
 simp only [Sem.run_map, key fields.toList hs, Result.andThen_ok]
 congr 1
 apply Array.ext'
 simp
theorem build_ok {t : TypeId} {ps : Array (Nat × Operand)} {vs : List V} {ev : Operand → Value} (h : (opBuild P t ps.toList vs nb).val (T.den Φ ρ) = some res) (hv : repVs (T.den Φ ρ) β vs (ps.toList.map fun p => ev p.2)) :
   Did (T.den Φ ρ) (look bs) β w nb res ((do pure (.value (← Instr.build t (ps.map fun (i, x) => (i, ev x)))) : Sem Next).run P w) := by
 unfold opBuild at h
 split at h
 · cases h
 · rename_i z hz
   split at h
   · cases h
   · rename_i parts hparts
     split at h
     · rename_i place hpl
       split at h
       · rename_i cs hcs
         rw [rv_some h]
         obtain ⟨i, zv, hi, hzv, hr⟩ := zeroC_ok (Φ := Φ) (ρ := ρ) (β := β) hz
         have hp := parts_ok (Φ := Φ) (ρ := ρ) (β := β) (ev := ev) hparts hv
         have hl : (ps.map fun (i, x) => (i, ev x)).toList = ps.toList.map fun p => (p.1, ev p.2) := by simp
         obtain ⟨arr, hf, hra⟩ := fill_ok (arr := zv.cells) hcs hr hp
         refine Did.same (v := .agg arr) ?_ ⟨arr, rfl, hra⟩
         unfold placesT at hpl
         split at hpl
         · rename_i fields hu
           split at hpl
           · rename_i hall
             injection hpl with hpl
             subst hpl
             have hsz : ∀ f ∈ fields.toList, ∃ n, sizeT P f.type = some n := fun f hf => Option.isSome_iff_exists.mp ((List.all_eq_true.mp hall) f hf)
             have hm := run_mapM_places hsz w
             have hf' : Instr.fill (fun i => (fields.map fun f => (f.offset, P.cellsOf f.type))[i]?) zv.cells (ps.map fun (i, x) => (i, ev x)).toList = some arr := by
               rw [hl, ← hf]
               congr 1
               funext i
               simp
             simp only [Instr.build, Sem.run_bind, run_zero hi hzv w, Result.andThen_ok, run_underlying hu w, hm, hf', Sem.run_pure]
           · cases hpl
         · rename_i n e hu
           split at hpl
           · rename_i s hs
             injection hpl with hpl
             subst hpl
             rw [← hl] at hf
             simp only [Instr.build, Sem.run_bind, run_zero hi hzv w, Result.andThen_ok, run_underlying hu w, sizeT_ok hs w, hf, Sem.run_pure]
           · cases hpl
         · cases hpl
       · cases h
     · cases h
theorem kbeqL_eq : ∀ {a b : List IntKind}, kbeqL a b = true → a = b
 | [], [], _ => rfl
 | [], _ :: _, h => by simp [kbeqL] at h
 | _ :: _, [], h => by simp [kbeqL] at h
 | x :: a, y :: b, h => by
   simp only [kbeqL, Bool.and_eq_true] at h
   rw [knum_inj (Nat.eq_of_beq_eq_true h.1), kbeqL_eq h.2]
theorem intsT_ok : ∀ {cs : List C} {ks : List IntKind} {l : T} {vs : List Value}, intsT cs = some (ks, l) → repL (T.den Φ ρ) β cs vs → ks.length = cs.length ∧ (l.den Φ ρ).list.length = cs.length ∧ vs = ints ks (l.den Φ ρ).list
 | [], ks, l, [], h, _ => by simp [intsT] at h; obtain ⟨rfl, rfl⟩ := h; exact ⟨rfl, rfl, rfl⟩
 | [], _, _, _ :: _, _, hr => hr.elim
 | .i k t :: cs, ks, l, [], _, hr => hr.elim
 | .i k t :: cs, ks, l, v :: vs, h, hr => by
   simp only [intsT] at h
   split at h
   · rename_i ks' l' h'
     injection h with h
     injection h with h1 h2
     subst h1 h2
     obtain ⟨a, b, c⟩ := intsT_ok h' hr.2
     have hv := hr.1
     simp only [C.rep] at hv
     exact ⟨by simp [a], by simp [T.den, b], by rw [hv, c]; rfl⟩
   · cases h
 | .b _ :: _, _, _, _, h, _ | .p .. :: _, _, _, _, h, _ | .pn :: _, _, _, _, h, _ | .s .. :: _, _, _, _, h, _ | .sn :: _, _, _, _, h, _ | .sz :: _, _, _, _, h, _ | .fn _ :: _, _, _, _, h, _ | .nf :: _, _, _, _, h, _ => by simp [intsT] at h
theorem ints_get : ∀ (ks : List IntKind) (xs : List Int) (i : Nat) (z : Int) (k : IntKind), ks[i]? = some k → xs[i]? = some z → (ints ks xs)[i]? = some (.int k z)
 | [], _, i, _, _, h, _ => by simp at h
 | _ :: _, [], i, _, _, _, h => by simp at h
 | k :: ks, x :: xs, 0, z, k', h, h' => by simp at h h'; subst h h'; rfl
 | k :: ks, x :: xs, i + 1, z, k', h, h' => by simp at h h'; simpa [ints] using ints_get ks xs i z k' h h'
theorem cyc_ok {ks : List IntKind} : ∀ {l : List IntKind} {i : Nat}, cyc ks i l = true → ∀ (j : Nat) (k : IntKind), l[j]? = some k → k = ks.getD ((i + j) % ks.length) .u8
 | [], _, _, j, k, h => by simp at h
 | x :: l, i, h, j, k, hj => by
   simp only [cyc, Bool.and_eq_true] at h
   cases j with
   | zero =>
     simp at hj
     subst hj
     simpa using knum_inj (Nat.eq_of_beq_eq_true h.1)
   | succ j =>
     have := cyc_ok h.2 j k (by simpa using hj)
     rw [show i + (j + 1) = i + 1 + j by omega]; exact this
theorem row_of_cells {cs : List C} {ks : List IntKind} {l : T} {st : Nat} {vs : List Value} (hi : intsT cs = some (ks, l)) (hc : cyc (ks.take st) 0 ks = true) (hr : repL (T.den Φ ρ) β cs vs) :
   (l.den Φ ρ).list.length = vs.length ∧ ∀ (i : Nat) (z : Int), (l.den Φ ρ).list[i]? = some z → vs[i]? = some (.int ((ks.take st).getD (i % (ks.take st).length) .u8) z) := by
 obtain ⟨h1, h2, h3⟩ := intsT_ok hi hr
 refine ⟨by rw [h2]; exact repL_length hr, fun i z hz => ?_⟩
 have hlt := (List.getElem?_eq_some_iff.1 hz).1
 have hk : ks[i]? = some ks[i] := List.getElem?_eq_getElem (by omega)
 have := cyc_ok hc i _ hk
 rw [Nat.zero_add] at this
 rw [h3, ← this]
 exact ints_get ks _ i z _ hk hz
theorem rowOrCells_new {w1 : World} {cs : List C} {st : Nat} {arr : Array Value} {ty : TypeId} (h0 : 0 < st) (hw : w1.heap.size = w.heap.size) (hr : repL (T.den Φ ρ) β cs arr.toList) :
   (rowOrCells st cs).rep (T.den Φ ρ) β (w1.alloc (.cells arr ty)) ⟨w.heap.size, 0, arr.size⟩ := by
 unfold rowOrCells
 split
 · rename_i k ks l hi
   split
   · rename_i hc
     obtain ⟨h1, h2⟩ := row_of_cells hi hc hr
     refine Blk.row_new hw ?_ (by rw [h1]; simp) (fun i z hz => by simpa using h2 i z hz)
     cases st with
     | zero => omega
     | succ st => simp
   · exact Blk.cells_new hw hr
 · exact Blk.cells_new hw hr
theorem copies_rep {zs : List C} {vs : List Value} (h : repL (T.den Φ ρ) β zs vs) : ∀ n, repL (T.den Φ ρ) β (copies zs n) (copies vs n)
 | 0 => trivial
 | n + 1 => repL_append h (copies_rep h n)
theorem copies_get {α : Type} [Inhabited α] (z : Array α) : ∀ (n i : Nat), i < n * z.size → (copies z.toList n)[i]? = some z[i % z.size]!
 | 0, i, h => by omega
 | n + 1, i, h => by
   rw [Nat.succ_mul] at h
   simp only [copies]
   by_cases hi : i < z.size
   · rw [List.getElem?_append_left (by simpa using hi), Nat.mod_eq_of_lt hi]
     simp [hi]
   · rw [List.getElem?_append_right (by simp; omega)]
     simp only [Array.length_toList]
     rw [copies_get z n (i - z.size) (by omega)]
     congr 2
     exact (Nat.mod_eq_sub_mod (by omega)).symm
theorem range_copies (z : Array Value) (n : Nat) (hz : 0 < z.size) : ((Array.range (n * z.size)).map (z[· % z.size]!)).toList = copies z.toList n := by
 apply List.ext_getElem?
 intro i
 by_cases hi : i < n * z.size
 · rw [copies_get z n i hi]
   simp [hi]
 · rw [List.getElem?_eq_none (by simp; omega), List.getElem?_eq_none (by rw [copies_length]; simp; omega)]
theorem buildSlice_ok {t : TypeId} {len : Nat} {ps : Array (Nat × Operand)} {vs : List V} {ev : Operand → Value} (h : (opBuildSlice P t len ps.toList vs nb).val (T.den Φ ρ) = some res) (hv : repVs (T.den Φ ρ) β vs (ps.toList.map fun p => ev p.2)) (hfree : isNew nb res.nb nb → β nb = none) :
   Did (T.den Φ ρ) (look bs) β w nb res ((do pure (.value (← Instr.buildSlice t len (ps.map fun (i, x) => (i, ev x)))) : Sem Next).run P w) := by
 unfold opBuildSlice at h
 split at h
 · rename_i e hu
   split at h
   · cases h
   · rename_i st hst
     split at h
     · rename_i h0
       split at h
       · rename_i hbig
         split at h
         · cases h
         · rename_i z hz
           split at h
           · rename_i hzl
             split at h
             · cases h
             · rename_i parts hparts
               split at h
               · rename_i cs hcs
                 simp only [O.val] at h
                 injection h with h
                 subst h
                 replace hfree := hfree ⟨Nat.le_refl _, Nat.lt_succ_self _⟩
                 obtain ⟨i, zv, hi, hzv, hr⟩ := zeroC_ok (Φ := Φ) (ρ := ρ) (β := β) hz
                 have hp := parts_ok (Φ := Φ) (ρ := ρ) (β := β) (ev := ev) hparts hv
                 have hl : (ps.map fun (i, x) => (i, ev x)).toList = ps.toList.map fun p => (p.1, ev p.2) := by simp
                 have hzs : zv.cells.size = st := by have := repL_length hr; simp at this; omega
                 have hrange : repL (T.den Φ ρ) β (copies z len) ((Array.range (len * st)).map (zv.cells[· % zv.cells.size]!)).toList := by
                   rw [← hzs, range_copies zv.cells len (by omega)]
                   exact copies_rep hr len
                 obtain ⟨arr, hf, hra⟩ := fill_ok (arr := ((Array.range (len * st)).map (zv.cells[· % zv.cells.size]!))) hcs hrange hp
                 rw [← hl] at hf
                 have hlen : arr.size = len * st := by
                   have h1 := repL_length hra
                   have h2 : ∀ {parts : List (Nat × List C)} {c c' : List C} {place : Nat → Option (Nat × Nat)}, fillC place c parts = some c' → c'.length = c.length := by
                     intro parts
                     induction parts with
                     | nil => intro c c' place h; simp [fillC] at h; rw [h]
                     | cons p parts ih =>
                       intro c c' place h
                       obtain ⟨i, cs⟩ := p
                       simp only [fillC] at h
                       split at h
                       · cases h
                       · split at h
                         · split at h
                           · rename_i hle
                             rw [ih h, putL_length hle]
                           · cases h
                         · cases h
                   rw [h2 hcs, copies_length, hzl] at h1
                   simp at h1; omega
                 have hnb : ¬ (2 ^ 24 < len * st) := by omega
                 refine ⟨.slice (some ⟨w.heap.size, 0, none⟩) len len, w.alloc (.cells arr e), β.with nb ⟨w.heap.size, 0, arr.size⟩, .inl ?_, ⟨_, Map.with_self _ _ _, _, _, _, rfl, by simp [T.den], Nat.le_refl _, by simp [T.den], by simp [T.den, hlen], fun _ => by simp [T.den]⟩,
                   StepR.alloc rfl rfl rfl rfl hfree (rowOrCells_new h0 rfl (repL_le (Map.le_with hfree) hra))⟩
                 simp only [Instr.buildSlice, Sem.run_bind, run_underlying hu w, Result.andThen_ok, sizeT_ok hst w]
                 rw [if_neg (by simpa using hnb)]
                 by_cases h00 : len * st = 0
                 · rw [h00] at hf
                   simp only [h00, if_true, Sem.run_pure, Result.andThen_ok, Sem.run_bind]
                   have hr0 : Array.range 0 = #[] := rfl
                   rw [hr0] at hf ⊢
                   simp only [List.map_toArray, List.map_nil] at hf ⊢
                   simp only [hf, newRow, Sem.run_bind, run_newObj, Result.andThen_ok, Sem.run_pure]
                   rfl
                 · simp only [h00, if_false, Sem.run_pure, Result.andThen_ok, Sem.run_bind, run_zero hi hzv w, hf, newRow, run_newObj]
                   rfl
               · cases h
           · cases h
       · cases h
     · cases h
 · cases h
end
end Go.Proofs.YtfhjlimdakphcaaGreat.Sx
set_option linter.unusedVariables false
set_option linter.unusedSimpArgs false
namespace Go.Proofs.YtfhjlimdakphcaaGreat.Sx
open Go Go.RowKit
section
variable {Φ : Sig} {ρ : Env} {β : Map} {w : World} {P : Program} {bs : Bs} {nb : Nat} {res : Res}
theorem wrapW_ok {agg : Bool} {cs : List C} {v : V} {vs : List Value} (h : (wrapW agg cs).val (T.den Φ ρ) = some v) (hr : repL (T.den Φ ρ) β cs vs) :
   (agg = true ∧ v.rep (T.den Φ ρ) β (.agg vs.toArray)) ∨ (agg = false ∧ ∃ u, vs = [u] ∧ v.rep (T.den Φ ρ) β u) := by
 unfold wrapW at h
 split at h
 · rename_i ha
   simp only [O.val] at h
   injection h with h
   subst h
   exact .inl ⟨ha, vs.toArray, rfl, by simpa using hr⟩
 · rename_i ha
   split at h
   · simp only [O.val] at h
     injection h with h
     subst h
     match vs, hr with
     | [u], hr => exact .inr ⟨by simpa using ha, u, rfl, hr.1⟩
   · cases h
theorem load_ok {t : TypeId} {x : V} {xv : Value} (h : (opLoad P t bs nb x).val (T.den Φ ρ) = some res) (hx : x.rep (T.den Φ ρ) β xv) (hm : memRep (T.den Φ ρ) β w (look bs)) :
   ∃ v, (Instr.loadAt t xv).run P w = .ok v w ∧ res.val.rep (T.den Φ ρ) β v ∧ res = ⟨res.val, [], nb⟩ := by
 unfold opLoad at h
 split at h
 · rename_i j e st r
   split at h
   · cases h
   · rename_i m hj
     split at h
     · cases h
     · rename_i agg hag
       split at h
       · cases h
       · rename_i n hn
         obtain ⟨cs, hcs, h⟩ := O.bind_some h
         obtain ⟨v, hv, h⟩ := O.bind_some h
         have hres := rv_some h
         obtain ⟨pl, hpl, hrep⟩ := hm.1 j m hj
         obtain ⟨vs, h1, h2, h3⟩ := getCells_ok hcs hrep.1
         simp only [V.rep, W.rep, C.rep] at hx
         obtain ⟨pl', hpl', rfl⟩ := hx
         rw [hpl] at hpl'
         injection hpl' with hpl'
         subst hpl'
         rcases wrapW_ok hv h1 with ⟨ha, hr⟩ | ⟨ha, u, rfl, hr⟩
         · subst ha
           simp only [if_true] at hn
           obtain ⟨d, hd, hd'⟩ := aggT_row hag
           have hl := repL_length h1
           refine ⟨_, run_loadAt_mid w pl.b _ t vs d h3 hd hd' ?_, by rw [hres]; exact hr, by rw [hres]⟩
           unfold sizeT at hn
           rw [hn, ← hl, h2]
         · subst ha
           refine ⟨u, ?_, by rw [hres]; exact hr, by rw [hres]⟩
           have hcell := h3 0 u rfl
           simp only [Nat.add_zero] at hcell
           simp only [Instr.loadAt, Instr.sureAddr, Sem.run_bind, Sem.run_pure, Result.andThen_ok, loadVar, aggT_ok hag w, Bool.false_eq_true, if_false, run_load, hcell]
 · cases h
theorem store_ok {t : TypeId} {x y : V} {xv yv : Value} (h : (opStore P t bs nb x y).val (T.den Φ ρ) = some res) (hx : x.rep (T.den Φ ρ) β xv) (hy : y.rep (T.den Φ ρ) β yv) (hm : memRep (T.den Φ ρ) β w (look bs)) :
   Did (T.den Φ ρ) (look bs) β w nb res ((do Instr.storeAt t xv yv; pure .skip : Sem Next).run P w) := by
 unfold opStore at h
 split at h
 · rename_i y' j e st r
   split at h
   · cases h
   · rename_i m hj
     split at h
     · rename_i hrw
       split at h
       · cases h
       · rename_i cs hcs
         split at h
         · cases h
         · rename_i n hn
           split at h
           · rename_i hsz
             obtain ⟨b, hb, h⟩ := O.bind_some h
             simp only [O.val] at h
             injection h with h
             subst h
             obtain ⟨pl, hpl, hrep⟩ := hm.1 j m hj
             simp only [V.rep, W.rep, C.rep] at hx
             obtain ⟨pl', hpl', rfl⟩ := hx
             rw [hpl] at hpl'
             injection hpl' with hpl'
             subst hpl'
             have hv := V.cells_ok (Φ := Φ) (ρ := ρ) (β := β) hcs hy
             have hl := repL_length hv
             obtain ⟨hk, hfit⟩ := putCells_ok (w := w) hb hrep.1 hv
             have hown := hrep.2 hrw
             have hthere : w.there pl.b (pl.o + (r + (e.den Φ ρ).int.toNat * st)) yv.cells.toList.length := by
               intro i hi
               have := own_there hown (i := r + (e.den Φ ρ).int.toNat * st + i) (by omega)
               rw [show pl.o + (r + (e.den Φ ρ).int.toNat * st) + i = pl.o + (r + (e.den Φ ρ).int.toNat * st + i) by omega]
               exact this
             have hst := run_storeCells_cells (P := P) pl.b (pl.o + (r + (e.den Φ ρ).int.toNat * st)) yv.cells.toList 0 w (fun i hi => by simpa using (hthere i hi).1) (fun i hi => by simpa using (hthere i hi).2) (repL_one hv)
             simp only [Nat.add_zero] at hst
             refine ⟨undef, _, β, .inr ⟨?_, rfl⟩, trivial, StepR.write (off := pl.o + (r + (e.den Φ ρ).int.toNat * st)) (vs := yv.cells.toList) hj hrw hpl hown (fun hne => by omega) hk⟩
             have hsz' : yv.cells.size = n := by rw [hsz, hl]; simp
             simp only [Instr.storeAt, Instr.sureAddr, Sem.run_bind, Sem.run_pure, Result.andThen_ok, storeVar, sizeT_ok hn w]
             rw [if_neg (by simpa using hsz')]
             rw [hst]
             rfl
           · cases h
     · cases h
 · cases h
theorem nilCheck_ok {x : V} {xv : Value} (h : (opNilCheck nb x).val (T.den Φ ρ) = some res) (hx : x.rep (T.den Φ ρ) β xv) {K : Sem Next} (hK : ∀ f first captured, xv = .func f first captured → f = .func (match f with | .func n => n | _ => 0) → K = pure (.value xv)) (hp : ∀ a, xv = .pointer (some a) → K = pure (.value xv)) :
   Did (T.den Φ ρ) (look bs) β w nb res (K.run P w) := by
 unfold opNilCheck at h
 split at h
 · rw [rv_some h]
   have hx' := hx
   simp only [V.rep, W.rep, C.rep] at hx
   obtain ⟨pl, _, rfl⟩ := hx
   rw [hp _ rfl]
   exact Did.same rfl hx'
 · rw [rv_some h]
   have hx' := hx
   simp only [V.rep, W.rep, C.rep] at hx
   subst hx
   rw [hK _ _ _ rfl rfl]
   exact Did.same rfl hx'
 · cases h
theorem boolR_some {t : T} (h : (boolR nb t).val (T.den Φ ρ) = some res) : res = ⟨.c (.b t), [], nb⟩ := rv_some h
theorem intR_some {k : IntKind} {t : T} (h : (intR nb k t).val (T.den Φ ρ) = some res) : res = ⟨.c (.i k t), [], nb⟩ := rv_some h
theorem Did.int {r : Result Next} {k : IntKind} {t : T} {z : Int} (hr : r = .ok (.value (.int k z)) w) (hz : (t.den Φ ρ).int = z) : Did (T.den Φ ρ) (look bs) β w nb ⟨.c (.i k t), [], nb⟩ r :=
 Did.same hr (by simp only [V.c, V.rep, W.rep, C.rep, hz])
theorem Did.bool {r : Result Next} {t : T} {p : Bool} (hr : r = .ok (.value (.bool p)) w) (hz : (t.den Φ ρ).bool = p) : Did (T.den Φ ρ) (look bs) β w nb ⟨.c (.b t), [], nb⟩ r :=
 Did.same hr (by simp only [V.c, V.rep, W.rep, C.rep, hz])
theorem eq_nilp (d : Nat) {t e : TypeId} (hu : P.underlying t = some (.pointer e)) (b : Option Addr) : (Op.equalIn (d + 1) t (.pointer none) (.pointer b)).run P w = .ok b.isNone w := by
 simp [Op.equalIn, run_underlying hu w]
theorem eq_pnil (d : Nat) {t e : TypeId} (hu : P.underlying t = some (.pointer e)) (a : Addr) : (Op.equalIn (d + 1) t (.pointer (some a)) (.pointer none)).run P w = .ok false w := by
 simp [Op.equalIn, run_underlying hu w]
theorem den_leqH (Φ : Sig) (ρ : Env) (x y : T) : ((leqH x y).den Φ ρ).bool = decide ((x.den Φ ρ).list = (y.den Φ ρ).list) := by
 unfold leqH
 split
 · split
   · rename_i h
     rw [T.beq_eq h]
     simp [T.den]
   · simp [T.den, O2.den]
 · exact den_leq Φ ρ x y
theorem opEq_ok {t : TypeId} {x y : V} {xv yv : Value} {r : T} (h : (opEq P t x y).val (T.den Φ ρ) = some r) (hx : x.rep (T.den Φ ρ) β xv) (hy : y.rep (T.den Φ ρ) β yv) (op : BinOp) (hop : op = .eql ∨ op = .neq) (a b : Operand) :
   (eqGuard op t a b xv yv).run P w = .ok () w ∧ (Op.equal t xv yv).run P w = .ok (r.den Φ ρ).bool w ∧ ((∃ p q, xv = .agg p ∧ yv = .agg q) ∨ (∃ p q, xv = .bool p ∧ yv = .bool q) ∨ (∃ p q, xv = .pointer p ∧ yv = .pointer q)) := by
 unfold opEq at h
 split at h
 · split at h
   · rename_i a' b' hu
     simp only [O.val] at h
     injection h with h
     subst h
     simp only [V.rep, W.rep, C.rep] at hx hy
     subst hx hy
     refine ⟨by rcases hop with rfl | rfl <;> simp [eqGuard], ?_, .inr (.inl ⟨_, _, rfl, rfl⟩)⟩
     rw [run_equal_bool w t _ _ hu, den_beq]
   · cases h
 · split at h
   · rename_i hu
     simp only [O.val] at h
     injection h with h
     subst h
     simp only [V.rep, W.rep, C.rep] at hx hy
     obtain ⟨pl, _, rfl⟩ := hx
     subst hy
     exact ⟨by rcases hop with rfl | rfl <;> simp [eqGuard], eq_pnil 9999 hu _, .inr (.inr ⟨_, _, rfl, rfl⟩)⟩
   · cases h
 · split at h
   · rename_i hu
     simp only [O.val] at h
     injection h with h
     subst h
     simp only [V.rep, W.rep, C.rep] at hx hy
     obtain ⟨pl, _, rfl⟩ := hy
     subst hx
     exact ⟨by rcases hop with rfl | rfl <;> simp [eqGuard], eq_nilp 9999 hu _, .inr (.inr ⟨_, _, rfl, rfl⟩)⟩
   · cases h
 · split at h
   · rename_i hu
     simp only [O.val] at h
     injection h with h
     subst h
     simp only [V.rep, W.rep, C.rep] at hx hy
     subst hx hy
     exact ⟨by rcases hop with rfl | rfl <;> simp [eqGuard], eq_nilp 9999 hu _, .inr (.inr ⟨_, _, rfl, rfl⟩)⟩
   · cases h
 · rename_i xs ys
   split at h
   · rename_i ks k1 l1 k2 l2 hf h1 h2
     split at h
     · rename_i hc
       split at h
       · rename_i hag
         simp only [O.val] at h
         injection h with h
         subst h
         simp only [Bool.and_eq_true, Bool.not_eq_true'] at hc
         simp only [V.rep, W.rep] at hx hy
         obtain ⟨xa, rfl, hxa⟩ := hx
         obtain ⟨ya, rfl, hya⟩ := hy
         obtain ⟨a1, a2, a3⟩ := intsT_ok h1 hxa
         obtain ⟨b1, b2, b3⟩ := intsT_ok h2 hya
         have e1 := kbeqL_eq hc.1.1
         have e2 := kbeqL_eq hc.1.2
         subst e1
         subst e2
         refine ⟨run_eqGuard_agg w _ t a b xa ya hc.2, ?_, .inl ⟨_, _, rfl, rfl⟩⟩
         rw [den_leqH]
         exact flat_eq 8 9992 t ks hf _ _ _ _ w (by omega) (by omega) (.inl ⟨hag, by rw [← a3]⟩) (.inl ⟨hag, by rw [← b3]⟩)
       · cases h
     · cases h
   · cases h
 · cases h
theorem shiftN_min (k : IntKind) (z : Nat) : shiftN k z = min (z : Int).toNat k.bits := by
 unfold shiftN
 split
 · simp only [Int.toNat_natCast]; omega
 · simp only [Int.toNat_natCast]; omega
theorem run_shl (k : IntKind) (x : Int) (j : IntKind) (y : Int) (h : 0 ≤ y) : (Op.shift .shl k x j y).run P w = .ok (.int k (k.wrap (x * 2 ^ (min y.toNat k.bits)))) w := by
 unfold Op.shift
 rw [if_neg (by omega)]
 rfl
theorem run_shr (k : IntKind) (x : Int) (j : IntKind) (y : Int) (h : 0 ≤ y) : (Op.shift .shr k x j y).run P w = .ok (.int k (x.fdiv (2 ^ (min y.toNat k.bits)))) w := by
 unfold Op.shift
 rw [if_neg (by omega)]
 rfl
theorem bin_ok {op : BinOp} {t : TypeId} {x y : V} {xv yv : Value} (h : (opBin P op t nb x y).val (T.den Φ ρ) = some res) (hx : x.rep (T.den Φ ρ) β xv) (hy : y.rep (T.den Φ ρ) β yv) (a b : Operand) :
   Did (T.den Φ ρ) (look bs) β w nb res ((do pure (.value (← (do eqGuard op t a b xv yv; binOp op t xv yv))) : Sem Next).run P w) := by
 unfold opBin at h
 split at h
 · rename_i k a' j b'
   simp only [V.rep, W.rep, C.rep] at hx hy
   subst hx hy
   have hg : ∀ (p : Int) (q : Int), (eqGuard op t a b (.int k p) (.int j q)).run P w = .ok () w := fun p q => by
     cases op <;> simp [eqGuard]
   split at h
   · split at h
     · rename_i z
       rw [intR_some h]
       refine Did.int (z := k.wrap ((a'.den Φ ρ).int * 2 ^ (min (z : Int).toNat k.bits))) ?_ ?_
       · simp only [Sem.run_bind, hg, Result.andThen_ok, binOp]
         rw [run_shl k _ j _ (show 0 ≤ (T.den Φ ρ (.num (.ofNat z))).int from Int.natCast_nonneg z)]
         rfl
       · rw [den_wr, den_mul, shiftN_min]; rfl
     · cases h
   · split at h
     · rename_i z
       rw [intR_some h]
       refine Did.int (z := (a'.den Φ ρ).int.fdiv (2 ^ (min (z : Int).toNat k.bits))) ?_ ?_
       · simp only [Sem.run_bind, hg, Result.andThen_ok, binOp]
         rw [run_shr k _ j _ (show 0 ≤ (T.den Φ ρ (.num (.ofNat z))).int from Int.natCast_nonneg z)]
         rfl
       · rw [den_fdiv, shiftN_min]; rfl
     · cases h
   · rename_i hns1 hns2
     split at h
     · rename_i hk
       have hk := knum_inj (Nat.eq_of_beq_eq_true hk)
       subst hk
       split at h
       case h_1 => rw [intR_some h]; exact Did.int (by simp only [Sem.run_bind, hg, Result.andThen_ok, binOp, ne_eq, not_true_eq_false, if_false, Op.intArith, Op.intBits, Sem.run_pure]; rfl) (by rw [den_wr, den_add])
       case h_2 => rw [intR_some h]; exact Did.int (by simp only [Sem.run_bind, hg, Result.andThen_ok, binOp, ne_eq, not_true_eq_false, if_false, Op.intArith, Op.intBits, Sem.run_pure]; rfl) (by rw [den_wr, den_sub])
       case h_3 => rw [intR_some h]; exact Did.int (by simp only [Sem.run_bind, hg, Result.andThen_ok, binOp, ne_eq, not_true_eq_false, if_false, Op.intArith, Op.intBits, Sem.run_pure]; rfl) (by rw [den_wr, den_mul])
       case h_4 =>
         obtain ⟨h1, h⟩ := chkT_some hEb h
         rw [den_not, den_eq] at h1
         have hz : ¬ (b'.den Φ ρ).int = 0 := by simpa [T.den] using h1
         rw [intR_some h]
         exact Did.int (by simp only [Sem.run_bind, hg, Result.andThen_ok, binOp, ne_eq, not_true_eq_false, if_false, Op.intDiv, if_neg hz]; rfl) (by rw [den_wr, den_quo])
       case h_5 =>
         obtain ⟨h1, h⟩ := chkT_some hEb h
         rw [den_not, den_eq] at h1
         have hz : ¬ (b'.den Φ ρ).int = 0 := by simpa [T.den] using h1
         rw [intR_some h]
         exact Did.int (by simp only [Sem.run_bind, hg, Result.andThen_ok, binOp, ne_eq, not_true_eq_false, if_false, Op.intDiv, if_neg hz]; rfl) (by rw [den_rem])
       case h_6 => rw [intR_some h]; exact Did.int (by simp only [Sem.run_bind, hg, Result.andThen_ok, binOp, ne_eq, not_true_eq_false, if_false, Op.intArith, Op.intBits, Sem.run_pure]; rfl) (by rw [den_bits]; rfl)
       case h_7 => rw [intR_some h]; exact Did.int (by simp only [Sem.run_bind, hg, Result.andThen_ok, binOp, ne_eq, not_true_eq_false, if_false, Op.intArith, Op.intBits, Sem.run_pure]; rfl) (by rw [den_bits]; rfl)
       case h_8 => rw [intR_some h]; exact Did.int (by simp only [Sem.run_bind, hg, Result.andThen_ok, binOp, ne_eq, not_true_eq_false, if_false, Op.intArith, Op.intBits, Sem.run_pure]; rfl) (by rw [den_bits]; rfl)
       case h_9 => rw [intR_some h]; exact Did.int (by simp only [Sem.run_bind, hg, Result.andThen_ok, binOp, ne_eq, not_true_eq_false, if_false, Op.intArith, Op.intBits, Sem.run_pure]; rfl) (by rw [den_bits]; rfl)
       case h_10 => rw [boolR_some h]; exact Did.bool (by simp only [Sem.run_bind, hg, Result.andThen_ok, binOp, ne_eq, not_true_eq_false, if_false, Op.intCmp, Sem.run_pure]; rfl) (by rw [den_eq])
       case h_11 => rw [boolR_some h]; exact Did.bool (by simp only [Sem.run_bind, hg, Result.andThen_ok, binOp, ne_eq, not_true_eq_false, if_false, Op.intCmp, Sem.run_pure]; rfl) (by rw [den_not, den_eq]; rfl)
       case h_12 => rw [boolR_some h]; exact Did.bool (by simp only [Sem.run_bind, hg, Result.andThen_ok, binOp, ne_eq, not_true_eq_false, if_false, Op.intCmp, Sem.run_pure]; rfl) (by rw [den_lt])
       case h_13 => rw [boolR_some h]; exact Did.bool (by simp only [Sem.run_bind, hg, Result.andThen_ok, binOp, ne_eq, not_true_eq_false, if_false, Op.intCmp, Sem.run_pure]; rfl) (by rw [den_le])
       case h_14 => rw [boolR_some h]; exact Did.bool (by simp only [Sem.run_bind, hg, Result.andThen_ok, binOp, ne_eq, not_true_eq_false, if_false, Op.intCmp, Sem.run_pure]; rfl) (by rw [den_lt])
       case h_15 => rw [boolR_some h]; exact Did.bool (by simp only [Sem.run_bind, hg, Result.andThen_ok, binOp, ne_eq, not_true_eq_false, if_false, Op.intCmp, Sem.run_pure]; rfl) (by rw [den_le])
       case h_16 => cases h
     · cases h
 · split at h
   · obtain ⟨r, hr, h⟩ := O.bind_some h
     rw [boolR_some h]
     obtain ⟨h1, h2, h3⟩ := opEq_ok (w := w) hr hx hy .eql (.inl rfl) a b
     refine Did.bool (p := (r.den Φ ρ).bool) ?_ rfl
     have hb : (binOp .eql t xv yv).run P w = .ok (.bool (r.den Φ ρ).bool) w := by
       rcases h3 with ⟨p, q, rfl, rfl⟩ | ⟨p, q, rfl, rfl⟩ | ⟨p, q, rfl, rfl⟩ <;> simp only [binOp, Sem.run_bind, h2, Result.andThen_ok, Sem.run_pure]
     simp only [Sem.run_bind, h1, Result.andThen_ok, hb, Sem.run_pure]
   · obtain ⟨r, hr, h⟩ := O.bind_some h
     rw [boolR_some h]
     obtain ⟨h1, h2, h3⟩ := opEq_ok (w := w) hr hx hy .neq (.inr rfl) a b
     refine Did.bool (p := !(r.den Φ ρ).bool) ?_ (den_not _ _ _)
     have hb : (binOp .neq t xv yv).run P w = .ok (.bool !(r.den Φ ρ).bool) w := by
       rcases h3 with ⟨p, q, rfl, rfl⟩ | ⟨p, q, rfl, rfl⟩ | ⟨p, q, rfl, rfl⟩ <;> simp only [binOp, Sem.run_bind, h2, Result.andThen_ok, Sem.run_pure]
     simp only [Sem.run_bind, h1, Result.andThen_ok, hb, Sem.run_pure]
   · cases h
theorem un_ok {op : UnOp} {x : V} {xv : Value} (h : (opUn op nb x).val (T.den Φ ρ) = some res) (hx : x.rep (T.den Φ ρ) β xv) :
   Did (T.den Φ ρ) (look bs) β w nb res ((do pure (.value (← Op.unary op xv)) : Sem Next).run P w) := by
 unfold opUn at h
 split at h
 · simp only [V.rep, W.rep, C.rep] at hx
   subst hx
   split at h
   · rw [boolR_some h]
     exact Did.bool (by simp only [Op.unary, Sem.run_bind, Sem.run_pure, Result.andThen_ok]; rfl) (by rw [den_not])
   · cases h
 · simp only [V.rep, W.rep, C.rep] at hx
   subst hx
   split at h
   · rw [intR_some h]
     exact Did.int (by simp only [Op.unary, Op.intArith, Sem.run_bind, Sem.run_pure, Result.andThen_ok]; rfl) (by rw [den_wr, den_sub]; rfl)
   · rw [intR_some h]
     exact Did.int (by simp only [Op.unary, Sem.run_bind]; rfl) (by rw [den_bits]; rfl)
   · cases h
 · cases h
theorem convert_ok {src dst : TypeId} {x : V} {xv : Value} (h : (opConvert P src dst nb x).val (T.den Φ ρ) = some res) (hx : x.rep (T.den Φ ρ) β xv) :
   Did (T.den Φ ρ) (look bs) β w nb res ((do pure (.value (← convert src dst xv)) : Sem Next).run P w) := by
 unfold opConvert at h
 split at h
 · split at h
   · rename_i d k hs hd
     simp only [V.rep, W.rep, C.rep] at hx
     subst hx
     rw [intR_some h]
     exact Did.int (by simp only [convert, Sem.run_bind, run_underlying hs w, run_underlying hd w, Result.andThen_ok, Conv.intToInt, Sem.run_pure]; rfl) (by rw [den_wr])
   · cases h
 · cases h
end
end Go.Proofs.YtfhjlimdakphcaaGreat.Sx
set_option linter.unusedVariables false
set_option linter.unusedSimpArgs false
namespace Go.Proofs.YtfhjlimdakphcaaGreat.Sx
open Go Go.RowKit
section
variable {Φ : Sig} {ρ : Env} {β : Map} {w : World} {P : Program} {bs : Bs} {nb : Nat} {res : Res}
theorem le_chk {x y : T} (h : ((mkLe x y).den Φ ρ).bool = true) : (x.den Φ ρ).int ≤ (y.den Φ ρ).int := by rw [den_le] at h; exact of_decide_eq_true h
theorem lt_chk {x y : T} (h : ((mkLt x y).den Φ ρ).bool = true) : (x.den Φ ρ).int < (y.den Φ ρ).int := by rw [den_lt] at h; exact of_decide_eq_true h
theorem arrayAt_ok {arr : TypeId} {x : V} {xv : Value} (h : (opArrayAt P arr nb x).val (T.den Φ ρ) = some res) (hx : x.rep (T.den Φ ρ) β xv) :
   Did (T.den Φ ρ) (look bs) β w nb res ((do pure (.value (← Instr.arrayAt arr xv)) : Sem Next).run P w) := by
 unfold opArrayAt at h
 split at h
 · rename_i j st r o len
   split at h
   · rename_i n e hu
     split at h
     · rename_i hn
       obtain ⟨h1, h⟩ := chkT_some hEb h
       rw [den_le] at h1
       simp only [V.rep, W.rep, C.rep] at hx
       obtain ⟨pl, hpl, a, l, c, rfl, hl, hlc, ho, hfit, ha⟩ := hx
       simp [T.den] at h1
       rw [rv_some h]
       have hnl : n ≤ l := by omega
       refine Did.same (v := .pointer a) ?_ ?_
       · simp only [Instr.arrayAt, Sem.run_bind, run_underlying hu w, Result.andThen_ok]
         rw [if_neg (by omega)]
         rfl
       · simp only [V.c, V.rep, W.rep, C.rep]
         exact ⟨pl, hpl, by rw [ha (by omega)]⟩
     · cases h
   · cases h
 · cases h
theorem fieldAddr_ok {t : TypeId} {f : Nat} {x : V} {xv : Value} (h : (opFieldAddr P t f nb x).val (T.den Φ ρ) = some res) (hx : x.rep (T.den Φ ρ) β xv) :
   Did (T.den Φ ρ) (look bs) β w nb res ((do pure (.value (← Instr.fieldAt t xv f)) : Sem Next).run P w) := by
 unfold opFieldAddr at h
 split at h
 · split at h
   · rename_i fields hu
     split at h
     · rename_i fd hfd
       split at h
       · rename_i n hn
         split at h
         · rename_i h0
           simp only [V.rep, W.rep, C.rep] at hx
           obtain ⟨pl, hpl, rfl⟩ := hx
           rw [rv_some h]
           refine Did.same (v := .pointer (some ⟨pl.b, pl.o + (_ + fd.offset + _), none⟩)) ?_ ⟨pl, hpl, rfl⟩
           simp only [Instr.fieldAt, Sem.run_bind, run_underlying hu w, Result.andThen_ok, hfd, Instr.sureAddr, Sem.run_pure, fieldPlace, sizeT_ok hn w, Sem.run_ite]
           rw [if_neg (by omega)]
           simp only [Sem.run_pure, Result.andThen_ok, Addr.add_mid]
           congr 5
           omega
         · cases h
       · cases h
     · cases h
   · cases h
 · cases h
theorem part_ok {t : TypeId} {cs : List C} {off : Nat} {v : V} {arr : Array Value} (h : (partC P t cs off).val (T.den Φ ρ) = some v) (hr : repL (T.den Φ ρ) β cs arr.toList) :
   ∃ u, (part t arr off).run P w = .ok u w ∧ v.rep (T.den Φ ρ) β u := by
 unfold partC at h
 split at h
 · cases h
 · rename_i agg hag
   split at h
   · cases h
   · rename_i n hn
     obtain ⟨r, hr', h⟩ := O.bind_some h
     unfold getLit at hr'
     split at hr'
     · rename_i hle
       simp only [O.val] at hr'
       injection hr' with hr'
       subst hr'
       have h2 := repL_take (repL_drop hr off) n
       have hl := repL_length hr
       rcases wrapW_ok h h2 with ⟨ha, hv⟩ | ⟨ha, u, hu, hv⟩
       · subst ha
         simp only [if_true] at hn
         refine ⟨_, ?_, hv⟩
         simp only [part, Sem.run_bind, aggT_ok hag w, Result.andThen_ok, if_true, sizeT_ok hn w, Sem.run_pure]
         congr 2
         apply Array.ext'
         simp [List.extract]
       · subst ha
         refine ⟨u, ?_, hv⟩
         simp only [Bool.false_eq_true, if_false] at hn
         injection hn with hn
         subst hn
         have : arr[off]? = some u := by
           have h3 : ((arr.toList.drop off).take 1)[0]? = some u := by rw [hu]; rfl
           rw [List.getElem?_take, if_pos (by omega), List.getElem?_drop] at h3
           simpa using h3
         simp only [part, Sem.run_bind, aggT_ok hag w, Result.andThen_ok, Bool.false_eq_true, if_false, this, Sem.run_pure]
     · cases hr'
theorem field_ok {t : TypeId} {f : Nat} {x : V} {xv : Value} (h : (opField P t f nb x).val (T.den Φ ρ) = some res) (hx : x.rep (T.den Φ ρ) β xv) :
   Did (T.den Φ ρ) (look bs) β w nb res ((do pure (.value (← Instr.field t xv f)) : Sem Next).run P w) := by
 unfold opField at h
 split at h
 · split at h
   · rename_i fields hu
     split at h
     · rename_i fd hfd
       obtain ⟨v, hv, h⟩ := O.bind_some h
       rw [rv_some h]
       simp only [V.rep, W.rep] at hx
       obtain ⟨arr, rfl, hr⟩ := hx
       obtain ⟨u, h1, h2⟩ := part_ok (w := w) hv hr
       refine Did.same (v := u) ?_ h2
       simp only [Instr.field, Sem.run_bind, run_underlying hu w, Result.andThen_ok, hfd, asAgg, Sem.run_pure, h1]
     · cases h
   · cases h
 · cases h
theorem extract_ok {i : Nat} {x : V} {xv : Value} (h : (opExtract i nb x).val (T.den Φ ρ) = some res) (hx : x.rep (T.den Φ ρ) β xv) :
   Did (T.den Φ ρ) (look bs) β w nb res ((do pure (.value (← Instr.extract xv i)) : Sem Next).run P w) := by
 unfold opExtract at h
 split at h
 · split at h
   · rename_i xs x hxi
     rw [rv_some h]
     simp only [V.rep] at hx
     obtain ⟨vs, rfl, hr⟩ := hx
     obtain ⟨v, hv, hrv⟩ := repWs_get hr hxi
     refine Did.same (v := v) ?_ hrv
     have : vs[i]? = some v := by simpa using hv
     simp only [Instr.extract, this, Sem.run_bind, Sem.run_pure, Result.andThen_ok]
   · cases h
 · cases h
theorem baseOf_ok {e : T} {st r base : Nat} (h : baseOf e st r = some base) : base = r + (e.den Φ ρ).int.toNat * st := by
 unfold baseOf at h
 split at h
 · injection h with h; subst h; simp [T.den]
 · split at h
   · rename_i h0
     injection h with h
     subst h h0
     simp
   · cases h
theorem indexAddr_ok {t : TypeId} {x i : V} {xv iv : Value} (h : (opIndexAddr P t nb x i).val (T.den Φ ρ) = some res) (hx : x.rep (T.den Φ ρ) β xv) (hi : i.rep (T.den Φ ρ) β iv) :
   Did (T.den Φ ρ) (look bs) β w nb res ((do pure (.value (← Instr.indexAt t xv iv)) : Sem Next).run P w) := by
 unfold opIndexAddr at h
 split at h
 · rename_i k ix
   simp only [V.rep, W.rep, C.rep] at hi
   subst hi
   split at h
   · rename_i e hu
     split at h
     · rename_i sz j st r o len hsz
       split at h
       · rename_i hst
         have hst := Nat.eq_of_beq_eq_true hst
         subst hst
         obtain ⟨h1, h⟩ := chkT_some hEb h
         obtain ⟨h2, h⟩ := chkT_some hEb h
         replace h1 := le_chk h1
         replace h2 := lt_chk h2
         simp only [T.den, D.int_i] at h1
         rw [rv_some h]
         simp only [V.rep, W.rep, C.rep] at hx
         obtain ⟨pl, hpl, a, l, c, rfl, hl, hlc, ho, hfit, ha⟩ := hx
         have hlt : (ix.den Φ ρ).int < (l : Int) := by omega
         refine Did.same (v := .pointer (some (Addr.add ⟨pl.b, pl.o + (r + (o.den Φ ρ).int.toNat * sz), none⟩ ((ix.den Φ ρ).int.toNat * sz)))) ?_ ⟨pl, hpl, ?_⟩
         · rw [ha (by omega)]
           simp only [Instr.indexAt, asIntOf, Sem.run_bind, Sem.run_pure, Result.andThen_ok, run_underlying hu w, Sem.run_ite]
           rw [if_pos ⟨h1, hlt⟩]
           simp only [Sem.run_bind, sizeT_ok hsz w, Result.andThen_ok, Sem.run_pure]
         · rw [den_add, Addr.add_mid]
           congr 3
           have : ((o.den Φ ρ).int + (ix.den Φ ρ).int).toNat = (o.den Φ ρ).int.toNat + (ix.den Φ ρ).int.toNat := by omega
           rw [this, Nat.add_mul]
           omega
       · cases h
     · cases h
   · rename_i n e hu
     split at h
     · rename_i sz j pe st r hsz
       simp only [V.rep, W.rep, C.rep] at hx
       obtain ⟨pl, hpl, rfl⟩ := hx
       have run : ∀ z : Int, 0 ≤ z → z < n → ((do pure (.value (← Instr.indexAt t (.pointer (some ⟨pl.b, pl.o + (r + (pe.den Φ ρ).int.toNat * st), none⟩)) (.int k z))) : Sem Next)).run P w = .ok (.value (.pointer (some ⟨pl.b, pl.o + (r + (pe.den Φ ρ).int.toNat * st) + z.toNat * sz, none⟩))) w := by
         intro z h1 h2
         simp only [Instr.indexAt, asIntOf, Sem.run_bind, Sem.run_pure, Result.andThen_ok, run_underlying hu w, Instr.sureAddr, Sem.run_ite]
         rw [if_pos ⟨h1, h2⟩]
         simp only [Sem.run_bind, sizeT_ok hsz w, Result.andThen_ok, Sem.run_pure, Addr.add_mid]
       split at h
       · rename_i z
         split at h
         · rename_i hz
           rw [rv_some h]
           refine Did.same (run _ ?_ ?_) ⟨pl, hpl, ?_⟩
           · simp [T.den]
           · simp [T.den]; omega
           · simp [T.den]; try omega
         · cases h
       · split at h
         · rename_i base hbase
           obtain ⟨h1, h⟩ := chkT_some hEb h
           obtain ⟨h2, h⟩ := chkT_some hEb h
           replace h1 := le_chk h1
           replace h2 := lt_chk h2
           simp only [T.den, D.int_i] at h1 h2
           rw [rv_some h]
           refine Did.same (run _ h1 (by simpa using h2)) ⟨pl, hpl, ?_⟩
           rw [baseOf_ok (Φ := Φ) (ρ := ρ) hbase]
           congr 3
           omega
         · cases h
     · cases h
   · cases h
 · cases h
theorem index_ok {t : TypeId} {x i : V} {xv iv : Value} (h : (opIndex P t nb x i).val (T.den Φ ρ) = some res) (hx : x.rep (T.den Φ ρ) β xv) (hi : i.rep (T.den Φ ρ) β iv) :
   Did (T.den Φ ρ) (look bs) β w nb res ((do pure (.value (← Instr.index t xv iv)) : Sem Next).run P w) := by
 unfold opIndex at h
 split at h
 · rename_i cs k ix
   simp only [V.rep, W.rep, C.rep] at hi hx
   subst hi
   obtain ⟨arr, rfl, hr⟩ := hx
   split at h
   · rename_i n e hu
     split at h
     · cases h
     · rename_i sz hsz
       have run : ∀ c : Nat, (ix.den Φ ρ).int = c → c < n → ∀ v : V, (partC P e cs (c * sz)).val (T.den Φ ρ) = some v → Did (T.den Φ ρ) (look bs) β w nb ⟨v, [], nb⟩ ((do pure (.value (← Instr.index t (.agg arr) (.int k (ix.den Φ ρ).int))) : Sem Next).run P w) := by
         intro c hc hlt v hv
         obtain ⟨u, h1, h2⟩ := part_ok (w := w) hv hr
         refine Did.same (v := u) ?_ h2
         rw [hc]
         simp only [Instr.index, asIntOf, Sem.run_bind, Sem.run_pure, Result.andThen_ok, run_underlying hu w, Sem.run_ite]
         rw [if_pos ⟨by omega, by omega⟩]
         simp only [Sem.run_bind, sizeT_ok hsz w, Result.andThen_ok, Int.toNat_natCast, h1, Sem.run_pure]
       split at h
       · rename_i z
         split at h
         · rename_i hz
           obtain ⟨v, hv, h⟩ := O.bind_some h
           rw [rv_some h]
           exact run z (by simp [T.den]) hz v hv
         · cases h
       · cases h
       · obtain ⟨h1, h⟩ := chkT_some hEb h
         obtain ⟨h2, h⟩ := chkT_some hEb h
         obtain ⟨c, hc1, hc2, hc3, h⟩ := chain_ok h
         obtain ⟨v, hv, h⟩ := O.bind_some h
         rw [rv_some h]
         exact run c hc3 (by omega) v hv
   · cases h
 · cases h
theorem boundT_ok {o : Option V} {d t : T} {ov : Option Value} (h : boundT o d = some t) (ho : match o, ov with | none, none => True | some x, some v => x.rep (T.den Φ ρ) β v | _, _ => False) :
   (ov = none ∧ t = d ∧ o = none) ∨ ∃ k, ov = some (.int k (t.den Φ ρ).int) := by
 unfold boundT at h
 split at h
 · injection h with h
   cases ov with
   | none => exact .inl ⟨rfl, h.symm, rfl⟩
   | some v => exact ho.elim
 · injection h with h
   subst h
   cases ov with
   | none => exact ho.elim
   | some v =>
     simp only [V.rep, W.rep, C.rep] at ho
     exact .inr ⟨_, by rw [ho]⟩
 · cases h
theorem sliceBounds_ok (isSlice : Bool) (len cap : Nat) {lo hi : Option Value} {l h : Int} (hh : (hi = none ∧ h = len) ∨ ∃ k, hi = some (.int k h)) (hl : (lo = none ∧ l = 0) ∨ ∃ k, lo = some (.int k l)) (h0 : 0 ≤ l) (h1 : l ≤ h) (h2 : h ≤ cap) (w : World) :
   (Instr.sliceBounds isSlice len cap lo hi none).run P w = .ok (l.toNat, h.toNat, cap) w := by
 have hb : ∀ (k : IntKind) (z : Int) (y : Nat) (code : BoundsCode), 0 ≤ z → z ≤ y → (Instr.sliceBound (.int k z) y code).run P w = .ok z.toNat w := by
   intro k z y code h1 h2
   simp only [Instr.sliceBound, asIntOf, Sem.run_bind, Sem.run_pure, Result.andThen_ok, Sem.run_ite]
   rw [if_pos ⟨h1, h2⟩]
 have hn : ((h.toNat : Nat) : Int) = h := Int.toNat_of_nonneg (by omega)
 rcases hh with ⟨rfl, rfl⟩ | ⟨k, rfl⟩ <;> rcases hl with ⟨rfl, rfl⟩ | ⟨k', rfl⟩
 · simp [Instr.sliceBounds]
 · simp only [Instr.sliceBounds, Sem.run_bind, Sem.run_pure, Result.andThen_ok, Int.toNat_natCast]
   rw [hb _ _ _ _ h0 (by omega)]
   rfl
 · simp only [Instr.sliceBounds, Sem.run_bind, Sem.run_pure, Result.andThen_ok]
   rw [hb _ _ _ _ (by omega) (by omega)]
   rfl
 · simp only [Instr.sliceBounds, Sem.run_bind, Sem.run_pure, Result.andThen_ok]
   rw [hb _ _ _ _ (by omega) (by omega)]
   simp only [Result.andThen_ok]
   rw [hb _ _ _ _ (by omega) (by omega)]
   rfl
theorem sliceBounds3_ok (len cap : Nat) {lo hi : Option Value} {k : IntKind} (hh : ∃ k, hi = some (.int k 0)) (hl : lo = none ∨ ∃ k, lo = some (.int k 0)) (w : World) :
   (Instr.sliceBounds true len cap lo hi (some (.int k 0))).run P w = .ok (0, 0, 0) w := by
 have hb : ∀ (k : IntKind) (y : Nat) (code : BoundsCode), (Instr.sliceBound (.int k 0) y code).run P w = .ok 0 w := by
   intro k y code
   simp only [Instr.sliceBound, asIntOf, Sem.run_bind, Sem.run_pure, Result.andThen_ok, Sem.run_ite]
   rw [if_pos ⟨by omega, by omega⟩]
   rfl
 obtain ⟨k', rfl⟩ := hh
 rcases hl with rfl | ⟨k2, rfl⟩ <;> simp [Instr.sliceBounds, hb]
theorem sliceBoundsM_ok (len cap : Nat) {lo : Option Value} {km kh : IntKind} {l h m : Int} (hl : (lo = none ∧ l = 0) ∨ ∃ k, lo = some (.int k l)) (h0 : 0 ≤ l) (h1 : l ≤ h) (h2 : h ≤ m) (h3 : m ≤ cap) (w : World) :
   (Instr.sliceBounds true len cap lo (some (.int kh h)) (some (.int km m))).run P w = .ok (l.toNat, h.toNat, m.toNat) w := by
 have hb : ∀ (k : IntKind) (z : Int) (y : Nat) (code : BoundsCode), 0 ≤ z → z ≤ y → (Instr.sliceBound (.int k z) y code).run P w = .ok z.toNat w := by
   intro k z y code h1 h2
   simp only [Instr.sliceBound, asIntOf, Sem.run_bind, Sem.run_pure, Result.andThen_ok, Sem.run_ite]
   rw [if_pos ⟨h1, h2⟩]
 simp only [Instr.sliceBounds, Sem.run_bind, Sem.run_pure, Result.andThen_ok]
 rw [hb _ _ _ _ (by omega) h3]
 simp only [Result.andThen_ok]
 rw [hb _ _ _ _ (by omega) (by omega)]
 rcases hl with ⟨rfl, rfl⟩ | ⟨k', rfl⟩
 · simp
 · simp only [Result.andThen_ok, Sem.run_bind]
   rw [hb _ _ _ _ h0 (by omega)]
   rfl
def optRep (E : Ev) (β : Map) : Option V → Option Value → Prop
 | none, none => True
 | some x, some v => x.rep E β v
 | _, _ => False
theorem bound0 {o : Option V} {d : T} {ov : Option Value} (h : boundT o d = some (.num (.ofNat 0))) (ho : optRep (T.den Φ ρ) β o ov) : (o = none ∧ ov = none ∧ d = .num (.ofNat 0)) ∨ ∃ k, ov = some (.int k 0) := by
 rcases boundT_ok (ov := ov) h (by cases o <;> cases ov <;> exact ho) with ⟨h1, h2, h3⟩ | ⟨k, hk⟩
 · exact .inl ⟨h3, h1, h2.symm⟩
 · exact .inr ⟨k, by rw [hk]; rfl⟩
theorem slice_ok {t : TypeId} {x : V} {lo hi mx : Option V} {xv : Value} {lov hiv mxv : Option Value} (h : (opSlice P t bs nb x lo hi mx).val (T.den Φ ρ) = some res) (hx : x.rep (T.den Φ ρ) β xv)
   (hlo : optRep (T.den Φ ρ) β lo lov) (hhi : optRep (T.den Φ ρ) β hi hiv) (hmx : optRep (T.den Φ ρ) β mx mxv) (hm : memRep (T.den Φ ρ) β w (look bs)) :
   Did (T.den Φ ρ) (look bs) β w nb res ((do pure (.value (← Instr.sliceAt t xv lov hiv mxv)) : Sem Next).run P w) := by
 unfold opSlice at h
 split at h
 · rename_i e hu
   split at h
   · cases h
   · rename_i sz hsz
     split at h
     · rename_i j st r o len
       split at h
       · rename_i hst
         have hst := Nat.eq_of_beq_eq_true hst
         subst hst
         split at h
         · cases mxv with
           | some _ => exact hmx.elim
           | none =>
             split at h
             · rename_i hT lT hhT hlT
               obtain ⟨h1, h⟩ := chkT_some hEb h
               obtain ⟨h2, h⟩ := chkT_some hEb h
               obtain ⟨h3, h⟩ := chkT_some hEb h
               replace h1 := le_chk h1
               replace h2 := le_chk h2
               replace h3 := le_chk h3
               simp only [T.den, D.int_i] at h1
               rw [rv_some h]
               simp only [V.rep, W.rep, C.rep] at hx
               obtain ⟨pl, hpl, a, l, c, rfl, hl, hlc, ho, hfit, ha⟩ := hx
               have bh : (hiv = none ∧ (hT.den Φ ρ).int = (l : Int)) ∨ ∃ k, hiv = some (.int k (hT.den Φ ρ).int) := by
                 rcases boundT_ok (ov := hiv) hhT (by cases hi <;> cases hiv <;> exact hhi) with ⟨q1, q2, _⟩ | q
                 · exact .inl ⟨q1, by rw [q2]; exact hl.symm⟩
                 · exact .inr q
               have bl : (lov = none ∧ (lT.den Φ ρ).int = 0) ∨ ∃ k, lov = some (.int k (lT.den Φ ρ).int) := by
                 rcases boundT_ok (ov := lov) hlT (by cases lo <;> cases lov <;> exact hlo) with ⟨q1, q2, _⟩ | q
                 · exact .inl ⟨q1, by rw [q2]; rfl⟩
                 · exact .inr q
               have hsb := sliceBounds_ok (P := P) true l c bh bl h1 h2 (by omega) w
               refine Did.same (v := .slice (if c = (lT.den Φ ρ).int.toNat then a else a.map (·.add ((lT.den Φ ρ).int.toNat * sz))) ((hT.den Φ ρ).int.toNat - (lT.den Φ ρ).int.toNat) (c - (lT.den Φ ρ).int.toNat)) ?_ ?_
               · simp only [Instr.sliceAt, Instr.slice, Sem.run_bind, run_underlying hu w, Result.andThen_ok, hsb, sizeT_ok hsz w, Sem.run_pure]
               · refine ⟨pl, hpl, _, _, _, rfl, ?_, by omega, ?_, ?_, ?_⟩
                 · rw [den_sub]; omega
                 · rw [den_add]; omega
                 · rw [den_add]
                   have e1 : ((o.den Φ ρ).int + (lT.den Φ ρ).int).toNat + (c - (lT.den Φ ρ).int.toNat) = (o.den Φ ρ).int.toNat + c := by omega
                   rw [e1]; exact hfit
                 · intro hc
                   rw [if_neg (by omega), ha (by omega), den_add]
                   have e1 : ((o.den Φ ρ).int + (lT.den Φ ρ).int).toNat = (o.den Φ ρ).int.toNat + (lT.den Φ ρ).int.toNat := by omega
                   simp only [Option.map_some, Addr.add_mid, e1, Nat.add_mul]
                   congr 2
                   omega
             · cases h
         · rename_i m
           split at h
           · rename_i hm0 hh0 hl0
             simp only [V.rep, W.rep, C.rep] at hx
             obtain ⟨pl, hpl, a, l, c, rfl, hl, hlc, ho, hfit, ha⟩ := hx
             rw [rv_some h]
             rcases bound0 hm0 hmx with ⟨q, _⟩ | ⟨km, rfl⟩
             · cases q
             · have hh : ∃ k, hiv = some (.int k 0) := by
                 rcases bound0 hh0 hhi with ⟨_, _, q⟩ | q
                 · exact absurd q (fun e => by injection e with e; cases e)
                 · exact q
               have hl' : lov = none ∨ ∃ k, lov = some (.int k 0) := by
                 rcases bound0 hl0 hlo with ⟨_, q, _⟩ | q
                 · exact .inl q
                 · exact .inr q
               have hsb := sliceBounds3_ok (P := P) (k := km) l c hh hl' w
               refine Did.same (v := .slice a 0 0) ?_ ⟨a, rfl⟩
               simp only [Instr.sliceAt, Instr.slice, Sem.run_bind, run_underlying hu w, Result.andThen_ok, hsb, sizeT_ok hsz w, Sem.run_pure]
               rfl
           · rename_i mT hT lT _ hmT hhT hlT
             split at h
             · rename_i hsome
               obtain ⟨h1, h⟩ := chkT_some hEb h
               obtain ⟨h2, h⟩ := chkT_some hEb h
               obtain ⟨h3, h⟩ := chkT_some hEb h
               obtain ⟨h4, h⟩ := chkT_some hEb h
               replace h1 := le_chk h1
               replace h2 := le_chk h2
               replace h3 := le_chk h3
               replace h4 := le_chk h4
               simp only [T.den, D.int_i] at h1
               rw [rv_some h]
               simp only [V.rep, W.rep, C.rep] at hx
               obtain ⟨pl, hpl, a, l, c, rfl, hl, hlc, ho, hfit, ha⟩ := hx
               obtain ⟨kh, rfl⟩ : ∃ k, hiv = some (.int k (hT.den Φ ρ).int) := by
                 rcases boundT_ok (ov := hiv) hhT (by cases hi <;> cases hiv <;> exact hhi) with ⟨_, _, q⟩ | q
                 · rw [q] at hsome; cases hsome
                 · exact q
               obtain ⟨km, rfl⟩ : ∃ k, mxv = some (.int k (mT.den Φ ρ).int) := by
                 rcases boundT_ok (ov := mxv) hmT (by cases mxv <;> exact hmx) with ⟨_, _, q⟩ | q
                 · cases q
                 · exact q
               have bl : (lov = none ∧ (lT.den Φ ρ).int = 0) ∨ ∃ k, lov = some (.int k (lT.den Φ ρ).int) := by
                 rcases boundT_ok (ov := lov) hlT (by cases lo <;> cases lov <;> exact hlo) with ⟨q1, q2, _⟩ | q
                 · exact .inl ⟨q1, by rw [q2]; rfl⟩
                 · exact .inr q
               have hsb := sliceBoundsM_ok (P := P) (kh := kh) (km := km) l c bl h1 h2 h3 (by omega) w
               refine Did.same (v := .slice (if (mT.den Φ ρ).int.toNat = (lT.den Φ ρ).int.toNat then a else a.map (·.add ((lT.den Φ ρ).int.toNat * sz))) ((hT.den Φ ρ).int.toNat - (lT.den Φ ρ).int.toNat) ((mT.den Φ ρ).int.toNat - (lT.den Φ ρ).int.toNat)) ?_ ?_
               · simp only [Instr.sliceAt, Instr.slice, Sem.run_bind, run_underlying hu w, Result.andThen_ok, hsb, sizeT_ok hsz w, Sem.run_pure]
               · refine ⟨pl, hpl, _, _, _, rfl, ?_, by omega, ?_, ?_, ?_⟩
                 · rw [den_sub]; omega
                 · rw [den_add]; omega
                 · rw [den_add]
                   have e1 : ((o.den Φ ρ).int + (lT.den Φ ρ).int).toNat + ((mT.den Φ ρ).int.toNat - (lT.den Φ ρ).int.toNat) ≤ (o.den Φ ρ).int.toNat + c := by omega
                   have := Nat.mul_le_mul_right sz e1
                   omega
                 · intro hc
                   rw [if_neg (by omega), ha (by omega), den_add]
                   have e1 : ((o.den Φ ρ).int + (lT.den Φ ρ).int).toNat = (o.den Φ ρ).int.toNat + (lT.den Φ ρ).int.toNat := by omega
                   simp only [Option.map_some, Addr.add_mid, e1, Nat.add_mul]
                   congr 2
                   omega
             · cases h
           · cases h
       · cases h
     · simp only [V.rep, W.rep, C.rep] at hx
       subst hx
       split at h
       · cases mxv with
         | some _ => exact hmx.elim
         | none =>
           split at h
           · rename_i hh0 hl0
             rw [rv_some h]
             have hh : (hiv = none ∧ (0 : Int) = (0 : Nat)) ∨ ∃ k, hiv = some (.int k 0) := by
               rcases bound0 hh0 hhi with ⟨_, q, _⟩ | q
               · exact .inl ⟨q, rfl⟩
               · exact .inr q
             have hl' : (lov = none ∧ (0 : Int) = 0) ∨ ∃ k, lov = some (.int k 0) := by
               rcases bound0 hl0 hlo with ⟨_, q, _⟩ | q
               · exact .inl ⟨q, rfl⟩
               · exact .inr q
             have hsb := sliceBounds_ok (P := P) true 0 0 hh hl' (Int.le_refl _) (Int.le_refl _) (Int.le_refl _) w
             refine Did.same (v := .slice none 0 0) ?_ rfl
             simp only [Instr.sliceAt, Instr.slice, Sem.run_bind, run_underlying hu w, Result.andThen_ok, hsb, sizeT_ok hsz w, Sem.run_pure]
             rfl
           · cases h
       · split at h
         · rename_i hm0 hh0 hl0
           rw [rv_some h]
           rcases bound0 hm0 hmx with ⟨q, _⟩ | ⟨km, rfl⟩
           · cases q
           · have hh : ∃ k, hiv = some (.int k 0) := by
               rcases bound0 hh0 hhi with ⟨_, _, q⟩ | q
               · exact absurd q (fun e => by injection e with e; cases e)
               · exact q
             have hl' : lov = none ∨ ∃ k, lov = some (.int k 0) := by
               rcases bound0 hl0 hlo with ⟨_, q, _⟩ | q
               · exact .inl q
               · exact .inr q
             have hsb := sliceBounds3_ok (P := P) (k := km) 0 0 hh hl' w
             refine Did.same (v := .slice none 0 0) ?_ ⟨none, rfl⟩
             simp only [Instr.sliceAt, Instr.slice, Sem.run_bind, run_underlying hu w, Result.andThen_ok, hsb, sizeT_ok hsz w, Sem.run_pure]
             rfl
         · cases h
     · cases h
 · rename_i n e hu
   split at h
   · cases h
   · rename_i sz hsz
     split at h
     · rename_i j pe st r
       split at h
       · rename_i base rwf xs hbase hj
         split at h
         · rename_i hxs
           cases mxv with
           | some _ => exact hmx.elim
           | none =>
             split at h
             · rename_i hT lT hhT hlT
               obtain ⟨h1, h⟩ := chkT_some hEb h
               obtain ⟨h2, h⟩ := chkT_some hEb h
               obtain ⟨h3, h⟩ := chkT_some hEb h
               replace h1 := le_chk h1
               replace h2 := le_chk h2
               replace h3 := le_chk h3
               simp only [T.den, D.int_i, Int.ofNat_eq_natCast] at h1 h3
               rw [rv_some h]
               simp only [V.rep, W.rep, C.rep] at hx
               obtain ⟨pl, hpl, rfl⟩ := hx
               obtain ⟨pl', hpl', hrep⟩ := hm.1 j _ hj
               rw [hpl] at hpl'
               injection hpl' with hpl'
               subst hpl'
               have hsz' : xs.length ≤ pl.sz := hrep.1.1
               have hb := baseOf_ok (Φ := Φ) (ρ := ρ) hbase
               have bh : (hiv = none ∧ (hT.den Φ ρ).int = (n : Int)) ∨ ∃ k, hiv = some (.int k (hT.den Φ ρ).int) := by
                 rcases boundT_ok (ov := hiv) hhT (by cases hi <;> cases hiv <;> exact hhi) with ⟨q1, q2, _⟩ | q
                 · exact .inl ⟨q1, by rw [q2]; rfl⟩
                 · exact .inr q
               have bl : (lov = none ∧ (lT.den Φ ρ).int = 0) ∨ ∃ k, lov = some (.int k (lT.den Φ ρ).int) := by
                 rcases boundT_ok (ov := lov) hlT (by cases lo <;> cases lov <;> exact hlo) with ⟨q1, q2, _⟩ | q
                 · exact .inl ⟨q1, by rw [q2]; rfl⟩
                 · exact .inr q
               have hsb := sliceBounds_ok (P := P) false n n bh bl h1 h2 (by omega) w
               refine Did.same (v := .slice (some (if n = (lT.den Φ ρ).int.toNat then ⟨pl.b, pl.o + (r + (pe.den Φ ρ).int.toNat * st), none⟩ else Addr.add ⟨pl.b, pl.o + (r + (pe.den Φ ρ).int.toNat * st), none⟩ ((lT.den Φ ρ).int.toNat * sz))) ((hT.den Φ ρ).int.toNat - (lT.den Φ ρ).int.toNat) (n - (lT.den Φ ρ).int.toNat)) ?_ ?_
               · simp only [Instr.sliceAt, Instr.sureAddr, Sem.run_bind, run_underlying hu w, Result.andThen_ok, hsb, sizeT_ok hsz w, Sem.run_pure]
               · refine ⟨pl, hpl, _, _, _, rfl, ?_, by omega, h1, ?_, ?_⟩
                 · rw [den_sub]; omega
                 · have e1 : (lT.den Φ ρ).int.toNat + (n - (lT.den Φ ρ).int.toNat) = n := by omega
                   rw [e1]; omega
                 · intro hc
                   rw [if_neg (by omega), hb, Addr.add_mid]
                   congr 2
                   omega
             · cases h
         · cases h
       · cases h
     · cases h
 · cases h
end
end Go.Proofs.YtfhjlimdakphcaaGreat.Sx
set_option linter.unusedVariables false
set_option linter.unusedSimpArgs false
namespace Go.Proofs.YtfhjlimdakphcaaGreat.Sx
open Go Go.RowKit
section
variable {Φ : Sig} {ρ : Env} {β : Map} {w : World} {P : Program} {bs : Bs} {nb : Nat} {res : Res}
theorem copies_getL {α : Type} (l : List α) : ∀ (n i : Nat), i < n * l.length → (copies l n)[i]? = l[i % l.length]?
 | 0, i, h => by omega
 | n + 1, i, h => by
   rw [Nat.succ_mul] at h
   simp only [copies]
   by_cases hi : i < l.length
   · rw [List.getElem?_append_left hi, Nat.mod_eq_of_lt hi]
   · rw [List.getElem?_append_right (by omega), copies_getL l n (i - l.length) (by omega)]
     congr 1
     exact (Nat.mod_eq_sub_mod (by omega)).symm
theorem flatten_copies {α : Type} (l : List α) : ∀ n, (List.replicate n l).flatten = copies l n
 | 0 => rfl
 | n + 1 => by simp [List.replicate_succ, copies, flatten_copies l n]
theorem wrap64_id {z : Int} (h0 : 0 ≤ z) (h1 : z ≤ 140737488355328) : IntKind.i64.wrap z = z := by
 exact IntWalk.i64_in z (by omega)
theorem makeSlice_ok {t : TypeId} {x y : V} {xv yv : Value} (h : (opMakeSlice P t nb x y).val (T.den Φ ρ) = some res) (hx : x.rep (T.den Φ ρ) β xv) (hy : y.rep (T.den Φ ρ) β yv) (hfree : isNew nb res.nb nb → β nb = none) :
   Did (T.den Φ ρ) (look bs) β w nb res ((do pure (.value (← Instr.makeSlice t xv yv)) : Sem Next).run P w) := by
 unfold opMakeSlice at h
 split at h
 · rename_i k1 len k2 cap
   simp only [V.rep, W.rep, C.rep] at hx hy
   subst hx hy
   split at h
   · rename_i e hu
     split at h
     · cases h
     · rename_i i hi
       split at h
       · rename_i h0
         split at h
         · cases h
         · rename_i z hz
           split at h
           · rename_i hzl
             split at h
             · rename_i hlc
               have hlc := T.beq_eq hlc
               subst hlc
               replace h := chkT_some hEb h
               obtain ⟨h1, h⟩ := h
               replace h := chkT_some hEb h
               obtain ⟨h2, h⟩ := h
               replace h := chkT_some hEb h
               obtain ⟨h3, h⟩ := h
               replace h1 := le_chk h1
               replace h2 := le_chk h2
               replace h3 := le_chk h3
               rw [den_mul] at h2
               simp only [T.den, D.int_i, Int.ofNat_eq_natCast] at h1 h2 h3
               obtain ⟨i', zv, hi', hzv, hr⟩ := zeroC_ok (Φ := Φ) (ρ := ρ) (β := β) hz
               rw [hi] at hi'
               injection hi' with hi'
               subst hi'
               have hzs : zv.cells.size = i.size := by have := repL_length hr; simp at this; omega
               obtain ⟨n, hn⟩ := Int.eq_ofNat_of_zero_le h1
               have hw := wrap64_id h1 h3
               have hrun : (do pure (.value (← Instr.makeSlice t (.int k1 (len.den Φ ρ).int) (.int k2 (len.den Φ ρ).int))) : Sem Next).run P w = .ok (.value (.slice (some ⟨w.heap.size, 0, none⟩) n n)) (w.alloc (.cells ((Array.range (n * i.size)).map (zv.cells[· % zv.cells.size]!)) e)) := by
                 have hb : (i.bytes : Int) * (len.den Φ ρ).int ≤ 140737488355328 := by rw [Int.mul_comm]; exact h2
                 simp only [Instr.makeSlice, Sem.run_bind, run_underlying hu w, Result.andThen_ok, asInt, asIntOf, Sem.run_pure, typeInfo, run_program, hi, hw]
                 rw [if_neg (by simp; omega)]
                 simp only [Sem.run_bind, Sem.run_pure, Result.andThen_ok, run_askRoom, sizeOf, typeInfo, run_program, hi]
                 rw [hn]
                 simp only [Int.toNat_natCast]
                 by_cases h00 : n * i.size = 0
                 · simp only [h00, if_true, Sem.run_bind, Sem.run_pure, Result.andThen_ok, newRow, run_newObj]
                   have hr0 : Array.range 0 = #[] := rfl
                   rw [hr0]
                   simp only [List.map_toArray, List.map_nil]
                   rfl
                 · simp only [h00, if_false, Sem.run_bind, run_zero hi hzv w, Sem.run_pure, Result.andThen_ok, newRow, run_newObj]
                   rfl
               have harr : ((Array.range (n * i.size)).map (zv.cells[· % zv.cells.size]!)).toList = copies zv.cells.toList n := by
                 rw [← hzs]; exact range_copies zv.cells n (by omega)
               have hsz : ((Array.range (n * i.size)).map (zv.cells[· % zv.cells.size]!)).size = n * i.size := by simp
               have fin : β nb = none → ∀ (k : Blk), k.rep (T.den Φ ρ) (β.with nb ⟨w.heap.size, 0, n * i.size⟩) (w.alloc (.cells ((Array.range (n * i.size)).map (zv.cells[· % zv.cells.size]!)) e)) ⟨w.heap.size, 0, n * i.size⟩ →
                   Did (T.den Φ ρ) (look bs) β w nb ⟨.c (.s nb i.size 0 (.num 0) len), newBlk nb k, nb + 1⟩ ((do pure (.value (← Instr.makeSlice t (.int k1 (len.den Φ ρ).int) (.int k2 (len.den Φ ρ).int))) : Sem Next).run P w) := by
                 intro hfree k hk
                 refine ⟨_, _, β.with nb ⟨w.heap.size, 0, n * i.size⟩, .inl hrun, ⟨_, Map.with_self _ _ _, _, _, _, rfl, hn.symm, Nat.le_refl _, by simp [T.den], by simp [T.den], fun _ => by simp [T.den]⟩, ?_⟩
                 have := StepR.alloc (E := T.den Φ ρ) (bs := look bs) (β := β) (w := w) (w1 := w) (nb := nb) (arr := ((Array.range (n * i.size)).map (zv.cells[· % zv.cells.size]!))) (ty := e) (k := k) rfl rfl rfl rfl hfree (by rw [hsz]; exact hk)
                 rw [hsz] at this
                 exact this
               have rowFin : ∀ (ks : List IntKind) (l lr : T), β nb = none → intsT z = some (ks, l) → ¬ ks.length = 0 → (lr.den Φ ρ).list = copies (l.den Φ ρ).list n → Did (T.den Φ ρ) (look bs) β w nb ⟨.c (.s nb i.size 0 (.num 0) len), newBlk nb (.row ks lr), nb + 1⟩ ((do pure (.value (← Instr.makeSlice t (.int k1 (len.den Φ ρ).int) (.int k2 (len.den Φ ρ).int))) : Sem Next).run P w) := by
                 intro ks l lr hfree hks hk0 hden
                 obtain ⟨a1, a2, a3⟩ := intsT_ok (Φ := Φ) (ρ := ρ) (β := β) hks hr
                 refine fin hfree _ ?_
                 have := Blk.row_new (E := T.den Φ ρ) (β := β.with nb ⟨w.heap.size, 0, n * i.size⟩) (w := w) (w1 := w) (ks := ks) (l := lr) (arr := ((Array.range (n * i.size)).map (zv.cells[· % zv.cells.size]!))) (ty := e) rfl (by omega)
                   (by rw [hden, copies_length, hsz, a2, hzl]; exact Nat.le_refl _) (fun p x hp => by
                     rw [hden] at hp
                     have hlt := (List.getElem?_eq_some_iff.1 hp).1
                     rw [copies_length] at hlt
                     rw [copies_getL _ _ _ hlt, a2] at hp
                     rw [← Array.getElem?_toList, harr, copies_getL _ _ _ (by rw [Array.length_toList, hzs]; rw [a2, hzl] at hlt; exact hlt), Array.length_toList, hzs, a3, a1, ← hzl]
                     have hlt2 : p % z.length < ks.length := by rw [a1]; exact Nat.mod_lt _ (by omega)
                     have hk : ks[p % z.length]? = some ks[p % z.length] := List.getElem?_eq_getElem hlt2
                     rw [ints_get ks _ _ x _ hk hp, List.getD_eq_getElem?_getD, hk]; rfl)
                 rw [hsz] at this
                 exact this
               split at h
               · rename_i nn
                 have hnn : nn = n := by simp only [T.den, D.int_i, Int.ofNat_eq_natCast] at hn; omega
                 split at h
                 · simp only [O.val] at h
                   injection h with h
                   subst h
                   replace hfree := hfree ⟨Nat.le_refl _, Nat.lt_succ_self _⟩
                   subst hnn
                   refine fin hfree _ ?_
                   have := rowOrCells_new (Φ := Φ) (ρ := ρ) (β := β.with nb ⟨w.heap.size, 0, nn * i.size⟩) (w := w) (w1 := w) (cs := copies z nn) (st := i.size) (arr := ((Array.range (nn * i.size)).map (zv.cells[· % zv.cells.size]!))) (ty := e) h0 rfl (by rw [harr]; exact copies_rep (repL_le (Map.le_with hfree) hr) nn)
                   rw [hsz] at this
                   exact this
                 · split at h
                   · rename_i ks l hks
                     split at h
                     · cases h
                     · rename_i hk0
                       simp only [O.val] at h
                       injection h with h
                       subst h
                       exact rowFin ks l _ (hfree ⟨Nat.le_refl _, Nat.lt_succ_self _⟩) hks hk0 (by simp only [T.den, O2.den, D.list_l, D.int_i, Int.ofNat_eq_natCast, Int.toNat_natCast, hnn, flatten_copies])
                   · cases h
               · split at h
                 · rename_i ks l hks
                   split at h
                   · cases h
                   · rename_i hk0
                     simp only [O.val] at h
                     injection h with h
                     subst h
                     exact rowFin ks l _ (hfree ⟨Nat.le_refl _, Nat.lt_succ_self _⟩) hks hk0 (by rw [den_rep, hn, flatten_copies]; simp)
                 · cases h
             · cases h
           · cases h
       · cases h
   · cases h
 · cases h
theorem len_ok {at_ : Array TypeId} {ty : TypeId} {vs : List V} {xs : List Value} (h : (opLen P at_ nb vs).val (T.den Φ ρ) = some res) (hv : repVs (T.den Φ ρ) β vs xs) :
   Did (T.den Φ ρ) (look bs) β w nb res ((do pure (.value (← Builtin.len_ at_ ty xs.toArray)) : Sem Next).run P w) := by
 unfold opLen at h
 split at h
 · rename_i x
   match xs, hv with
   | [xv], hv =>
     have hx := hv.1
     split at h
     · cases h
     · rename_i t ht
       split at h
       · rename_i n e hu
         rw [intR_some h]
         refine Did.int (z := (n : Int)) ?_ (by simp [T.den])
         simp [Builtin.len_, ht, run_underlying hu w, goInt]
       · rename_i e hu
         split at h
         · simp only [V.rep, W.rep, C.rep] at hx
           obtain ⟨pl, hpl, a, l, c, rfl, hl, _⟩ := hx
           rw [intR_some h]
           refine Did.int (z := (l : Int)) ?_ hl.symm
           simp [Builtin.len_, ht, run_underlying hu w, goInt]
         · simp only [V.rep, W.rep, C.rep] at hx
           subst hx
           rw [intR_some h]
           refine Did.int (z := 0) ?_ (by simp [T.den])
           simp [Builtin.len_, ht, run_underlying hu w, goInt]
         · simp only [V.rep, W.rep, C.rep] at hx
           obtain ⟨a, rfl⟩ := hx
           rw [intR_some h]
           refine Did.int (z := 0) ?_ (by simp [T.den])
           simp [Builtin.len_, ht, run_underlying hu w, goInt]
         · cases h
       · cases h
 · cases h
def Holds (w : World) (b o : Nat) (ks : List IntKind) (l : List Int) : Prop := ∀ (i : Nat) (z : Int), l[i]? = some z → w.cell? ⟨b, o + i, none⟩ = some (.int (ks.getD (i % ks.length) .u8) z)
theorem sliceT_ok {b : Blk} {st r : Nat} {o len : T} {ks : List IntKind} {l : T} {pl : Place} {n : Nat} (h : (sliceT b st r o len).val (T.den Φ ρ) = some (ks, l)) (hb : b.rep (T.den Φ ρ) β w pl) (ho : 0 ≤ (o.den Φ ρ).int) (hn : (n : Int) = (len.den Φ ρ).int) :
   (l.den Φ ρ).list.length = n * st ∧ ((ks ≠ [] → ks.length = st) ∧ (ks ≠ [] ∨ st = 0 ∨ (l.den Φ ρ).list = [])) ∧ Holds w pl.b (pl.o + (r + (o.den Φ ρ).int.toNat * st)) ks (l.den Φ ρ).list := by
 unfold sliceT at h
 split at h
 · cases h
 · rename_i ks' l'
   split at h
   · rename_i hst
     simp only [Bool.and_eq_true] at hst
     have hks := Nat.eq_of_beq_eq_true hst.1
     have h1 := Nat.le_of_ble_eq_true hst.2
     split at h
     · rename_i hr
       have hr := Nat.eq_of_beq_eq_true hr
       subst hr
       replace h := chkT_some hEb h
       obtain ⟨hc, h⟩ := h
       replace hc := le_chk hc
       rw [den_mul, den_add, den_len] at hc
       simp only [O.val] at h
       injection h with h
       injection h with e1 e2
       subst e1 e2
       obtain ⟨oo, hoo⟩ := Int.eq_ofNat_of_zero_le ho
       rw [den_take, den_drop, den_mul, den_mul, hoo, ← hn]
       rw [hoo, ← hn] at hc
       simp only [T.den, D.int_i, Int.ofNat_eq_natCast] at hc ⊢
       have hc' : (oo + n) * st ≤ (l'.den Φ ρ).list.length := by
         have : (((oo + n) * st : Nat) : Int) = ((oo : Int) + (n : Int)) * (st : Int) := by simp
         omega
       rw [Nat.add_mul] at hc'
       have t1 : ((oo : Int) * (st : Int)).toNat = oo * st := by rw [toNat_mul_nat st (Int.natCast_nonneg _)]; simp
       have t2 : ((n : Int) * (st : Int)).toNat = n * st := by rw [toNat_mul_nat st (Int.natCast_nonneg _)]; simp
       rw [t1, t2, Int.toNat_natCast]
       refine ⟨by simp; omega, ⟨fun _ => hks, .inl (fun e => by rw [e] at hks; simp at hks; omega)⟩, fun i z hz => ?_⟩
       rw [List.getElem?_take] at hz
       split at hz
       · rw [List.getElem?_drop] at hz
         have := hb.2.2 _ z hz
         rw [Nat.add_mod, ← hks, Nat.mul_mod_left, Nat.zero_add, Nat.mod_mod] at this
         rw [show pl.o + (0 + oo * st) + i = pl.o + (oo * st + i) by omega, ← hks]
         exact this
       · cases hz
     · split at h
       · rename_i hs1
         have hs1 := Nat.eq_of_beq_eq_true hs1
         subst hs1
         replace h := chkT_some hEb h
         obtain ⟨hc, h⟩ := h
         replace hc := le_chk hc
         rw [den_add, den_add, den_len] at hc
         simp only [O.val] at h
         injection h with h
         injection h with e1 e2
         subst e1 e2
         obtain ⟨oo, hoo⟩ := Int.eq_ofNat_of_zero_le ho
         rw [den_take, den_drop, den_add, hoo, ← hn]
         rw [hoo, ← hn] at hc
         simp only [T.den, D.int_i, Int.ofNat_eq_natCast] at hc ⊢
         have t1 : ((oo : Int) + (r : Int)).toNat = oo + r := by omega
         rw [t1, Int.toNat_natCast, Int.toNat_natCast]
         refine ⟨by simp; omega, ⟨fun _ => hks, .inl (fun e => by rw [e] at hks; simp at hks)⟩, fun i z hz => ?_⟩
         rw [List.getElem?_take] at hz
         split at hz
         · rw [List.getElem?_drop] at hz
           have := hb.2.2 _ z hz
           rw [hks, Nat.mod_one] at this
           rw [hks, Nat.mod_one, show pl.o + (r + oo * 1) + i = pl.o + (oo + r + i) by omega]
           exact this
         · cases hz
       · cases h
   · cases h
 · rename_i xs
   split at h
   · rename_i oo nn
     split at h
     · rename_i hle
       split at h
       · rename_i ks' l' hi
         split at h
         · rename_i hcyc
           simp only [O.val] at h
           injection h with h
           injection h with e1 e2
           subst e1 e2
           obtain ⟨vs, hv1, hv2⟩ := cells_vals (Φ := Φ) (ρ := ρ) (β := β) (w := w) pl.b xs pl.o hb.2
           have hsub := repL_take (repL_drop hv1 (r + oo * st)) (nn * st)
           obtain ⟨a1, a2⟩ := row_of_cells hi hcyc hsub
           obtain ⟨b1, b2, _⟩ := intsT_ok hi hsub
           have hnn : nn = n := by simp only [T.den, D.int_i, Int.ofNat_eq_natCast] at hn; omega
           subst hnn
           have hlv := repL_length hv1
           rw [Nat.add_mul] at hle
           have hll : ((xs.drop (r + oo * st)).take (nn * st)).length = nn * st := by simp; omega
           refine ⟨by rw [b2, hll], ⟨fun hne => ?_, ?_⟩, fun i z hz => ?_⟩
           · rw [List.length_take, b1, hll]
             by_cases h0 : nn * st = 0
             · exfalso
               apply hne
               have : ks' = [] := List.length_eq_zero_iff.mp (by omega)
               rw [this]; simp
             · have : 1 ≤ nn := Nat.pos_of_ne_zero (fun e => h0 (by rw [e]; simp))
               have := Nat.mul_le_mul_right st this
               omega
           · by_cases h0 : ks'.take st = []
             · by_cases h1 : st = 0
               · exact .inr (.inl h1)
               · have hk0 : ks' = [] := by
                   cases ks' with
                   | nil => rfl
                   | cons k ks' =>
                     cases st with
                     | zero => exact absurd rfl h1
                     | succ st => simp at h0
                 exact .inr (.inr (List.length_eq_zero_iff.mp (by rw [b2, ← b1, hk0]; rfl)))
             · exact .inl h0
           · have := a2 i z hz
             rw [List.getElem?_take] at this
             split at this
             · rw [List.getElem?_drop] at this
               have := hv2 _ _ this
               simp only [T.den, D.int_i, Int.ofNat_eq_natCast, Int.toNat_natCast]
               rw [show pl.o + (r + oo * st) + i = pl.o + (r + oo * st + i) by omega]
               exact this
             · cases this
         · cases h
       · cases h
     · cases h
   · cases h
def rowV (ks : List IntKind) (l : List Int) : List Value := (List.range l.length).map fun i => .int (ks.getD (i % ks.length) .u8) (l.getD i 0)
theorem rowV_length (ks : List IntKind) (l : List Int) : (rowV ks l).length = l.length := by simp [rowV]
theorem rowV_get (ks : List IntKind) (l : List Int) (i : Nat) (z : Int) (h : l[i]? = some z) : (rowV ks l)[i]? = some (.int (ks.getD (i % ks.length) .u8) z) := by
 have hlt := (List.getElem?_eq_some_iff.1 h).1
 simp only [rowV, List.getElem?_map, List.getElem?_range hlt, Option.map_some, List.getD_eq_getElem?_getD, h, Option.getD_some]
theorem rowV_one (ks : List IntKind) (l : List Int) : ∀ v ∈ rowV ks l, v.oneCell' = true := by
 intro v hv
 simp only [rowV, List.mem_map] at hv
 obtain ⟨i, _, rfl⟩ := hv
 rfl
theorem Holds.range {b o : Nat} {ks : List IntKind} {l : List Int} (h : Holds w b o ks l) : w.rangeAt b o (rowV ks l) := by
 intro j v hv
 have hlt := (List.getElem?_eq_some_iff.1 hv).1
 rw [rowV_length] at hlt
 have hz : l[j]? = some l[j] := List.getElem?_eq_getElem hlt
 rw [rowV_get ks l j _ hz] at hv
 injection hv with hv
 subst hv
 exact h j _ hz
theorem srcT_ok {st : Nat} {x : V} {xv : Value} {kx : List IntKind} {lx n : T} {tx e' : TypeId} (h : (srcT st bs x).val (T.den Φ ρ) = some (kx, lx, n)) (hx : x.rep (T.den Φ ρ) β xv) (hm : memRep (T.den Φ ρ) β w (look bs)) (hst : 0 < st) (hk : P.underlying tx = some (.slice e')) :
   ∃ m : Nat, (n.den Φ ρ).int = m ∧ Src P st tx xv m (rowV kx (lx.den Φ ρ).list) w ∧ (lx.den Φ ρ).list.length = m * st ∧ ((kx ≠ [] → kx.length = st) ∧ (kx ≠ [] ∨ (lx.den Φ ρ).list = [])) ∧ (∃ a c, xv = .slice a m c) ∧
     ∀ q, q ≤ m → (Builtin.firstCells st q xv).run P w = .ok ((rowV kx (lx.den Φ ρ).list).take (q * st)).toArray w := by
 have zero : ∀ (a : Option Addr) (l c : Nat) (vs : List Value), (Builtin.firstCells st 0 (.slice a l c)).run P w = .ok (vs.take (0 * st)).toArray w := by
   intro a l c vs
   rw [Nat.zero_mul, List.take_zero]
   cases a with
   | none => exact run_firstCells_none w _ _ _ _
   | some a => exact run_firstCells_some w st 0 a l c [] (by simp) (fun j v h => by simp at h)
 unfold srcT at h
 split at h
 · rename_i j st' r o len
   split at h
   · rename_i hs
     have hs := Nat.eq_of_beq_eq_true hs
     subst hs
     split at h
     · rename_i mb hj
       obtain ⟨⟨ks, l⟩, hsl, h⟩ := O.bind_some h
       simp only [O.val] at h
       injection h with h
       injection h with e1 e2
       injection e2 with e2 e3
       subst e1 e2 e3
       simp only [V.rep, W.rep, C.rep] at hx
       obtain ⟨pl, hpl, a, m, c, rfl, hl, hlc, ho, hfit, ha⟩ := hx
       obtain ⟨pl', hpl', hrep⟩ := hm.1 j mb hj
       rw [hpl] at hpl'
       injection hpl' with hpl'
       subst hpl'
       obtain ⟨q1, q2, q3⟩ := sliceT_ok hsl hrep.1 ho hl
       have hlen : (rowV ks (l.den Φ ρ).list).length = m * st := by rw [rowV_length]; exact q1
       refine ⟨m, hl.symm, ?_, q1, ⟨q2.1, q2.2.imp id (fun q => q.resolve_left (by omega))⟩, ⟨_, _, rfl⟩, fun q hq => ?_⟩
       · by_cases hc : 0 < c
         · rw [ha hc]
           exact Src.ofSlice w hk _ m c _ hlen (fun i u hu => by rw [Addr.add_mid]; exact q3.range i u hu) (rowV_one _ _)
         · have hm0 : m = 0 := by omega
           subst hm0
           have hnil : rowV ks (l.den Φ ρ).list = [] := List.length_eq_zero_iff.mp (by rw [hlen]; simp)
           rw [hnil]
           cases a with
           | none => exact Src.ofNil w hk c
           | some a => exact Src.ofSlice w hk a 0 c [] (by simp) (fun i u hu => by simp at hu) (fun u hu => by cases hu)
       · by_cases hc : 0 < c
         · rw [ha hc]
           refine run_firstCells_some w st q _ m c _ (by rw [List.length_take, hlen]; exact Nat.min_eq_left (Nat.mul_le_mul_right _ hq)) (fun p u hp => ?_)
           rw [List.getElem?_take] at hp
           split at hp
           · rw [Addr.add_mid]; exact q3.range p u hp
           · cases hp
         · have : q = 0 := by omega
           subst this
           exact zero _ _ _ _
     · cases h
   · cases h
 · simp only [O.val] at h
   injection h with h
   injection h with e1 e2
   injection e2 with e2 e3
   subst e1 e2 e3
   simp only [V.rep, W.rep, C.rep] at hx
   subst hx
   exact ⟨0, rfl, Src.ofNil w hk 0, by simp [T.den], ⟨fun h => absurd rfl h, .inr rfl⟩, ⟨_, _, rfl⟩, fun q hq => by (have : q = 0 := (by omega)); subst this; exact zero _ _ _ _⟩
 · simp only [O.val] at h
   injection h with h
   injection h with e1 e2
   injection e2 with e2 e3
   subst e1 e2 e3
   simp only [V.rep, W.rep, C.rep] at hx
   obtain ⟨a, rfl⟩ := hx
   refine ⟨0, rfl, ?_, by simp [T.den], ⟨fun h => absurd rfl h, .inr rfl⟩, ⟨_, _, rfl⟩, fun q hq => by (have : q = 0 := (by omega)); subst this; exact zero _ _ _ _⟩
   cases a with
   | none => exact Src.ofNil w hk 0
   | some a => exact Src.ofSlice w hk a 0 0 [] (by simp) (fun i u hu => by simp at hu) (fun u hu => by cases hu)
 · cases h
theorem kindsOk_row {ks kx : List IntKind} {l : List Int} (h : kindsOk ks kx = true) (hl : kx ≠ [] ∨ l = []) : rowV kx l = rowV ks l := by
 unfold kindsOk at h
 split at h
 · rcases hl with hl | rfl
   · exact absurd rfl hl
   · rfl
 · rw [kbeqL_eq h]
theorem rowV_append {ks : List IntKind} {a b : List Int} {m : Nat} (hm : a.length = m * ks.length) : rowV ks (a ++ b) = rowV ks a ++ rowV ks b := by
 apply List.ext_getElem?
 intro i
 by_cases hi : i < (a ++ b).length
 · have hz := List.getElem?_eq_getElem hi
   rw [rowV_get ks _ i _ hz]
   by_cases ha : i < a.length
   · rw [List.getElem?_append_left (by rw [rowV_length]; exact ha)]
     rw [List.getElem?_append_left ha] at hz
     rw [rowV_get ks a i _ hz]
   · rw [List.getElem?_append_right (by rw [rowV_length]; omega), rowV_length]
     rw [List.getElem?_append_right (by omega)] at hz
     rw [rowV_get ks b _ _ hz]
     congr 3
     rw [hm]
     rw [show i = (i - m * ks.length) + m * ks.length by omega, Nat.add_mul_mod_self_right, Nat.add_sub_cancel]
 · rw [List.getElem?_eq_none (by rw [rowV_length]; omega), List.getElem?_eq_none (by simp [rowV_length] at hi ⊢; omega)]
theorem elemK_ok {e : TypeId} {i : TypeInfo} {ks : List IntKind} (hi : P.info? e = some i) (h : elemK P e = some ks) : ks ≠ [] ∧ ∃ z, i.zero = some z ∧ z.cells.size = ks.length := by
 unfold elemK at h
 split at h
 · rename_i cs hcs
   split at h
   · rename_i k ks' l hints
     injection h with h
     subst h
     obtain ⟨i', z, hi', hz, hr⟩ := zeroC_ok (Φ := fun _ _ _ _ => .i 0) (ρ := fun _ => .i 0) (β := fun _ => none) hcs
     rw [hi] at hi'
     injection hi' with hi'
     subst hi'
     obtain ⟨a, _, _⟩ := intsT_ok hints hr
     have := repL_length hr
     exact ⟨by simp, z, hz, by simp at this; omega⟩
   · cases h
 · cases h
theorem StepR.kill {E : Ev} {bs : Nat → Option MB} {β β' : Map} {w w' : World} {nb nb' : Nat} {eff : List (Nat × Option MB)} {j : Nat} {m : MB} (h : StepR E bs β w nb eff nb' β' w') (hj : bs j = some m) (hrw : m.rw = true) (hno : hasK eff j = false) (hold : ¬ isNew nb nb' j) :
   StepR E bs β w nb (eff ++ [(j, none)]) nb' β' w' where
 ge := h.ge
 le := h.le
 old := h.old
 os := h.os
 tape := h.tape
 output := h.output
 size := h.size
 kept := fun b hb hc => h.kept b hb (fun k pk hk hn hp hs => hc k pk (by rw [hasK_append, hk]; rfl) hn hp hs)
 mem := fun i mi hi => by
   rw [lookM_append] at hi
   split at hi
   · exact h.mem i mi hi
   · simp only [lookM] at hi
     split at hi <;> cases hi
 wr := fun i hi hn => by
   rw [hasK_append, Bool.or_eq_true] at hi
   rcases hi with hi | hi
   · exact h.wr i hi hn
   · simp only [hasK, Bool.or_false] at hi
     have e := Nat.eq_of_beq_eq_true hi
     subst e
     exact ⟨m, hj, hrw⟩
 new := fun i pl hn hi hs => by
   obtain ⟨h1, h2⟩ := h.new i pl hn hi hs
   refine ⟨h1, h2.imp id ?_⟩
   rintro ⟨k, pk, hk, hkl, hrest⟩
   refine ⟨k, pk, by rw [hasK_append, hk]; rfl, by rw [lookM_append, if_pos hk]; exact hkl, hrest⟩
 excl := fun i i' m1 m2 pl pl' hne hn hn' h1 h2 => by
   have live : ∀ i mi, lookM (eff ++ [(j, none)]) i = some mi → lookM eff i = some mi := by
     intro i mi hl
     rw [lookM_append] at hl
     split at hl
     · exact hl
     · simp only [lookM] at hl
       split at hl <;> cases hl
   exact h.excl i i' m1 m2 pl pl' hne hn hn' (live i m1 h1) (live i' m2 h2)
theorem StepR.phantom {E : Ev} {bs : Nat → Option MB} {β : Map} {w : World} {nb : Nat} {k : Blk} (hfree : β nb = none) (hk : k.rep E (β.with nb ⟨0, 0, 0⟩) w ⟨0, 0, 0⟩) :
   StepR E bs β w nb [(nb, some ⟨true, k⟩)] (nb + 1) (β.with nb ⟨0, 0, 0⟩) w where
 ge := by omega
 le := Map.le_with hfree
 old := fun j h => Map.with_other β _ (fun e => h (isNew_one.mpr e))
 os := rfl
 tape := rfl
 output := rfl
 size := Nat.le_refl _
 kept := fun _ _ _ => rfl
 mem := fun j m h => by
   simp only [lookM] at h
   split at h
   · rename_i e
     have e := Nat.eq_of_beq_eq_true e
     subst e
     injection h with h
     subst h
     exact ⟨_, Map.with_self β nb _, hk, fun _ => .inl rfl⟩
   · cases h
 wr := fun j h hn => by
   simp only [hasK, Bool.or_false] at h
   exact absurd (isNew_one.mpr (Nat.eq_of_beq_eq_true h).symm) hn
 new := fun j pl h hj hs => by
   have e := isNew_one.mp h
   subst e
   rw [Map.with_self] at hj
   injection hj with hj
   subst hj
   exact absurd rfl hs
 excl := fun j j' m m' pl pl' hne h h' => by
   have := isNew_one.mp h
   have := isNew_one.mp h'
   omega
theorem StepR.room {E : Ev} {bs : Nat → Option MB} {β : Map} {w : World} {nb : Nat} {k : Blk} {j : Nat} {m : MB} {pl : Place} {vs : List Value} {off : Nat} (hfree : β nb = none) (hj : bs j = some m) (hrw : m.rw = true) (hpl : β j = some pl) (hne : j ≠ nb) (hown : ownRep w pl) (hheap : pl.sz ≠ 0 → pl.b < w.heap.size) (hfit : vs.length ≠ 0 → pl.sz ≠ 0)
   (hk : k.rep E (β.with nb pl) (w.setCells pl.b off vs) pl) : StepR E bs β w nb [(nb, some ⟨true, k⟩), (j, none)] (nb + 1) (β.with nb pl) (w.setCells pl.b off vs) where
 ge := by omega
 le := Map.le_with hfree
 old := fun j h => Map.with_other β _ (fun e => h (isNew_one.mpr e))
 os := (setCells_os _ _ _ _).1
 tape := (setCells_os _ _ _ _).2.1
 output := (setCells_os _ _ _ _).2.2
 size := by rw [setCells_size]; exact Nat.le_refl _
 kept := fun b hb h => by
   by_cases hv : vs.length = 0
   · have : vs = [] := List.length_eq_zero_iff.mp hv
     rw [this]; rfl
   · exact setCells_heap _ _ _ _ _ (h j pl (by simp [hasK]) (fun h => hne (isNew_one.mp h)) hpl (hfit hv))
 mem := fun i m' h => by
   simp only [lookM] at h
   split at h
   · rename_i e
     have e := Nat.eq_of_beq_eq_true e
     subst e
     injection h with h
     subst h
     refine ⟨pl, Map.with_self _ _ _, hk, fun _ => ?_⟩
     rcases hown with h0 | ⟨ho, arr, ty, ha, hs⟩
     · exact .inl h0
     · obtain ⟨arr', h1, h2⟩ := setCells_own pl.b vs off ha
       exact .inr ⟨ho, arr', ty, h2, by omega⟩
   · split at h <;> cases h
 wr := fun i h hn => by
   simp only [hasK, Bool.or_false, Bool.or_eq_true] at h
   rcases h with h | h
   · exact absurd (isNew_one.mpr (Nat.eq_of_beq_eq_true h).symm) hn
   · have e := Nat.eq_of_beq_eq_true h
     subst e
     exact ⟨m, hj, hrw⟩
 new := fun i p h hi hs => by
   have e := isNew_one.mp h
   subst e
   rw [Map.with_self] at hi
   injection hi with hi
   subst hi
   refine ⟨by rw [setCells_size]; exact hheap hs, .inr ⟨j, pl, by simp [hasK], ?_, fun h => hne (isNew_one.mp h), hpl, hs, rfl⟩⟩
   simp only [lookM]
   rw [if_neg (fun e => hne (Nat.eq_of_beq_eq_true e).symm), if_pos (Nat.beq_refl _)]
 excl := fun j j' m m' pl pl' hne h h' => by
   have := isNew_one.mp h
   have := isNew_one.mp h'
   omega
theorem grow_ok {t tx e ty : TypeId} {i : TypeInfo} {z xv : Value} {ks : List IntKind} {l1 l2 : T} {base : Option Addr} {sLen sCap m : Nat} {n : T} (hu : P.underlying t = some (.slice e)) (hi : P.info? e = some i) (hz : i.zero = some z) (hzs : z.cells.size = ks.length) (hks : ks ≠ []) (hsz : ks.length = i.size) (hby : 1 ≤ i.bytes)
   (hold : (Builtin.firstCells i.size sLen (.slice base sLen sCap)).run P w.drew = .ok (rowV ks (l1.den Φ ρ).list).toArray w.drew) (hl1 : (l1.den Φ ρ).list.length = sLen * i.size) (hs : Src P i.size tx xv m (rowV ks (l2.den Φ ρ).list) w) (hl2 : (l2.den Φ ρ).list.length = m * i.size)
   (hg : sCap < sLen + m) (hroom : (sLen + m) * i.bytes ≤ 140737488355328) (hn : (n.den Φ ρ).int = ((sLen + m : Nat) : Int)) (hfree : β nb = none) :
   ∃ v w' β', (Builtin.append_ #[t, tx] ty #[.slice base sLen sCap, xv]).run P w = .ok v w' ∧ (V.c (.s nb i.size 0 (.num 0) n)).rep (T.den Φ ρ) β' v ∧ StepR (T.den Φ ρ) (look bs) β w nb [(nb, some ⟨true, .row ks (mkApp l1 l2)⟩)] (nb + 1) β' w' := by
 have h63 : ((sLen + m : Nat) : Int) ≤ 9223372036854775807 := by
   have : sLen + m ≤ (sLen + m) * i.bytes := Nat.le_mul_of_pos_right _ hby
   omega
 have hrun := run_append_grow_src (P := P) w t tx ty e i z hu hi hz base sLen sCap (rowV ks (l1.den Φ ρ).list) hold xv m (rowV ks (l2.den Φ ρ).list) hs hg h63 (growslice_fits hg hroom)
 have hge := grownCap_ge w (sLen + m) sCap e
 have hk0 : 0 < ks.length := List.length_pos_iff.mpr hks
 have hden : ((mkApp l1 l2).den Φ ρ).list = (l1.den Φ ρ).list ++ (l2.den Φ ρ).list := den_app Φ ρ l1 l2
 have hrows : rowV ks ((l1.den Φ ρ).list ++ (l2.den Φ ρ).list) = rowV ks (l1.den Φ ρ).list ++ rowV ks (l2.den Φ ρ).list := rowV_append (m := sLen) (by rw [hl1, hsz])
 have hasz : ((rowV ks (l1.den Φ ρ).list ++ rowV ks (l2.den Φ ρ).list).toArray ++ Builtin.zeroCells z.cells (grownCap w (sLen + m) sCap e - (sLen + m))).size = grownCap w (sLen + m) sCap e * i.size := by
   simp only [Array.size_append, List.size_toArray, List.length_append, rowV_length, Builtin.zeroCells, Array.size_map, Array.size_range, hl1, hl2, hzs, hsz]
   rw [← Nat.add_mul, ← Nat.add_mul]
   congr 1
   omega
 refine ⟨_, _, β.with nb ⟨w.heap.size, 0, grownCap w (sLen + m) sCap e * i.size⟩, hrun, ⟨_, Map.with_self _ _ _, _, _, _, rfl, hn.symm, hge, by simp [T.den], by simp [T.den], fun _ => by simp [T.den]⟩, ?_⟩
 have := StepR.alloc (E := T.den Φ ρ) (bs := look bs) (β := β) (w := w) (w1 := w.drew) (nb := nb) (arr := ((rowV ks (l1.den Φ ρ).list ++ rowV ks (l2.den Φ ρ).list).toArray ++ Builtin.zeroCells z.cells (grownCap w (sLen + m) sCap e - (sLen + m)))) (ty := e) (k := .row ks (mkApp l1 l2)) rfl rfl rfl rfl hfree
   (Blk.row_new rfl hk0 (by rw [hden, List.length_append, hl1, hl2, ← Nat.add_mul, hasz]; exact Nat.mul_le_mul_right _ hge) (fun p x hp => by
     rw [hden] at hp
     have hlt := (List.getElem?_eq_some_iff.1 hp).1
     have h1 := rowV_get ks _ p x hp
     rw [hrows] at h1
     rw [Array.getElem?_append_left (by simp only [List.size_toArray, List.length_append, rowV_length]; simpa using hlt)]
     simpa using h1))
 rw [hasz] at this
 exact this
theorem appNew_ok {t tx e ty : TypeId} {i : TypeInfo} {xv : Value} {ks kx : List IntKind} {lx n : T} {a : Option Addr} {m : Nat} (h : (appNew ks i.size i.bytes nb lx n).val (T.den Φ ρ) = some res) (hu : P.underlying t = some (.slice e)) (hi : P.info? e = some i) (hks : elemK P e = some ks) (hsz : ks.length = i.size) (hby : 1 ≤ i.bytes)
   (hkx : kindsOk ks kx = true) (hn : (n.den Φ ρ).int = m) (hs : Src P i.size tx xv m (rowV kx (lx.den Φ ρ).list) w) (hl : (lx.den Φ ρ).list.length = m * i.size) (hkl : kx ≠ [] ∨ (lx.den Φ ρ).list = []) (hfree : isNew nb res.nb nb → β nb = none) :
   Did (T.den Φ ρ) (look bs) β w nb res ((do pure (.value (← Builtin.append_ #[t, tx] ty #[.slice a 0 0, xv])) : Sem Next).run P w) := by
 unfold appNew at h
 replace h := chkT_some hEb h
 obtain ⟨hc, h⟩ := h
 replace hc := le_chk hc
 rw [den_mul, hn] at hc
 simp only [T.den, D.int_i, Int.ofNat_eq_natCast] at hc
 simp only [O.val] at h
 injection h with h
 subst h
 replace hfree := hfree ⟨Nat.le_refl _, Nat.lt_succ_self _⟩
 rw [kindsOk_row hkx hkl] at hs
 obtain ⟨hne, z, hz, hzs⟩ := elemK_ok hi hks
 by_cases hm : m = 0
 · subst hm
   have hnil : (lx.den Φ ρ).list = [] := List.length_eq_zero_iff.mp (by rw [hl]; simp)
   rw [hnil] at hs
   have hrun := run_append_nothing (P := P) w t tx ty e i hu hi a 0 0 (Nat.le_refl _) xv hs
   refine ⟨.slice a 0 0, w, β.with nb ⟨0, 0, 0⟩, .inl ?_, ⟨_, Map.with_self _ _ _, _, _, _, rfl, by rw [hn], Nat.le_refl _, by simp [T.den], by simp [T.den], fun h => absurd h (Nat.lt_irrefl 0)⟩, StepR.phantom hfree ?_⟩
   · simp only [Sem.run_bind, hrun, Result.andThen_ok, Sem.run_pure]
   · exact ⟨List.length_pos_iff.mpr hne, by rw [hnil]; exact Nat.le_refl _, fun p x hp => by rw [hnil] at hp; simp at hp⟩
 · have hold : (Builtin.firstCells i.size 0 (.slice a 0 0)).run P w.drew = .ok (rowV ks (T.den Φ ρ .nil).list).toArray w.drew := by
     cases a with
     | none => exact run_firstCells_none w.drew _ _ _ _
     | some a => exact run_firstCells_some w.drew i.size 0 a 0 0 [] (by simp) (fun j v h => by simp at h)
   obtain ⟨v, w', β', h1, h2, h3⟩ := grow_ok (bs := bs) (nb := nb) (l1 := .nil) (l2 := lx) (n := n) (ty := ty) hu hi hz hzs hne hsz hby hold (by simp [T.den]) hs hl (by omega) (by
     have : ((m * i.bytes : Nat) : Int) ≤ 140737488355328 := by simpa using hc
     rw [Nat.zero_add]
     omega) (by rw [hn, Nat.zero_add]) hfree
   refine ⟨v, w', β', .inl ?_, h2, ?_⟩
   · simp only [Sem.run_bind, h1, Result.andThen_ok, Sem.run_pure]
   · exact h3
theorem append_ok {at_ : Array TypeId} {ty : TypeId} {vs : List V} {xs : List Value} (h : (opAppend P at_ bs nb vs).val (T.den Φ ρ) = some res) (hv : repVs (T.den Φ ρ) β vs xs) (hm : memRep (T.den Φ ρ) β w (look bs)) (hb : inHeap β w) (hfree : isNew nb res.nb nb → β nb = none) :
   Did (T.den Φ ρ) (look bs) β w nb res ((do pure (.value (← Builtin.append_ at_ ty xs.toArray)) : Sem Next).run P w) := by
 unfold opAppend at h
 split at h
 · rename_i s x
   match xs, hv with
   | [sv, xv], hv =>
     have hs := hv.1
     have hx := hv.2.1
     split at h
     · rename_i t tx hat
       have hat' : at_ = #[t, tx] := by rw [← Array.toArray_toList (xs := at_), hat]
       subst hat'
       split at h
       · rename_i e e' hu hux
         split at h
         · rename_i i ks hi hks
           split at h
           · rename_i hcond
             simp only [Bool.and_eq_true] at hcond
             have hsz := Nat.eq_of_beq_eq_true hcond.1
             have hby := Nat.le_of_ble_eq_true hcond.2
             obtain ⟨hne, z, hz, hzs⟩ := elemK_ok hi hks
             have hst : 0 < i.size := by rw [← hsz]; exact List.length_pos_iff.mpr hne
             replace h := O.bind_some h
             obtain ⟨⟨kx, lx, n⟩, hsrc, h⟩ := h
             obtain ⟨m, hn, hsr, hl, hkk, hxv, _⟩ := srcT_ok (w := w) hsrc hx hm hst hux
             simp only at h
             split at h
             · rename_i hkx
               split at h
               · rename_i j st r o len _
                 split at h
                 · rename_i mb hj
                   split at h
                   · rename_i hcond2
                     simp only [Bool.and_eq_true, Bool.not_eq_true'] at hcond2
                     obtain ⟨⟨⟨⟨hrw, hr0⟩, ho0⟩, hst'⟩, hjn⟩ := hcond2
                     have hr0 := Nat.eq_of_beq_eq_true hr0
                     have ho0 := T.beq_eq ho0
                     have hst' := Nat.eq_of_beq_eq_true hst'
                     have hjn : j ≠ nb := fun e => by rw [e, Nat.beq_refl] at hjn; cases hjn
                     subst hr0 ho0 hst'
                     obtain ⟨⟨kd, ld⟩, hsl, h⟩ := O.bind_some h
                     simp only at h
                     split at h
                     · rename_i hkd
                       replace h := chkT_some hEb h
                       obtain ⟨hc, h⟩ := h
                       replace hc := le_chk hc
                       simp only [O.val] at h
                       injection h with h
                       subst h
                       replace hfree := hfree ⟨Nat.le_refl _, Nat.lt_succ_self _⟩
                       simp only [V.rep, W.rep, C.rep] at hs
                       obtain ⟨pl, hpl, a, sl, c, rfl, hl', hlc, ho, hfit, ha⟩ := hs
                       obtain ⟨pl', hpl', hrep⟩ := hm.1 j mb hj
                       rw [hpl] at hpl'
                       injection hpl' with hpl'
                       subst hpl'
                       obtain ⟨q1, q2, q3⟩ := sliceT_ok hsl hrep.1 (by simp [T.den]) hl'
                       have hkd2 : kd ≠ [] ∨ (ld.den Φ ρ).list = [] := q2.2.imp id (fun q => q.resolve_left (by omega))
                       have hrowd := kindsOk_row hkd hkd2
                       have hrowx := kindsOk_row hkx hkk.2
                       have hsum : ((mkAdd len n).den Φ ρ).int = ((sl + m : Nat) : Int) := by rw [den_add, ← hl', hn]; simp
                       rw [den_mul, hsum] at hc
                       simp only [T.den, D.int_i, Int.ofNat_eq_natCast] at hc ho hfit ha q3
                       have hroom : (sl + m) * i.bytes ≤ 140737488355328 := by
                         have : (((sl + m) * i.bytes : Nat) : Int) ≤ 140737488355328 := by simpa using hc
                         omega
                       rw [hrowx] at hsr
                       have hdr := q3.range
                       rw [hrowd] at hdr
                       simp only [Int.toNat_zero, Nat.zero_mul, Nat.zero_add, Nat.add_zero] at hdr hfit ha
                       have hown := hrep.2 hrw
                       by_cases hg : sl + m ≤ c
                       · 
                         have hrun : (Builtin.append_ #[t, tx] ty #[.slice a sl c, xv]).run P w = .ok (.slice a (sl + m) c) (w.setCells pl.b (pl.o + sl * i.size) (rowV ks (lx.den Φ ρ).list)) := by
                           by_cases hm0 : m = 0
                           · subst hm0
                             have hnil : (lx.den Φ ρ).list = [] := List.length_eq_zero_iff.mp (by rw [hl]; simp)
                             rw [hnil] at hsr ⊢
                             exact run_append_nothing (P := P) w t tx ty e i hu hi a sl c (by omega) xv hsr
                           · rw [ha (by omega)]
                             have hth : ∀ q, q < (rowV ks (lx.den Φ ρ).list).length → (w.cell? ⟨pl.b, pl.o + sl * i.size + q, none⟩).isSome = true ∧ w.frozen? ⟨pl.b, pl.o + sl * i.size + q, none⟩ = false := by
                               intro q hq
                               rw [rowV_length, hl] at hq
                               rw [show pl.o + sl * i.size + q = pl.o + (sl * i.size + q) by omega]
                               refine own_there hown ?_
                               have := Nat.mul_le_mul_right i.size hg
                               rw [Nat.add_mul] at this
                               omega
                             exact run_append_room_src (P := P) w t tx ty e i hu hi pl.b pl.o sl c xv m _ hsr hg (fun q hq => (hth q hq).1) (fun q hq => (hth q hq).2)
                         refine ⟨.slice a (sl + m) c, w.setCells pl.b (pl.o + sl * i.size) (rowV ks (lx.den Φ ρ).list), β.with nb pl, .inl (by simp only [Sem.run_bind, hrun, Result.andThen_ok, Sem.run_pure]), ⟨pl, Map.with_self _ _ _, _, _, _, rfl, hsum.symm, hg, by simp [T.den], by simp [T.den]; exact hfit, fun hc => by simp [T.den]; exact ha hc⟩, ?_⟩
                         have hden : ((mkApp ld lx).den Φ ρ).list = (ld.den Φ ρ).list ++ (lx.den Φ ρ).list := den_app Φ ρ ld lx
                         have hle : sl * i.size + m * i.size ≤ pl.sz := by
                           have := Nat.mul_le_mul_right i.size hg
                           rw [Nat.add_mul] at this
                           omega
                         refine StepR.room hfree hj hrw hpl hjn hown (fun hs => hb j pl hpl hs) (fun hv => by rw [rowV_length, hl] at hv; omega) ⟨List.length_pos_iff.mpr hne, by rw [hden, List.length_append, q1, hl]; exact hle, fun p y hp => ?_⟩
                         rw [hden] at hp
                         have h1 := rowV_get ks _ p y hp
                         rw [rowV_append (m := sl) (by rw [q1, hsz])] at h1
                         by_cases hps : p < sl * i.size
                         · rw [World.cell?_setCells_out pl.b _ _ w ⟨pl.b, pl.o + p, none⟩ (fun _ _ => by simp only; omega)]
                           rw [List.getElem?_append_left (by rw [rowV_length, q1]; exact hps)] at h1
                           exact hdr p _ h1
                         · rw [List.getElem?_append_right (by rw [rowV_length, q1]; omega), rowV_length, q1] at h1
                           have hlt := (List.getElem?_eq_some_iff.1 h1).1
                           have := World.cell?_setCells_in pl.b (rowV ks (lx.den Φ ρ).list) (pl.o + sl * i.size) w (fun q hq => by
                             rw [rowV_length, hl] at hq
                             rw [show pl.o + sl * i.size + q = pl.o + (sl * i.size + q) by omega]
                             exact (own_there hown (by omega)).1) (p - sl * i.size) hlt
                           rw [show pl.o + sl * i.size + (p - sl * i.size) = pl.o + p by omega] at this
                           rw [this]
                           have h2 := List.getElem?_eq_getElem hlt
                           rw [h1] at h2
                           exact h2.symm
                       · 
                         have hold : (Builtin.firstCells i.size sl (.slice a sl c)).run P w.drew = .ok (rowV ks (ld.den Φ ρ).list).toArray w.drew := by
                           by_cases hc0 : 0 < c
                           · rw [ha hc0]
                             exact run_firstCells_some w.drew i.size sl _ sl c _ (by rw [rowV_length, q1]) (fun q u hq => by rw [Addr.add_mid]; exact hdr q u hq)
                           · have hs0 : sl = 0 := by omega
                             subst hs0
                             have hnil : (ld.den Φ ρ).list = [] := List.length_eq_zero_iff.mp (by rw [q1]; simp)
                             rw [hnil]
                             cases a with
                             | none => exact run_firstCells_none w.drew _ _ _ _
                             | some a => exact run_firstCells_some w.drew i.size 0 a 0 c [] (by simp) (fun j v h => by simp at h)
                         obtain ⟨v, w', β', h1, h2, h3⟩ := grow_ok (bs := bs) (nb := nb) (l1 := ld) (l2 := lx) (n := mkAdd len n) (ty := ty) hu hi hz hzs hne hsz hby hold q1 hsr hl (by omega) hroom hsum hfree
                         refine ⟨v, w', β', .inl (by simp only [Sem.run_bind, h1, Result.andThen_ok, Sem.run_pure]), h2, ?_⟩
                         have := StepR.kill h3 hj hrw (by simp only [hasK, Bool.or_false]; cases hq : Nat.beq nb j with | false => rfl | true => exact absurd (Nat.eq_of_beq_eq_true hq).symm hjn) (fun h => hjn (isNew_one.mp h))
                         exact this
                     · cases h
                   · cases h
                 · cases h
               · simp only [V.rep, W.rep, C.rep] at hs
                 subst hs
                 exact appNew_ok h hu hi hks hsz hby hkx hn hsr hl hkk.2 hfree
               · simp only [V.rep, W.rep, C.rep] at hs
                 obtain ⟨a, rfl⟩ := hs
                 exact appNew_ok h hu hi hks hsz hby hkx hn hsr hl hkk.2 hfree
               · cases h
             · cases h
           · cases h
         · cases h
       · cases h
     · cases h
 · cases h
theorem splL_get {l s : List Int} {i p : Nat} (h : i + s.length ≤ l.length) : (splL l (i : Int) s)[p]? = if p < i then l[p]? else if p < i + s.length then s[p - i]? else l[p]? := by
 have := putL_get (xs := l) (ys := s) (off := i) (i := p) h
 unfold putL at this
 unfold splL
 rw [Int.toNat_natCast, List.append_assoc]
 exact this
theorem splL_length {l s : List Int} {i : Nat} (h : i + s.length ≤ l.length) : (splL l (i : Int) s).length = l.length := by
 have := putL_length (xs := l) (ys := s) (off := i) h
 unfold putL at this
 unfold splL
 rw [Int.toNat_natCast, List.append_assoc]
 exact this
theorem copy_ok {at_ : Array TypeId} {ty : TypeId} {vs : List V} {xs : List Value} (h : (opCopy P at_ bs nb vs).val (T.den Φ ρ) = some res) (hv : repVs (T.den Φ ρ) β vs xs) (hm : memRep (T.den Φ ρ) β w (look bs)) :
   Did (T.den Φ ρ) (look bs) β w nb res ((do pure (.value (← Builtin.copy_ at_ ty xs.toArray)) : Sem Next).run P w) := by
 unfold opCopy at h
 split at h
 · rename_i d x
   match xs, hv with
   | [dv, xv], hv =>
     have hd := hv.1
     have hx := hv.2.1
     split at h
     · cases h
     · rename_i t hat
       split at h
       · rename_i e hu
         split at h
         · cases h
         · rename_i sz hsz
           split at h
           · rename_i j st r o len _
             split at h
             · cases h
             · rename_i mb hj
               replace h := O.bind_some h
               obtain ⟨⟨kx, lx, n⟩, hsrc, h⟩ := h
               simp only at h
               split at h
               · rename_i ks l
                 split at h
                 · rename_i hcond
                   simp only [Bool.and_eq_true] at hcond
                   obtain ⟨⟨⟨hk1, hs1⟩, hz1⟩, hkk⟩ := hcond
                   have hk1 := Nat.eq_of_beq_eq_true hk1
                   have hs1 := Nat.eq_of_beq_eq_true hs1
                   have hz1 := Nat.eq_of_beq_eq_true hz1
                   subst hs1 hz1
                   obtain ⟨m, hn, hsr, hl, hkl, ⟨xa, xc, rfl⟩, hpre⟩ := srcT_ok (w := w) (tx := t) hsrc hx hm (by omega) hu
                   rw [kindsOk_row hkk hkl.2] at hsr
                   simp only [V.rep, W.rep, C.rep] at hd
                   obtain ⟨pl, hpl, a, dl, c, rfl, hdl, hdc, ho, hfit, ha⟩ := hd
                   obtain ⟨pl', hpl', hrep⟩ := hm.1 j _ hj
                   rw [hpl] at hpl'
                   injection hpl' with hpl'
                   subst hpl'
                   obtain ⟨oo, hoo⟩ := Int.eq_ofNat_of_zero_le ho
                   have hown := hrep.2 rfl
                   rw [hoo] at hfit ha
                   simp only [Int.toNat_natCast] at hfit ha
                   have key : ∀ (q : Nat) (s : T), (s.den Φ ρ).list = (lx.den Φ ρ).list.take q → q = Nat.min m dl → oo + r + q ≤ (l.den Φ ρ).list.length →
                       ∃ w', (Builtin.copy_ at_ ty #[.slice a dl c, .slice xa m xc]).run P w = .ok (.int .i64 q) w' ∧ StepR (T.den Φ ρ) (look bs) β w nb [(j, some ⟨true, .row ks (mkSpl l (mkAdd o (.num (.ofNat r))) s)⟩)] nb β w' := by
                     intro q s hs hq hle
                     have hqm : q ≤ m := by rw [hq]; exact Nat.min_le_left _ _
                     have hqd : q ≤ dl := by rw [hq]; exact Nat.min_le_right _ _
                     have hlx : (lx.den Φ ρ).list.length = m := by rw [hl]; omega
                     have hcs : (Builtin.firstCells 1 q (.slice xa m xc)).run P w = .ok (rowV ks ((lx.den Φ ρ).list.take q)).toArray w := by
                       have hrt : rowV ks ((lx.den Φ ρ).list.take q) = (rowV ks (lx.den Φ ρ).list).take q := by
                         apply List.ext_getElem?
                         intro p
                         rw [List.getElem?_take]
                         split
                         · by_cases hp : p < (lx.den Φ ρ).list.length
                           · have hz := List.getElem?_eq_getElem hp
                             rw [rowV_get ks _ p _ hz]
                             exact rowV_get ks _ p _ (by rw [List.getElem?_take, if_pos (by assumption)]; exact hz)
                           · rw [List.getElem?_eq_none (by rw [rowV_length]; simp; omega), List.getElem?_eq_none (by rw [rowV_length]; omega)]
                         · exact List.getElem?_eq_none (by rw [rowV_length]; simp; omega)
                       have := hpre q hqm
                       rw [kindsOk_row hkk hkl.2, Nat.mul_one, ← hrt] at this
                       exact this
                     have hvl : (rowV ks ((lx.den Φ ρ).list.take q)).length = q := by rw [rowV_length, List.length_take]; omega
                     have hsl : (s.den Φ ρ).list.length = q := by rw [hs, List.length_take]; omega
                     have hzle : r + oo + q ≤ pl.sz := by
                       have := hrep.1.2.1
                       omega
                     have hden : ((mkSpl l (mkAdd o (.num (.ofNat r))) s).den Φ ρ).list = splL (l.den Φ ρ).list ((oo + r : Nat) : Int) (s.den Φ ρ).list := by
                       rw [den_spl, den_add, hoo]
                       congr 1
                     refine ⟨w.setCells pl.b (pl.o + (r + oo)) (rowV ks ((lx.den Φ ρ).list.take q)), ?_, StepR.write (off := pl.o + (r + oo)) hj rfl hpl hown (fun hne => by rw [hvl] at hne; omega) ⟨hrep.1.1, by rw [hden, splL_length (by rw [hsl]; exact hle)]; exact hrep.1.2.1, fun p y hp => ?_⟩⟩
                     · have hst := run_storeCells_cells (P := P) pl.b (pl.o + (r + oo)) (rowV ks ((lx.den Φ ρ).list.take q)) 0 w (fun p hp => by
                           rw [hvl] at hp
                           have := (own_there hown (i := r + oo + p) (by omega)).1
                           rw [show pl.o + (r + oo + p) = pl.o + (r + oo) + 0 + p by omega] at this
                           exact this) (fun p hp => by
                           rw [hvl] at hp
                           have := (own_there hown (i := r + oo + p) (by omega)).2
                           rw [show pl.o + (r + oo + p) = pl.o + (r + oo) + 0 + p by omega] at this
                           exact this) (rowV_one _ _)
                       simp only [Nat.add_zero] at hst
                       have hat' : (#[Value.slice a dl c, Value.slice xa m xc])[0]? = some (.slice a dl c) := rfl
                       simp only [Builtin.copy_, hat, Sem.run_bind, Sem.run_pure, Result.andThen_ok, run_underlying hu w, Builtin.lenOf, sizeT_ok hsz w, List.getElem?_toArray, List.getElem?_cons_zero, List.getElem?_cons_succ]
                       rw [show Nat.min m dl = q from hq.symm, hcs]
                       simp only [Result.andThen_ok]
                       by_cases hc0 : 0 < c
                       · rw [ha hc0]
                         simp only [Sem.run_bind, Nat.mul_one]
                         have e0 : (⟨pl.b, pl.o + (r + oo * 1), none⟩ : Addr) = ⟨pl.b, pl.o + (r + oo), none⟩ := by rw [Nat.mul_one]
                         try rw [e0]
                         rw [hst]
                         rfl
                       · have hq0 : q = 0 := by omega
                         have hnil : rowV ks ((lx.den Φ ρ).list.take q) = [] := List.length_eq_zero_iff.mp (by rw [hvl]; exact hq0)
                         rw [hnil, hq0]
                         cases a <;> simp [storeCells, World.setCells, goInt]
                     · rw [hden, splL_get (by rw [hsl]; exact hle), hsl] at hp
                       split at hp
                       · rw [World.cell?_setCells_out pl.b _ _ w ⟨pl.b, pl.o + p, none⟩ (fun _ _ => by simp only; omega)]
                         exact hrep.1.2.2 p y hp
                       · split at hp
                         · rw [hs] at hp
                           have h1 := rowV_get ks _ _ y hp
                           have hlt := (List.getElem?_eq_some_iff.1 h1).1
                           have := World.cell?_setCells_in pl.b (rowV ks ((lx.den Φ ρ).list.take q)) (pl.o + (r + oo)) w (fun p hp => by
                             rw [hvl] at hp
                             have := (own_there hown (i := r + oo + p) (by omega)).1
                             rw [show pl.o + (r + oo + p) = pl.o + (r + oo) + p by omega] at this
                             exact this) (p - (oo + r)) hlt
                           rw [show pl.o + (r + oo) + (p - (oo + r)) = pl.o + p by omega] at this
                           rw [this]
                           have h2 := List.getElem?_eq_getElem hlt
                           rw [h1] at h2
                           rw [← h2, hk1, Nat.mod_one, Nat.mod_one]
                         · rw [World.cell?_setCells_out pl.b _ _ w ⟨pl.b, pl.o + p, none⟩ (fun _ _ => by simp only [hvl]; omega)]
                           exact hrep.1.2.2 p y hp
                   rw [splT_val hEb, den_le, hn, ← hdl] at h
                   split at h
                   · rename_i hmd
                     have hmd : m ≤ dl := by have := of_decide_eq_true hmd; omega
                     replace h := chkT_some hEb h
                     obtain ⟨hc, h⟩ := h
                     replace hc := le_chk hc
                     rw [den_add, den_add, den_len, hoo, hn] at hc
                     simp only [T.den, D.int_i, Int.ofNat_eq_natCast] at hc
                     simp only [O.val] at h
                     injection h with h
                     subst h
                     obtain ⟨w', h1, h2⟩ := key m lx (by rw [List.take_of_length_le (by rw [hl]; omega)]) (by show m = min m dl; omega) (by omega)
                     exact ⟨.int .i64 m, w', β, .inl (by simp only [Sem.run_bind, h1, Result.andThen_ok, Sem.run_pure]), by simp only [V.c, V.rep, W.rep, C.rep, hn], h2⟩
                   · rename_i hmd
                     have hmd : dl < m := by
                       have : ¬ ((m : Int) ≤ (dl : Int)) := by simpa using hmd
                       omega
                     replace h := chkT_some hEb h
                     obtain ⟨hc, h⟩ := h
                     replace hc := le_chk hc
                     rw [den_add, den_add, den_len, hoo, ← hdl] at hc
                     simp only [T.den, D.int_i, Int.ofNat_eq_natCast] at hc
                     simp only [O.val] at h
                     injection h with h
                     subst h
                     obtain ⟨w', h1, h2⟩ := key dl (mkTake len lx) (by rw [den_take, ← hdl, Int.toNat_natCast]) (by show dl = min m dl; omega) (by omega)
                     exact ⟨.int .i64 dl, w', β, .inl (by simp only [Sem.run_bind, h1, Result.andThen_ok, Sem.run_pure]), by simp only [V.c, V.rep, W.rep, C.rep, hdl], h2⟩
                 · cases h
               · cases h
           · split at h
             · rename_i hs1
               have hs0 := Nat.le_of_ble_eq_true hs1
               replace h := O.bind_some h
               obtain ⟨⟨kx, lx, n⟩, hsrc, h⟩ := h
               rw [intR_some h]
               simp only [V.rep, W.rep, C.rep] at hd
               subst hd
               obtain ⟨m, hn, hsr, hl, hkl, ⟨xa, xc, rfl⟩, hpre⟩ := srcT_ok (w := w) (tx := t) hsrc hx hm hs0 hu
               have h0 := hpre 0 (Nat.zero_le _)
               rw [Nat.zero_mul, List.take_zero] at h0
               refine Did.int (z := 0) ?_ (by simp [T.den])
               simp only [Builtin.copy_, hat, Sem.run_bind, Sem.run_pure, Result.andThen_ok, run_underlying hu w, Builtin.lenOf, sizeT_ok hsz w, List.getElem?_toArray, List.getElem?_cons_zero, List.getElem?_cons_succ]
               rw [show Nat.min m 0 = 0 from Nat.min_zero m, h0]
               rfl
             · cases h
           · cases h
       · cases h
 · cases h
theorem rowV_zeros (k : IntKind) (n : Nat) : rowV [k] (List.replicate n 0) = List.replicate n (.int k 0) := by
 apply List.ext_getElem?
 intro i
 by_cases hi : i < n
 · rw [rowV_get [k] _ i 0 (by rw [List.getElem?_replicate, if_pos hi]), List.getElem?_replicate, if_pos hi]
   simp [Nat.mod_one]
 · rw [List.getElem?_eq_none (by rw [rowV_length]; simp; omega), List.getElem?_eq_none (by simp; omega)]
theorem zeroCells_one (v : Value) (n : Nat) : (Builtin.zeroCells #[v] n).toList = List.replicate n v := by
 apply List.ext_getElem?
 intro i
 simp only [Builtin.zeroCells, Array.toList_map, Array.toList_range, List.getElem?_map]
 by_cases hi : i < n
 · rw [List.getElem?_range (by simpa using hi), List.getElem?_replicate, if_pos hi]
   simp [Nat.mod_one]
 · rw [List.getElem?_eq_none (by simpa using hi), List.getElem?_eq_none (by simpa using hi)]; rfl
theorem clear_ok {at_ : Array TypeId} {ty : TypeId} {vs : List V} {xs : List Value} (h : (opClear P at_ bs nb vs).val (T.den Φ ρ) = some res) (hv : repVs (T.den Φ ρ) β vs xs) (hm : memRep (T.den Φ ρ) β w (look bs)) :
   Did (T.den Φ ρ) (look bs) β w nb res ((do pure (.value (← Builtin.clear_ at_ ty xs.toArray)) : Sem Next).run P w) := by
 unfold opClear at h
 split at h
 · rename_i d
   match xs, hv with
   | [dv], hv =>
     have hd := hv.1
     split at h
     · cases h
     · rename_i t hat
       split at h
       · rename_i e hu
         split at h
         · rename_i k hz
           obtain ⟨i, z, hi, hzero, hrz⟩ := zeroC_ok (Φ := Φ) (ρ := ρ) (β := β) hz
           have hzc : z.cells = #[.int k 0] := by
             rw [← Array.toArray_toList (xs := z.cells)]
             revert hrz
             cases z.cells.toList with
             | nil => exact fun h => h.elim
             | cons a l => cases l with
               | nil =>
                 intro h
                 have h1 : a = .int k 0 := h.1
                 rw [h1]
               | cons b l => exact fun h => h.2.elim
           have hat0 : (#[dv] : Array Value)[0]? = some dv := rfl
           split at h
           · rename_i j st r o len _
             split at h
             · rename_i k' l hj
               split at h
               · rename_i hcond
                 simp only [Bool.and_eq_true] at hcond
                 have hk := knum_inj (Nat.eq_of_beq_eq_true hcond.1)
                 have hs1 := Nat.eq_of_beq_eq_true hcond.2
                 subst hk hs1
                 simp only [V.rep, W.rep, C.rep] at hd
                 obtain ⟨pl, hpl, a, dl, c, rfl, hdl, hdc, ho, hfit, ha⟩ := hd
                 obtain ⟨pl', hpl', hrep⟩ := hm.1 j _ hj
                 rw [hpl] at hpl'
                 injection hpl' with hpl'
                 subst hpl'
                 obtain ⟨oo, hoo⟩ := Int.eq_ofNat_of_zero_le ho
                 have hown := hrep.2 rfl
                 rw [hoo] at hfit ha
                 simp only [Int.toNat_natCast, Nat.mul_one] at hfit ha
                 replace h := chkT_some hEb h
                 obtain ⟨hc, h⟩ := h
                 replace hc := le_chk hc
                 rw [den_add, den_add, den_len, hoo, ← hdl] at hc
                 simp only [T.den, D.int_i, Int.ofNat_eq_natCast] at hc
                 simp only [O.val] at h
                 injection h with h
                 subst h
                 have hle : oo + r + dl ≤ (l.den Φ ρ).list.length := by omega
                 have hzs : ((mkRep len (.cons (.num 0) .nil)).den Φ ρ).list = List.replicate dl 0 := by
                   rw [den_rep, ← hdl]
                   simp [T.den]
                 have hden : ((mkSpl l (mkAdd o (.num (.ofNat r))) (mkRep len (.cons (.num 0) .nil))).den Φ ρ).list = splL (l.den Φ ρ).list ((oo + r : Nat) : Int) (List.replicate dl 0) := by
                   rw [den_spl, den_add, hoo, hzs]
                   congr 1
                 have hvl : (rowV [k] (List.replicate dl 0)).length = dl := by rw [rowV_length, List.length_replicate]
                 refine ⟨.tuple #[], w.setCells pl.b (pl.o + (r + oo)) (rowV [k] (List.replicate dl 0)), β, .inl ?_, trivial, StepR.write (off := pl.o + (r + oo)) hj rfl hpl hown (fun hne => by rw [hvl] at hne; omega) ⟨hrep.1.1, by rw [hden, splL_length (by rw [List.length_replicate]; exact hle)]; exact hrep.1.2.1, fun p y hp => ?_⟩⟩
                 · by_cases hd0 : dl = 0
                   · subst hd0
                     have hnil : w.setCells pl.b (pl.o + (r + oo)) (rowV [k] (List.replicate 0 0)) = w := rfl
                     rw [hnil]
                     cases a <;> simp [Builtin.clear_, hat, run_underlying hu w]
                   · have ha' := ha (by omega)
                     subst ha'
                     have hst := run_storeCells_cells (P := P) pl.b (pl.o + (r + oo)) (rowV [k] (List.replicate dl 0)) 0 w (fun p hp => by
                           rw [hvl] at hp
                           have := (own_there hown (i := r + oo + p) (by omega)).1
                           rw [show pl.o + (r + oo + p) = pl.o + (r + oo) + 0 + p by omega] at this
                           exact this) (fun p hp => by
                           rw [hvl] at hp
                           have := (own_there hown (i := r + oo + p) (by omega)).2
                           rw [show pl.o + (r + oo + p) = pl.o + (r + oo) + 0 + p by omega] at this
                           exact this) (rowV_one _ _)
                     simp only [Nat.add_zero] at hst
                     rw [rowV_zeros] at hst ⊢
                     obtain ⟨n, rfl⟩ : ∃ n, dl = n + 1 := ⟨dl - 1, by omega⟩
                     simp only [Builtin.clear_, hat, Sem.run_bind, Sem.run_pure, Result.andThen_ok, run_underlying hu w, List.getElem?_toArray, List.getElem?_cons_zero, run_zero hi hzero w, hzc, zeroCells_one, hst]
                 · rw [hden, splL_get (by rw [List.length_replicate]; exact hle), List.length_replicate] at hp
                   split at hp
                   · rw [World.cell?_setCells_out pl.b _ _ w ⟨pl.b, pl.o + p, none⟩ (fun _ _ => by simp only; omega)]
                     exact hrep.1.2.2 p y hp
                   · split at hp
                     · have h1 := rowV_get [k] _ _ y hp
                       have hlt := (List.getElem?_eq_some_iff.1 h1).1
                       have := World.cell?_setCells_in pl.b (rowV [k] (List.replicate dl 0)) (pl.o + (r + oo)) w (fun p hp => by
                         rw [hvl] at hp
                         have := (own_there hown (i := r + oo + p) (by omega)).1
                         rw [show pl.o + (r + oo + p) = pl.o + (r + oo) + p by omega] at this
                         exact this) (p - (oo + r)) hlt
                       rw [show pl.o + (r + oo) + (p - (oo + r)) = pl.o + p by omega] at this
                       rw [this]
                       have h2 := List.getElem?_eq_getElem hlt
                       rw [h1] at h2
                       rw [← h2]
                       simp [Nat.mod_one]
                     · rw [World.cell?_setCells_out pl.b _ _ w ⟨pl.b, pl.o + p, none⟩ (fun _ _ => by simp only [hvl]; omega)]
                       exact hrep.1.2.2 p y hp
               · cases h
             · cases h
           · simp only [V.rep, W.rep, C.rep] at hd
             subst hd
             simp only [O.val] at h
             injection h with h
             subst h
             refine Did.same (v := .tuple #[]) ?_ trivial
             simp [Builtin.clear_, hat, run_underlying hu w]
           · cases h
         · cases h
       · cases h
 · cases h
theorem max_ok {isMax : Bool} {at_ : Array TypeId} {ty : TypeId} {vs : List V} {xs : List Value} (h : (opMax isMax nb vs).val (T.den Φ ρ) = some res) (hv : repVs (T.den Φ ρ) β vs xs) :
   Did (T.den Φ ρ) (look bs) β w nb res ((do pure (.value (← (if isMax then Builtin.max_ at_ ty xs.toArray else Builtin.min_ at_ ty xs.toArray))) : Sem Next).run P w) := by
 unfold opMax at h
 split at h
 · match xs, hv with
   | [xv, yv], hv =>
     have hx := hv.1
     have hy := hv.2.1
     simp only [V.rep, W.rep, C.rep] at hx hy
     subst hx hy
     split at h
     · rename_i hk
       have hk := knum_inj (Nat.eq_of_beq_eq_true hk)
       subst hk
       rw [intR_some h]
       cases isMax with
       | true =>
         refine Did.int (z := max _ _) ?_ rfl
         simp only [if_true, Builtin.max_, List.foldlM_cons, List.foldlM_nil, Builtin.max2, Sem.run_bind, Sem.run_pure, Result.andThen_ok]
         congr 3
         simp only [Int.max_def]
         split <;> split <;> first | rfl | omega
       | false =>
         refine Did.int (z := min _ _) ?_ rfl
         simp only [Bool.false_eq_true, if_false, Builtin.min_, List.foldlM_cons, List.foldlM_nil, Builtin.min2, Sem.run_bind, Sem.run_pure, Result.andThen_ok]
         congr 3
         simp only [Int.min_def]
         split <;> split <;> first | rfl | omega
     · cases h
 · cases h
def CallOk (P : Program) (Φ : Sig) (call : Facts → FuncId → List V → Bs → Nat → O Res) : Prop :=
 ∀ (ρ : Env) (fa : Facts), fa.hold Φ ρ → ∀ (f : FuncId) (vs : List V) (bs : Bs) (nb : Nat) (res : Res), (call fa f vs bs nb).val (T.den Φ ρ) = some res → ∀ (args : List Value) (β : Map) (w : World), repVs (T.den Φ ρ) β vs args → inHeap β w → memRep (T.den Φ ρ) β w (look bs) →
   (∀ j, isNew nb res.nb j → β j = none) → Calls P f args.toArray w fun e w' => ∃ v β', e = .returned v ∧ res.val.rep (T.den Φ ρ) β' v ∧ StepR (T.den Φ ρ) (look bs) β w nb res.eff res.nb β' w'
theorem Did.wp {o : Oper} {a : Act} {K : Act → World → Prop} {Q : Exit → Act → World → Prop} {E : Ev} (h : Did E (look bs) β w nb res ((execOp a.eval o).run P w))
   (hK : ∀ v w' β', res.val.rep E β' v → StepR E (look bs) β w nb res.eff res.nb β' w' → K (a.put o.dst v) w') : o.wp P a w K Q := by
 obtain ⟨v, w', β', hr, hv, hs⟩ := h
 unfold Oper.wp
 rcases hr with hr | ⟨hr, rfl⟩
 · rw [hr]; exact hK _ _ _ hv hs
 · rw [hr]; exact hK _ _ _ hv hs
theorem optV_ok {b : Option Operand} {vs r : List V} {o : Option V} {ev : Operand → Value} {xs : List Operand} (h : optV b.isSome vs = (o, r)) (hv : repVs (T.den Φ ρ) β vs ((b.toList ++ xs).map ev)) : optRep (T.den Φ ρ) β o (b.map ev) ∧ repVs (T.den Φ ρ) β r (xs.map ev) := by
 cases b with
 | none =>
   simp only [Option.isSome_none] at h
   have : optV false vs = (none, vs) := by unfold optV; rfl
   rw [this] at h
   injection h with h1 h2
   subst h1 h2
   exact ⟨trivial, by simpa using hv⟩
 | some x =>
   match vs, hv with
   | v :: vs, hv =>
     simp only [Option.isSome_some, optV] at h
     injection h with h1 h2
     subst h1 h2
     exact ⟨hv.1, hv.2⟩
theorem repVs_one {vs : List V} {x : Value} (h : repVs (T.den Φ ρ) β vs [x]) : ∃ v, vs = [v] ∧ v.rep (T.den Φ ρ) β x := by
 match vs, h with
 | [v], h => exact ⟨v, rfl, h.1⟩
theorem repVs_two {vs : List V} {x y : Value} (h : repVs (T.den Φ ρ) β vs [x, y]) : ∃ v y', vs = [v, y'] ∧ v.rep (T.den Φ ρ) β x ∧ y'.rep (T.den Φ ρ) β y := by
 match vs, h with
 | [v, y'], h => exact ⟨v, y', rfl, h.1, h.2.1⟩
theorem repVs_three {vs : List V} {x y z : Value} (h : repVs (T.den Φ ρ) β vs [x, y, z]) : ∃ v y' z', vs = [v, y', z'] ∧ v.rep (T.den Φ ρ) β x ∧ y'.rep (T.den Φ ρ) β y ∧ z'.rep (T.den Φ ρ) β z := by
 match vs, h with
 | [v, y', z'], h => exact ⟨v, y', z', rfl, h.1, h.2.1, h.2.2.1⟩
theorem mapArgs {α β : Type} (f : α → β) (xs : Array α) : (xs.toList.map f).toArray = xs.map f := by
 rw [← Array.toList_map]
theorem opCore_sound {X : Ctx} {vs : List V} {o : Oper} {a : Act} (hX : CallOk X.P Φ X.call) {fa : Facts} (hfa : fa.hold Φ ρ) (h : (opCore X fa o.op bs nb vs).val (T.den Φ ρ) = some res) (hv : repVs (T.den Φ ρ) β vs (o.op.operands.toList.map a.eval)) (hb : inHeap β w) (hm : memRep (T.den Φ ρ) β w (look bs))
   (hfree : ∀ j, isNew nb res.nb j → β j = none) (K : Act → World → Prop) (Q : Exit → Act → World → Prop) (hK : ∀ v w' β', res.val.rep (T.den Φ ρ) β' v → StepR (T.den Φ ρ) (look bs) β w nb res.eff res.nb β' w' → K (a.put o.dst v) w') : o.wp X.P a w K Q := by
 have hf := hfree nb
 obtain ⟨dst, op, type, pos, after, guard⟩ := o
 simp only at h hv hK
 unfold opCore at h
 split at h
 · 
   obtain ⟨v, e, hx⟩ := repVs_one hv
   injection e with e
   subst e
   rw [rv_some h] at hK
   refine Did.wp (bs := bs) (nb := nb) (res := ⟨_, [], nb⟩) (Did.same (v := a.eval _) ?_ hx) hK
   simp [execOp]
 · obtain ⟨v, e, hx⟩ := repVs_one hv
   injection e with e
   subst e
   rw [rv_some h] at hK
   refine Did.wp (bs := bs) (nb := nb) (res := ⟨_, [], nb⟩) (Did.same (v := a.eval _) ?_ hx) hK
   simp [execOp]
 · obtain ⟨v, u', t, e, h1, h2, h3⟩ := repVs_three hv
   injection e with e1 e
   injection e with e2 e
   injection e with e3 e
   subst e1 e2 e3
   exact Did.wp (pick_ok h h1 h2 h3) hK
 · exact Did.wp (alloc_ok h hf) hK
 · obtain ⟨v, e, hx⟩ := repVs_one hv
   injection e with e
   subst e
   exact Did.wp (box_ok h hx hf) hK
 · rename_i t ps
   refine Did.wp (build_ok (ev := a.eval) h ?_) hK
   simp only [Op.operands, List.map_map] at hv
   exact hv
 · rename_i t len ps
   refine Did.wp (buildSlice_ok (ev := a.eval) h ?_ hf) hK
   simp only [Op.operands, List.map_map] at hv
   exact hv
 · obtain ⟨v, e, hx⟩ := repVs_one hv
   injection e with e
   subst e
   obtain ⟨uv, hu, hr, hres⟩ := load_ok (w := w) h hx hm
   refine Did.wp (bs := bs) (nb := nb) (res := res) ⟨uv, w, β, .inl ?_, hr, ?_⟩ hK
   · simp [execOp, hu]
   · rw [hres]; exact StepR.pure _ _ _ _ _
 · obtain ⟨v, u', e, h1, h2⟩ := repVs_two hv
   injection e with e1 e
   injection e with e2 e
   subst e1 e2
   exact Did.wp (store_ok h h1 h2 hm) hK
 · obtain ⟨v, e, hx⟩ := repVs_one hv
   injection e with e
   subst e
   refine Did.wp (nilCheck_ok h hx (K := execOp a.eval ⟨dst, .nilCheck _, type, pos, after, guard⟩) ?_ ?_) hK
   · intro f first captured e1 e2
     simp only [execOp, e1]
     rw [e2]
   · intro ad e1
     simp only [execOp, e1]
 · obtain ⟨v, u', e, h1, h2⟩ := repVs_two hv
   injection e with e1 e
   injection e with e2 e
   subst e1 e2
   exact Did.wp (bin_ok h h1 h2 _ _) hK
 · obtain ⟨v, e, hx⟩ := repVs_one hv
   injection e with e
   subst e
   exact Did.wp (un_ok h hx) hK
 · obtain ⟨v, e, hx⟩ := repVs_one hv
   injection e with e
   subst e
   exact Did.wp (convert_ok h hx) hK
 · obtain ⟨v, e, hx⟩ := repVs_one hv
   injection e with e
   subst e
   exact Did.wp (arrayAt_ok h hx) hK
 · obtain ⟨v, u', e, h1, h2⟩ := repVs_two hv
   injection e with e1 e
   injection e with e2 e
   subst e1 e2
   exact Did.wp (makeSlice_ok h h1 h2 hf) hK
 · 
   rename_i t x lo hi mx y r
   have hv' : repVs (T.den Φ ρ) β (y :: r) (a.eval x :: ((lo.toList ++ (hi.toList ++ mx.toList)).map a.eval)) := by
     have : (Op.slice t x lo hi mx).operands.toList = x :: (lo.toList ++ (hi.toList ++ mx.toList)) := by simp [Op.operands]
     rw [this] at hv
     exact hv
   rcases h1 : optV lo.isSome r with ⟨l, r1⟩
   rcases h2 : optV hi.isSome r1 with ⟨hh, r2⟩
   rcases h3 : optV mx.isSome r2 with ⟨m, r3⟩
   simp only [h1, h2, h3] at h
   obtain ⟨q1, q2⟩ := optV_ok h1 hv'.2
   obtain ⟨q3, q4⟩ := optV_ok h2 q2
   obtain ⟨q5, q6⟩ := optV_ok (xs := []) h3 (by rw [List.append_nil]; exact q4)
   exact Did.wp (slice_ok h hv'.1 q1 q3 q5 hm) hK
 · obtain ⟨v, e, hx⟩ := repVs_one hv
   injection e with e
   subst e
   exact Did.wp (fieldAddr_ok h hx) hK
 · obtain ⟨v, e, hx⟩ := repVs_one hv
   injection e with e
   subst e
   exact Did.wp (field_ok h hx) hK
 · obtain ⟨v, u', e, h1, h2⟩ := repVs_two hv
   injection e with e1 e
   injection e with e2 e
   subst e1 e2
   exact Did.wp (indexAddr_ok h h1 h2) hK
 · obtain ⟨v, u', e, h1, h2⟩ := repVs_two hv
   injection e with e1 e
   injection e with e2 e
   subst e1 e2
   exact Did.wp (index_ok h h1 h2) hK
 · obtain ⟨v, e, hx⟩ := repVs_one hv
   injection e with e
   subst e
   exact Did.wp (extract_ok h hx) hK
 · 
   rename_i c
   split at h
   · rename_i f hc
     unfold opCall at h
     split at h
     · rename_i f' args
       split at h
       · rename_i hen
         have hops : (Op.call c).operands.toList = f :: c.args.toList := by simp [Op.operands, Call.operands, hc]
         rw [hops] at hv
         have hfv := hv.1
         simp only [V.rep, W.rep, C.rep] at hfv
         have hcall := hX ρ fa hfa f' args bs nb res h (c.args.toList.map a.eval) β w hv.2 hb hm hfree
         rw [mapArgs] at hcall
         have hrun : (execOp a.eval ⟨dst, .call c, type, pos, after, guard⟩).run X.P w = .ok (.enter f' (c.args.map a.eval)) w := by
           unfold enterOk at hen
           split at hen
           · rename_i fn hfn
             simp only [Bool.and_eq_true, Bool.not_eq_true'] at hen
             have hnone : fn.body.isNone = false := by
               have := hen.2
               cases hb : fn.body with
               | none => rw [hb] at this; cases this
               | some _ => rfl
             simp only [execOp, resolve, hc, hfv, Deferred.ofValue, Sem.run_bind, Sem.run_pure, Result.andThen_ok, invoke, callFunc, run_program, hfn, hen.1, hnone, Bool.false_eq_true, if_false]
             simp
           · cases hen
         unfold Oper.wp
         rw [hrun]
         refine Calls.mono hcall ?_
         rintro e w' ⟨v, β', rfl, h1, h2⟩
         exact hK v w' β' h1 h2
       · cases h
     · cases h
   · rename_i hc
     have hops : (Op.call c).operands.toList = c.args.toList := by simp [Op.operands, Call.operands, hc]
     rw [hops] at hv
     refine Did.wp (bs := bs) (nb := nb) (res := res) ?_ hK
     have := len_ok (w := w) (ty := type) (bs := bs) h hv
     rw [mapArgs] at this
     simpa [execOp, resolve, hc, invoke, builtin] using this
   · rename_i hc
     have hops : (Op.call c).operands.toList = c.args.toList := by simp [Op.operands, Call.operands, hc]
     rw [hops] at hv
     refine Did.wp (bs := bs) (nb := nb) (res := res) ?_ hK
     have := append_ok (w := w) (ty := type) h hv hm hb hf
     rw [mapArgs] at this
     simpa [execOp, resolve, hc, invoke, builtin] using this
   · rename_i hc
     have hops : (Op.call c).operands.toList = c.args.toList := by simp [Op.operands, Call.operands, hc]
     rw [hops] at hv
     refine Did.wp (bs := bs) (nb := nb) (res := res) ?_ hK
     have := copy_ok (w := w) (ty := type) h hv hm
     rw [mapArgs] at this
     simpa [execOp, resolve, hc, invoke, builtin] using this
   · rename_i hc
     have hops : (Op.call c).operands.toList = c.args.toList := by simp [Op.operands, Call.operands, hc]
     rw [hops] at hv
     refine Did.wp (bs := bs) (nb := nb) (res := res) ?_ hK
     have := clear_ok (w := w) (ty := type) h hv hm
     rw [mapArgs] at this
     simpa [execOp, resolve, hc, invoke, builtin] using this
   · rename_i hc
     have hops : (Op.call c).operands.toList = c.args.toList := by simp [Op.operands, Call.operands, hc]
     rw [hops] at hv
     refine Did.wp (bs := bs) (nb := nb) (res := res) ?_ hK
     have := max_ok (w := w) (ty := type) (at_ := c.argTypes) (bs := bs) (P := X.P) h hv
     rw [mapArgs] at this
     simpa [execOp, resolve, hc, invoke, builtin] using this
   · rename_i hc
     have hops : (Op.call c).operands.toList = c.args.toList := by simp [Op.operands, Call.operands, hc]
     rw [hops] at hv
     refine Did.wp (bs := bs) (nb := nb) (res := res) ?_ hK
     have := max_ok (w := w) (ty := type) (at_ := c.argTypes) (bs := bs) (P := X.P) h hv
     rw [mapArgs] at this
     simpa [execOp, resolve, hc, invoke, builtin] using this
   · cases h
 · cases h
end
end Go.Proofs.YtfhjlimdakphcaaGreat.Sx
set_option linter.unusedVariables false
set_option linter.unusedSimpArgs false
namespace Go.Proofs.YtfhjlimdakphcaaGreat.Sx
open Go Go.RowKit
section
variable {Φ : Sig} {ρ : Env}
theorem O.run_some {α γ : Type} {k : Facts → α → O γ} {b : γ} : ∀ {o : O α} {fa : Facts}, (O.run fa o k).val (T.den Φ ρ) = some b → fa.hold Φ ρ → ∃ a fa', o.val (T.den Φ ρ) = some a ∧ Facts.hold Φ ρ fa' ∧ (k fa' a).val (T.den Φ ρ) = some b
 | .ret a, fa, h, hf => ⟨a, fa, rfl, hf, h⟩
 | .fail _, _, h, _ => by simp [O.run, O.val] at h
 | .split t x y, fa, h, hf => by
   simp only [O.run] at h
   have hn := nrmB_ok hf t
   split at h
   · rename_i hd
     obtain ⟨a, fa', h1, h2⟩ := O.run_some h hf
     exact ⟨a, fa', by simp only [O.val]; rw [← hn, decF_ok hf hd, if_pos rfl]; exact h1, h2⟩
   · rename_i hd
     obtain ⟨a, fa', h1, h2⟩ := O.run_some h hf
     exact ⟨a, fa', by simp only [O.val]; rw [← hn, decF_ok hf hd, if_neg (by simp)]; exact h1, h2⟩
   · simp only [O.val] at h
     split at h
     · rename_i hp
       obtain ⟨a, fa', h1, h2⟩ := O.run_some h (addF_ok hp hf)
       exact ⟨a, fa', by simp only [O.val]; rw [← hn, if_pos hp]; exact h1, h2⟩
     · rename_i hp
       obtain ⟨a, fa', h1, h2⟩ := O.run_some h (addF_ok (by simpa using hp) hf)
       exact ⟨a, fa', by simp only [O.val]; rw [← hn, if_neg hp]; exact h1, h2⟩
 | .chk t x, fa, h, hf => by
   simp only [O.run] at h
   have hn := nrmB_ok hf t
   split at h
   · rename_i hd
     obtain ⟨a, fa', h1, h2⟩ := O.run_some h hf
     exact ⟨a, fa', by simp only [O.val]; rw [← hn, decF_ok hf hd, if_pos rfl]; exact h1, h2⟩
   · simp only [O.val] at h
     split at h
     · rename_i hp
       obtain ⟨a, fa', h1, h2⟩ := O.run_some h (addF_ok hp hf)
       exact ⟨a, fa', by simp only [O.val]; rw [← hn, if_pos hp]; exact h1, h2⟩
     · cases h
theorem nrmC_rep {fa : Facts} (hf : fa.hold Φ ρ) {β : Map} {x : C} {v : Value} (h : x.rep (T.den Φ ρ) β v) : (nrmC fa x).rep (T.den Φ ρ) β v := by
 cases x <;> simp only [nrmC, C.rep, nrmI_ok hf, nrmB_ok hf, nrmS_ok hf] at h ⊢ <;> exact h
theorem nrmV_rep {fa : Facts} (hf : fa.hold Φ ρ) {β : Map} {x : V} {v : Value} (h : x.rep (T.den Φ ρ) β v) : (nrmV fa x).rep (T.den Φ ρ) β v := by
 unfold nrmV
 split
 · exact nrmC_rep hf h
 · exact h
theorem hasN_mem : ∀ {l : List Nat} {j : Nat}, hasN l j = true ↔ j ∈ l
 | [], j => by simp [hasN]
 | k :: l, j => by
   simp only [hasN, Bool.or_eq_true, List.mem_cons, hasN_mem (l := l)]
   constructor
   · rintro (h | h)
     · exact .inl (Nat.eq_of_beq_eq_true h).symm
     · exact .inr h
   · rintro (h | h)
     · subst h; exact .inl (Nat.beq_refl _)
     · exact .inr h
theorem fetch_congr {me me' : Nat → Option MB} : ∀ (ns : List Nat), (∀ j ∈ ns, me' j = me j) → fetch me' ns = fetch me ns
 | [], _ => rfl
 | j :: ns, h => by
   simp only [fetch, h j List.mem_cons_self, fetch_congr ns (fun i hi => h i (List.mem_cons_of_mem _ hi))]
theorem look_fetch {me : Nat → Option MB} : ∀ {ns : List Nat} {j : Nat} {m : MB}, look (fetch me ns) j = some m → me j = some m
 | [], _, _, h => by cases h
 | i :: ns, j, m, h => by
   simp only [fetch] at h
   split at h
   · rename_i m' hm
     simp only [look] at h
     split at h
     · rename_i e
       rw [← Nat.eq_of_beq_eq_true e, hm]; exact h
     · exact look_fetch h
   · exact look_fetch h
theorem memRep_sub {E : Ev} {β : Map} {w : World} {me me' : Nat → Option MB} (h : memRep E β w me) (hs : ∀ j m, me' j = some m → me j = some m) : memRep E β w me' :=
 ⟨fun j m hj => h.1 j m (hs j m hj), fun j j' m m' pl pl' hne hj hj' => h.2 j j' m m' pl pl' hne (hs j m hj) (hs j' m' hj')⟩
def tmRep (E : Ev) (β : Map) (tm : Nat → Option V) (tmps : Array Value) : Prop := ∀ t v, tm t = some v → v ≠ .u → ∃ x, tmps[t]? = some x ∧ v.rep E β x
theorem opdVs_congr {tm tm' : List (Nat × V)} : ∀ (xs : List Operand), (∀ t ∈ slotsOf xs, look tm' t = look tm t) → opdVs tm' xs = opdVs tm xs
 | [], _ => rfl
 | x :: xs, h => by
   have ih := opdVs_congr (tm := tm) (tm' := tm') xs (fun t ht => h t (by cases x <;> simp only [slotsOf] <;> first | exact ht | exact List.mem_cons_of_mem _ ht))
   simp only [opdVs, ih]
   congr 1
   cases x with
   | tmp t => simp only [opdV]; rw [h t (by simp [slotsOf])]
   | const v => rfl
   | global g => rfl
   | func f => rfl
theorem opdV_rep {β : Map} {tm : List (Nat × V)} {a : Act} (h : tmRep (T.den Φ ρ) β (look tm) a.tmps) (x : Operand) : (opdV tm x).rep (T.den Φ ρ) β (a.eval x) := by
 cases x with
 | tmp t =>
   simp only [opdV]
   split
   · rename_i v hv
     by_cases hne : v = .u
     · subst hne; trivial
     obtain ⟨y, hy, hr⟩ := h t v hv hne
     have : a.eval (.tmp t) = y := by
       simp only [Act.eval]
       rw [Array.getD_eq_getD_getElem?, hy]; rfl
     rw [this]; exact hr
   · trivial
 | const v => exact constV_ok v
 | global g => trivial
 | func f => rfl
theorem opdVs_rep {β : Map} {tm : List (Nat × V)} {a : Act} (h : tmRep (T.den Φ ρ) β (look tm) a.tmps) : ∀ xs : List Operand, repVs (T.den Φ ρ) β (opdVs tm xs) (xs.map a.eval)
 | [] => trivial
 | x :: xs => ⟨opdV_rep h x, opdVs_rep h xs⟩
theorem tmRep_le {E : Ev} {β β' : Map} {tm : Nat → Option V} {tmps : Array Value} (h : tmRep E β tm tmps) (hb : β.le β') : tmRep E β' tm tmps := fun t v hv hne => by
 obtain ⟨x, hx, hr⟩ := h t v hv hne
 exact ⟨x, hx, V.rep_le hb hr⟩
theorem tmRep_put {E : Ev} {β : Map} {tm : List (Nat × V)} {a : Act} {d : Option Nat} {v : V} {x : Value} (h : tmRep E β (look tm) a.tmps) (hv : v.rep E β x) (hd : dstOk d a.tmps.size = true) : tmRep E β (look (bind1 d v ++ tm)) (a.put d x).tmps := by
 cases d with
 | none => exact h
 | some d =>
   have hd := Nat.le_of_ble_eq_true hd
   intro t y0 hu hne
   simp only [bind1, List.cons_append, List.nil_append, look] at hu
   split at hu
   · rename_i e
     have e := Nat.eq_of_beq_eq_true e
     subst e
     injection hu with hu
     subst hu
     refine ⟨x, ?_, hv⟩
     simp only [Act.put]
     rw [Array.getElem?_setIfInBounds, if_pos rfl, if_pos (by omega)]
   · rename_i e
     obtain ⟨y, hy, hr⟩ := h t y0 hu hne
     refine ⟨y, ?_, hr⟩
     simp only [Act.put]
     rw [Array.getElem?_setIfInBounds_ne (fun e' => e (by rw [e']; exact Nat.beq_refl _))]
     exact hy
theorem put_size (a : Act) (d : Option Nat) (v : Value) : (a.put d v).tmps.size = a.tmps.size := by cases d <;> simp [Act.put]
theorem put_defers (a : Act) (d : Option Nat) (v : Value) : (a.put d v).defers = a.defers := by cases d <;> rfl
def guardIs (Φ : Sig) (ρ : Env) (ops : Array Oper) (o : Oper) (tm : Nat → Option V) (p : Bool) : Prop :=
 match o.guard with
 | none => p = true
 | some (_, want) => ∃ d, guardSlot ops o = some d ∧ ((∃ t, tm d = some (.w (.c (.b t))) ∧ bbeq (t.den Φ ρ).bool want = p) ∨ (tm d = some (.t []) ∧ p = false))
def OpSpec (X : Ctx) (Φ : Sig) (ρ : Env) (ops : Array Oper) (n : Nat) (o : Oper) (S : St) (it : Item) : Prop :=
 dstOk o.dst n = true ∧ it.dst = o.dst ∧ it.nb = S.nb ∧ (∀ d, guardSlot ops o = some d → d ∈ it.sr) ∧ it.nb ≤ it.nb' ∧
 ((guardIs Φ ρ ops o (look S.tm) true ∧ (∀ t ∈ slotsOf o.op.operands.toList, t ∈ it.sr) ∧ it.br = footN (isCall o.op) (lookM S.me) (opdVs S.tm o.op.operands.toList) ∧
     ∃ fa res, Facts.hold Φ ρ fa ∧ (opCore X fa o.op (fetch (lookM S.me) it.br) S.nb (opdVs S.tm o.op.operands.toList)).val (T.den Φ ρ) = some res ∧ (∀ β v, res.val.rep (T.den Φ ρ) β v → it.val.rep (T.den Φ ρ) β v) ∧ it.eff = res.eff ∧ it.nb' = res.nb) ∨
  (guardIs Φ ρ ops o (look S.tm) false ∧ it.val = .t [] ∧ it.eff = [] ∧ it.nb' = S.nb))
theorem evRun_spec {X : Ctx} {ops : Array Oper} {o : Oper} {S : St} {fa fa' : Facts} {it : Item} (h : (evRun X ops o S fa).val (T.den Φ ρ) = some (it, fa')) (hf : fa.hold Φ ρ) : fa'.hold Φ ρ ∧ it.dst = o.dst ∧ it.nb = S.nb ∧ (∀ d, guardSlot ops o = some d → d ∈ it.sr) ∧ it.nb ≤ it.nb' ∧
   (∀ t ∈ slotsOf o.op.operands.toList, t ∈ it.sr) ∧ it.br = footN (isCall o.op) (lookM S.me) (opdVs S.tm o.op.operands.toList) ∧
     ∃ fa res, Facts.hold Φ ρ fa ∧ (opCore X fa o.op (fetch (lookM S.me) it.br) S.nb (opdVs S.tm o.op.operands.toList)).val (T.den Φ ρ) = some res ∧ (∀ β v, res.val.rep (T.den Φ ρ) β v → it.val.rep (T.den Φ ρ) β v) ∧ it.eff = res.eff ∧ it.nb' = res.nb := by
 unfold evRun at h
 obtain ⟨res, fa1, h1, h2, h3⟩ := O.run_some h hf
 split at h3
 case isFalse => cases h3
 rename_i hle
 simp only [O.val] at h3
 injection h3 with h3
 injection h3 with e1 e2
 subst e1 e2
 exact ⟨h2, rfl, rfl, fun d hd => by simp [hd], Nat.le_of_ble_eq_true hle, fun t ht => by simp [ht], rfl, fa, res, hf, h1, fun β v hr => nrmV_rep h2 hr, rfl, rfl⟩
theorem evOp_spec {X : Ctx} {ops : Array Oper} {n : Nat} {o : Oper} {S : St} {it : Item} {fa' : Facts} (h : (evOp X ops n o S).val (T.den Φ ρ) = some (it, fa')) (hf : S.fa.hold Φ ρ) : fa'.hold Φ ρ ∧ OpSpec X Φ ρ ops n o S it := by
 unfold evOp at h
 split at h
 · rename_i hd
   split at h
   · rename_i hg
     obtain ⟨h1, h2, h3, h4, h4b, h5, h6, h7⟩ := evRun_spec h hf
     exact ⟨h1, hd, h2, h3, h4, h4b, .inl ⟨by unfold guardIs; rw [hg], h5, h6, h7⟩⟩
   · rename_i j want hg
     split at h
     · cases h
     · rename_i d hgs
       split at h
       · rename_i t ht
         obtain ⟨p, fa1, h1, h2, h3⟩ := O.run_some h hf
         rw [splT_val hEb] at h1
         have hp : (t.den Φ ρ).bool = p := by
           split at h1
           · rename_i ht'; simp only [O.val] at h1; injection h1 with h1; rw [ht', h1]
           · rename_i ht'; simp only [O.val] at h1; injection h1 with h1; rw [← h1]; simpa using ht'
         try simp only at h3
         split at h3
         · rename_i hb
           obtain ⟨g1, g2, g3, g4, g4b, g5, g6, g7⟩ := evRun_spec h3 h2
           refine ⟨g1, hd, g2, g3, g4, g4b, .inl ⟨?_, g5, g6, g7⟩⟩
           unfold guardIs; rw [hg]; exact ⟨d, hgs, .inl ⟨t, ht, by rw [hp]; exact hb⟩⟩
         · rename_i hb
           simp only [O.val] at h3
           injection h3 with h3
           injection h3 with e1 e2
           subst e1 e2
           refine ⟨h2, hd, rfl, rfl, fun d' hd' => by rw [hgs] at hd'; injection hd' with hd'; subst hd'; simp, Nat.le_refl _, .inr ⟨?_, rfl, rfl, rfl⟩⟩
           unfold guardIs; rw [hg]; exact ⟨d, hgs, .inl ⟨t, ht, by rw [hp]; simpa using hb⟩⟩
       · rename_i ht
         simp only [O.val] at h
         injection h with h
         injection h with e1 e2
         subst e1 e2
         refine ⟨hf, hd, rfl, rfl, fun d' hd' => by rw [hgs] at hd'; injection hd' with hd'; subst hd'; simp, Nat.le_refl _, .inr ⟨?_, rfl, rfl, rfl⟩⟩
         unfold guardIs; rw [hg]; exact ⟨d, hgs, .inr ⟨ht, rfl⟩⟩
       · cases h
 · cases h
theorem bbeq_iff {a b : Bool} : bbeq a b = (a == b) := by cases a <;> cases b <;> rfl
theorem wanted_of {β : Map} {ops : Array Oper} {o : Oper} {tm : Nat → Option V} {tmps : Array Value} {p : Bool} (hg : guardIs Φ ρ ops o tm p) (ht : tmRep (T.den Φ ρ) β tm tmps) : Region.wanted o (yielded ops tmps) = p := by
 unfold guardIs at hg
 unfold Region.wanted
 split at hg
 · rename_i h; rw [h]; exact hg.symm
 · rename_i j want h
   rw [h]
   obtain ⟨d, hgs, ⟨t, hd, hp⟩ | ⟨hd, hp⟩⟩ := hg
   · obtain ⟨x, hx, hr⟩ := ht d _ hd (fun e => by cases e)
     simp only [V.rep, W.rep, C.rep] at hr
     subst hr
     unfold guardSlot at hgs
     rw [h] at hgs
     simp only at hgs
     have : yielded ops tmps j = some (t.den Φ ρ).bool := by
       unfold yielded
       rw [hgs]
       simp only [Option.bind_some, hx]
     simp only [this]
     rw [← hp, bbeq_iff]
     cases (t.den Φ ρ).bool <;> cases want <;> rfl
   · obtain ⟨x, hx, hr⟩ := ht d _ hd (fun e => by cases e)
     simp only [V.rep] at hr
     obtain ⟨vs, rfl, _⟩ := hr
     unfold guardSlot at hgs
     rw [h] at hgs
     simp only at hgs
     have : yielded ops tmps j = none := by
       unfold yielded
       rw [hgs]
       simp only [Option.bind_some, hx]
     simp only [this]
     rw [hp]; rfl
theorem op_sim {X : Ctx} (hX : CallOk X.P Φ X.call) {ops : Array Oper} {i n : Nat} {o : Oper} (ho : ops[i]? = some o) {S : St} {it : Item} (hs : OpSpec X Φ ρ ops n o S it) {TM : List (Nat × V)} {ME : List (Nat × Option MB)} {a : Act} {w : World} {β : Map}
   (ht : ∀ t ∈ it.sr, look TM t = look S.tm t) (hmm : ∀ j ∈ it.br, lookM ME j = lookM S.me j) (htm : tmRep (T.den Φ ρ) β (look TM) a.tmps) (hm : memRep (T.den Φ ρ) β w (lookM ME)) (hb : inHeap β w) (hfree : ∀ j, isNew it.nb it.nb' j → β j = none)
   (K : Act → World → Prop) (Q : Exit → Act → World → Prop) (hK : ∀ v w' β', it.val.rep (T.den Φ ρ) β' v → StepR (T.den Φ ρ) (lookM ME) β w it.nb it.eff it.nb' β' w' → K (a.put o.dst v) w') : wpOp X.P ops Q i K a w := by
 obtain ⟨hd, hdst, hnb, hgs, hle, hcase⟩ := hs
 unfold wpOp
 rw [ho]
 simp only
 have gcongr : ∀ p, guardIs Φ ρ ops o (look S.tm) p → guardIs Φ ρ ops o (look TM) p := by
   intro p h
   unfold guardIs at h ⊢
   split at h
   · exact h
   · obtain ⟨d, h1, h2⟩ := h
     exact ⟨d, h1, by rw [ht d (hgs d h1)]; exact h2⟩
 rcases hcase with ⟨hg, hsl, hbr, fa, res, hfa, hres, e1, e2, e3⟩ | ⟨hg, e1, e2, e3⟩
 · rw [wanted_of (gcongr _ hg) htm, if_pos rfl]
   left
   have hvs : opdVs TM o.op.operands.toList = opdVs S.tm o.op.operands.toList := opdVs_congr _ (fun t h => ht t (hsl t h))
   have hfe : fetch (lookM ME) it.br = fetch (lookM S.me) it.br := fetch_congr _ hmm
   have hrep := opdVs_rep htm o.op.operands.toList
   rw [hvs] at hrep
   rw [hnb] at hfree hK
   rw [e3] at hfree hK
   rw [e2] at hK
   rw [← hfe] at hres
   refine opCore_sound hX hfa hres hrep hb (memRep_sub hm (fun j m h => look_fetch h)) hfree K Q (fun v w' β' h1 h2 => hK v w' β' (e1 β' v h1) ?_)
   exact { h2 with wr := fun j h hn => by obtain ⟨m, hm', hr⟩ := h2.wr j h hn; exact ⟨m, look_fetch hm', hr⟩ }
 · rw [wanted_of (gcongr _ hg) htm, if_neg (by simp)]
   refine hK undef w β (by rw [e1]; exact ⟨#[], rfl, trivial⟩) ?_
   rw [hnb, e2, e3]
   exact StepR.pure _ _ _ _ _
end
end Go.Proofs.YtfhjlimdakphcaaGreat.Sx
set_option linter.unusedVariables false
set_option linter.unusedSimpArgs false
namespace Go.Proofs.YtfhjlimdakphcaaGreat.Sx
open Go Go.RowKit
structure Run (base : List (Nat × Option MB)) (β0 : Map) (w0 : World) (nb0 : Nat) (d : List (Nat × Option MB)) (β : Map) (w : World) : Prop where
 old : ∀ j, j < nb0 → β j = β0 j
 os : w.os = w0.os
 tape : w.tape = w0.tape
 output : w.output = w0.output
 size : w0.heap.size ≤ w.heap.size
 kept : ∀ b, b < w0.heap.size → (∀ j pl, hasK d j = true → j < nb0 → β0 j = some pl → pl.sz ≠ 0 → b ≠ pl.b) → w.heap[b]? = w0.heap[b]?
 wr : ∀ j, hasK d j = true → j < nb0 → ∃ m, lookM base j = some m ∧ m.rw = true
 new : ∀ j pl, nb0 ≤ j → β j = some pl → pl.sz ≠ 0 → w0.heap.size ≤ pl.b ∨ ∃ k pk, hasK d k = true ∧ lookM d k = none ∧ k < nb0 ∧ β0 k = some pk ∧ pk.sz ≠ 0 ∧ pl.b = pk.b
section
variable {base : List (Nat × Option MB)} {β0 β β' : Map} {w0 w w' : World} {nb0 nb nb' : Nat} {d d' eff : List (Nat × Option MB)} {E : Ev} {bs : Nat → Option MB}
theorem Run.start (base : List (Nat × Option MB)) (β0 : Map) (w0 : World) (nb0 : Nat) (hfree : ∀ j, nb0 ≤ j → β0 j = none) : Run base β0 w0 nb0 [] β0 w0 where
 old := fun _ _ => rfl
 os := rfl
 tape := rfl
 output := rfl
 size := Nat.le_refl _
 kept := fun _ _ _ => rfl
 wr := fun j h => by cases h
 new := fun j pl h hj => by rw [hfree j h] at hj; cases hj
theorem Run.congr (h : Run base β0 w0 nb0 d β w) (hk : ∀ j, hasK d' j = hasK d j) (hl : ∀ j, lookM d' j = lookM d j) : Run base β0 w0 nb0 d' β w where
 old := h.old
 os := h.os
 tape := h.tape
 output := h.output
 size := h.size
 kept := fun b hb hh => h.kept b hb (fun j pl hj => hh j pl ((hk j).trans hj))
 wr := fun j hj => h.wr j ((hk j).symm.trans hj)
 new := fun j pl hj hp hs => (h.new j pl hj hp hs).imp id (fun ⟨k, pk, h1, h2, h3⟩ => ⟨k, pk, (hk k).trans h1, (hl k).trans h2, h3⟩)
theorem Run.heap (h : Run base β0 w0 nb0 d β w) (hh : w'.heap = w.heap) (h1 : w'.os = w.os) (h2 : w'.tape = w.tape) (h3 : w'.output = w.output) : Run base β0 w0 nb0 d β w' where
 old := h.old
 os := h1.trans h.os
 tape := h2.trans h.tape
 output := h3.trans h.output
 size := by rw [hh]; exact h.size
 kept := fun b hb hk => by rw [hh]; exact h.kept b hb hk
 wr := h.wr
 new := h.new
theorem Run.step (h : Run base β0 w0 nb0 d β w) (s : StepR E bs β w nb eff nb' β' w') (hsub : ∀ j m, bs j = some m → lookM (d ++ base) j = some m) (hlo : nb0 ≤ nb) : Run base β0 w0 nb0 (eff ++ d) β' w' where
 old := fun j hj => (s.old j (fun hn => by unfold isNew at hn; omega)).trans (h.old j hj)
 os := s.os.trans h.os
 tape := s.tape.trans h.tape
 output := s.output.trans h.output
 size := Nat.le_trans h.size s.size
 kept := fun b hb hk => by
   have key : ∀ j pl, hasK d j = true → j < nb0 → β0 j = some pl → pl.sz ≠ 0 → b ≠ pl.b := fun j pl hj => hk j pl (by rw [hasK_append, hj]; simp)
   rw [s.kept b (Nat.lt_of_lt_of_le hb h.size) ?_, h.kept b hb key]
   intro j pl hj hn hpl hs
   by_cases hlt : j < nb0
   · rw [h.old j hlt] at hpl
     exact hk j pl (by rw [hasK_append, hj]; simp) hlt hpl hs
   · rcases h.new j pl (by omega) hpl hs with h1 | ⟨k, pk, h1, h2, h3, h4, h5, h6⟩
     · omega
     · rw [h6]; exact key k pk h1 h3 h4 h5
 wr := fun j hj hlt => by
   rw [hasK_append, Bool.or_eq_true] at hj
   rcases hj with hj | hj
   · obtain ⟨m, hm, hr⟩ := s.wr j hj (fun hn => by unfold isNew at hn; omega)
     have := hsub j m hm
     rw [lookM_append] at this
     split at this
     · rename_i hd; exact h.wr j hd hlt
     · exact ⟨m, this, hr⟩
   · exact h.wr j hj hlt
 new := fun j pl hj hpl hs => by
   have back : ∀ k pk, hasK d k = true → lookM d k = none → k < nb0 → β0 k = some pk → pk.sz ≠ 0 → hasK (eff ++ d) k = true ∧ lookM (eff ++ d) k = none := by
     intro k pk h1 h2 h3 h4 h5
     refine ⟨by rw [hasK_append, h1]; simp, ?_⟩
     rw [lookM_append]
     split
     · rename_i hk
       obtain ⟨m, hm, _⟩ := s.wr k hk (fun hn => by unfold isNew at hn; omega)
       have := hsub k m hm
       rw [lookM_append, if_pos h1, h2] at this
       cases this
     · exact h2
   have prev : ∀ j pl, nb0 ≤ j → β j = some pl → pl.sz ≠ 0 → w0.heap.size ≤ pl.b ∨ ∃ k pk, hasK (eff ++ d) k = true ∧ lookM (eff ++ d) k = none ∧ k < nb0 ∧ β0 k = some pk ∧ pk.sz ≠ 0 ∧ pl.b = pk.b := by
     intro j pl hj hpl hs
     rcases h.new j pl hj hpl hs with h1 | ⟨k, pk, h1, h2, h3, h4, h5, h6⟩
     · exact .inl h1
     · obtain ⟨g1, g2⟩ := back k pk h1 h2 h3 h4 h5
       exact .inr ⟨k, pk, g1, g2, h3, h4, h5, h6⟩
   by_cases hn : isNew nb nb' j
   · rcases (s.new j pl hn hpl hs).2 with h1 | ⟨k, pk, h1, h2, h3, h4, h5, h6⟩
     · exact .inl (Nat.le_trans h.size h1)
     · by_cases hlt : k < nb0
       · rw [h.old k hlt] at h4
         exact .inr ⟨k, pk, by rw [hasK_append, h1]; simp, by rw [lookM_append, if_pos h1, h2], hlt, h4, h5, h6⟩
       · rw [h6]
         exact prev k pk (by omega) h4 h5
   · rw [s.old j hn] at hpl
     exact prev j pl hj hpl hs
theorem memRep_heap {me : Nat → Option MB} (h : memRep E β w me) (hh : w'.heap = w.heap) : memRep E β w' me :=
 ⟨fun j m hj => by obtain ⟨pl, h1, h2⟩ := h.1 j m hj; exact ⟨pl, h1, MB.rep_keep h2 (Map.le_refl _) (fun _ => by rw [hh])⟩, h.2⟩
theorem inHeap_heap (h : inHeap β w) (hh : w'.heap = w.heap) : inHeap β w' := fun j pl h1 h2 => by rw [hh]; exact h j pl h1 h2
theorem memRep_ext {me me' : Nat → Option MB} (h : memRep E β w me) (he : ∀ j, me' j = me j) : memRep E β w me' := by
 have : me' = me := funext he
 rw [this]; exact h
end
structure En where
 n : Nat
 base : List (Nat × Option MB)
 β0 : Map
 w0 : World
 nb0 : Nat
 df : List Deferred
structure Cur (E : Ev) (en : En) (TM : List (Nat × V)) (ME d : List (Nat × Option MB)) (β : Map) (a : Act) (w : World) : Prop where
 tm : tmRep E β (look TM) a.tmps
 me : memRep E β w (lookM ME)
 heap : inHeap β w
 size : a.tmps.size = en.n
 defers : a.defers = en.df
 eq : ∀ j, lookM ME j = lookM (d ++ en.base) j
 run : Run en.base en.β0 en.w0 en.nb0 d β w
section
variable {Φ : Sig} {ρ : Env} {en : En}
theorem Cur.to {TM TM' : List (Nat × V)} {ME ME' d d' : List (Nat × Option MB)} {β : Map} {a : Act} {w : World} {E : Ev} (h : Cur E en TM ME d β a w) (h1 : ∀ t, look TM' t = look TM t) (h2 : ∀ j, lookM ME' j = lookM ME j) (h3 : ∀ j, hasK d' j = hasK d j) (h4 : ∀ j, lookM d' j = lookM d j) : Cur E en TM' ME' d' β a w where
 tm := by have : look TM' = look TM := funext h1; rw [this]; exact h.tm
 me := memRep_ext h.me h2
 heap := h.heap
 size := h.size
 defers := h.defers
 eq := fun j => by rw [h2, h.eq, lookM_append, lookM_append, h3, h4]
 run := h.run.congr h3 h4
theorem item_step {X : Ctx} (hX : CallOk X.P Φ X.call) {ops : Array Oper} {i : Nat} {o : Oper} (ho : ops[i]? = some o) {S : St} {it : Item} (hs : OpSpec X Φ ρ ops en.n o S it) {TM : List (Nat × V)} {ME d : List (Nat × Option MB)} {a : Act} {w : World} {β : Map}
   (ht : ∀ t ∈ it.sr, look TM t = look S.tm t) (hmm : ∀ j ∈ it.br, lookM ME j = lookM S.me j) (hc : Cur (T.den Φ ρ) en TM ME d β a w) (hfree : ∀ j, isNew it.nb it.nb' j → β j = none) (hlo : en.nb0 ≤ it.nb)
   (K : Act → World → Prop) (Q : Exit → Act → World → Prop)
   (hK : ∀ a' w' β', Cur (T.den Φ ρ) en (bind1 it.dst it.val ++ TM) (it.eff ++ ME) (it.eff ++ d) β' a' w' → β.le β' → (∀ j, ¬ isNew it.nb it.nb' j → β' j = β j) → K a' w') : wpOp X.P ops Q i K a w := by
 refine op_sim hX ho hs ht hmm hc.tm hc.me hc.heap hfree K Q (fun v w' β' hv hst => ?_)
 have hdst := hs.2.1
 refine hK _ _ β' ⟨?_, ?_, ?_, ?_, ?_, ?_, ?_⟩ hst.le hst.old
 · rw [hdst]
   exact tmRep_put (tmRep_le hc.tm hst.le) hv (by rw [hc.size]; exact hs.1)
 · refine hst.memIn hc.heap hc.me (fun j m h => h) (fun j hj => ?_)
   cases hl : lookM ME j with
   | none => rfl
   | some m =>
     obtain ⟨pl, hpl, _⟩ := hc.me.1 j m hl
     rw [hfree j hj] at hpl
     cases hpl
 · exact hst.heapIn hc.heap
 · rw [put_size]; exact hc.size
 · rw [put_defers]; exact hc.defers
 · intro j
   rw [List.append_assoc, lookM_append, hc.eq, ← lookM_append]
 · exact hc.run.step hst (fun j m h => by rw [← hc.eq]; exact h) hlo
theorem isNew_of {it : Item} {nb j : Nat} (h : isNew it.nb it.nb' j) (hn : it.nb = nb) : nb ≤ j := by unfold isNew at h; omega
theorem OpSpec.nb_le {X : Ctx} {ops : Array Oper} {n : Nat} {o : Oper} {S : St} {it : Item} (h : OpSpec X Φ ρ ops n o S it) : it.nb ≤ it.nb' := h.2.2.2.2.1
theorem seq_sound {X : Ctx} (hX : CallOk X.P Φ X.call) {ops : Array Oper} {Q : Exit → Act → World → Prop} {S' : St} : ∀ (os : List Oper) (i : Nat) (S : St) (its : List Item), (∀ k o, os[k]? = some o → ops[i + k]? = some o) → (evOps X ops en.n os S).val (T.den Φ ρ) = some (S', its) → S.fa.hold Φ ρ → ∀ (β : Map) (a : Act) (w : World) (d : List (Nat × Option MB)), Cur (T.den Φ ρ) en S.tm S.me d β a w →
   (∀ j, S.nb ≤ j → β j = none) → en.nb0 ≤ S.nb →
   (∀ a' w' β' p q, S'.fa.hold Φ ρ → S'.nv = S.nv → S.nb ≤ S'.nb → S'.tm = p ++ S.tm → S'.me = q ++ S.me → Cur (T.den Φ ρ) en S'.tm S'.me (q ++ d) β' a' w' → (∀ j, S'.nb ≤ j → β' j = none) → (∀ j, j < S.nb → β' j = β j) → Q .normal a' w') →
   wpOps X.P ops Q (List.range' i os.length) a w
 | [], i, S, its, hos, hev, hf, β, a, w, d, hc, hfree, hlo, hQ => by
   simp only [evOps, O.val] at hev
   injection hev with hev
   injection hev with e1 e2
   subst e1
   exact hQ a w β [] [] hf rfl (Nat.le_refl _) rfl rfl hc hfree (fun _ _ => rfl)
 | o :: os, i, S, its, hos, hev, hf, β, a, w, d, hc, hfree, hlo, hQ => by
   simp only [evOps] at hev
   obtain ⟨⟨it, fa⟩, h1, h2⟩ := O.bind_some hev
   obtain ⟨⟨S1, its1⟩, h3, h4⟩ := O.bind_some h2
   simp only [O.val] at h4
   injection h4 with h4
   injection h4 with e1 e2
   subst e1
   obtain ⟨hfa, hsp⟩ := evOp_spec h1 hf
   have hnb := hsp.2.2.1
   have hle := hsp.nb_le
   rw [List.length_cons, List.range'_succ, wpOps_cons]
   refine item_step hX (by simpa using hos 0 o rfl) hsp (fun _ _ => rfl) (fun _ _ => rfl) hc (fun j hj => hfree j (isNew_of hj hnb)) (by omega) _ _ (fun a' w' β' hc' hbl hbo => ?_)
   refine seq_sound hX os (i + 1) (S.put it fa) its1 (fun k o' hk => ?_) h3 hfa β' a' w' (it.eff ++ d) hc' ?_ ?_ ?_
   · have := hos (k + 1) o' (by simpa using hk)
     rw [show i + 1 + k = i + (k + 1) from by omega]; exact this
   · intro j hj
     have hj : it.nb' ≤ j := hj
     rw [hbo j (fun hn => by unfold isNew at hn; omega)]
     exact hfree j (by omega)
   · show en.nb0 ≤ it.nb'
     omega
   · intro a'' w'' β'' p q g1 g2 g3 g4 g5 g6 g7 g8
     have g3 : it.nb' ≤ S1.nb := g3
     refine hQ a'' w'' β'' (p ++ bind1 it.dst it.val) (q ++ it.eff) g1 g2 (by omega) ?_ ?_ ?_ g7 ?_
     · rw [g4, List.append_assoc]; rfl
     · rw [g5, List.append_assoc]; rfl
     · rw [List.append_assoc]; exact g6
     · intro j hj
       have : (S.put it fa).nb = it.nb' := rfl
       rw [g8 j (by omega), hbo j (fun hn => by unfold isNew at hn; omega)]
end
end Go.Proofs.YtfhjlimdakphcaaGreat.Sx
set_option linter.unusedVariables false
set_option linter.unusedSimpArgs false
namespace Go.Proofs.YtfhjlimdakphcaaGreat.Sx
open Go Go.RowKit
def nthD : List D → Nat → D
 | [], _ => .l []
 | d :: _, 0 => d
 | _ :: l, i + 1 => nthD l i
def upd (ρ : Env) (b : Nat) (ds : List D) : Env := fun i => if b ≤ i ∧ i < b + ds.length then nthD ds (i - b) else ρ i
theorem upd_lo {ρ : Env} {b i : Nat} (ds : List D) (h : i < b) : upd ρ b ds i = ρ i := by unfold upd; rw [if_neg (by omega)]
theorem upd_agree {ρ ρ' : Env} {b : Nat} {ds : List D} {n : Nat} (h : ∀ i, i < b → ρ i = ρ' i) (hn : n ≤ b + ds.length) : ∀ i, i < n → upd ρ b ds i = upd ρ' b ds i := by
 intro i hi
 unfold upd
 split
 · rfl
 · exact h i (by omega)
theorem lenN_eq {α : Type} : ∀ l : List α, lenN l = l.length
 | [] => rfl
 | _ :: l => by simp [lenN, lenN_eq l]
section
variable {Φ : Sig} {ρ ρ' : Env}
theorem nthS_den : ∀ (σ : List T) (i : Nat), (nthS σ i).den Φ ρ = nthD (σ.map (T.den Φ ρ)) i
 | [], i => by simp [nthS, nthD, T.den]
 | t :: σ, 0 => rfl
 | t :: σ, i + 1 => by simpa [nthS, nthD] using nthS_den σ i
theorem sub_den (b : Nat) (σ : List T) : ∀ t : T, (t.sub b σ).den Φ ρ = t.den Φ (upd ρ b (σ.map (T.den Φ ρ)))
 | .var i => by
   simp only [T.sub, T.den, upd, List.length_map]
   by_cases h : b ≤ i ∧ i < b + σ.length
   · rw [if_pos h, if_pos (by simp [lenN_eq, Nat.ble_eq, h.1]; omega)]
     exact nthS_den σ _
   · rw [if_neg h, if_neg (by simp [lenN_eq, Nat.ble_eq]; omega)]
     rfl
 | .num _ => rfl
 | .bol _ => rfl
 | .nil => rfl
 | .cons x l => by simp only [T.sub, T.den, sub_den b σ x, sub_den b σ l]
 | .wr k x => by simp only [T.sub, T.den, sub_den b σ x]
 | .bits o k x y => by simp only [T.sub, T.den, sub_den b σ x, sub_den b σ y]
 | .c1 o x => by simp only [T.sub, T.den, sub_den b σ x]
 | .c2 o x y => by simp only [T.sub, T.den, sub_den b σ x, sub_den b σ y]
 | .ite c x y => by simp only [T.sub, T.den, sub_den b σ c, sub_den b σ x, sub_den b σ y]
 | .set l i x => by simp only [T.sub, T.den, sub_den b σ l, sub_den b σ i, sub_den b σ x]
 | .spl l i s => by simp only [T.sub, T.den, sub_den b σ l, sub_den b σ i, sub_den b σ s]
 | .fn f x y z => by simp only [T.sub, T.den, sub_den b σ x, sub_den b σ y, sub_den b σ z]
theorem lo_den {n : Nat} (h : ∀ i, i < n → ρ i = ρ' i) : ∀ t : T, t.lo n = true → t.den Φ ρ = t.den Φ ρ'
 | .var i, ht => h i (Nat.le_of_ble_eq_true ht)
 | .num _, _ => rfl
 | .bol _, _ => rfl
 | .nil, _ => rfl
 | .cons x l, ht => by simp only [T.lo, Bool.and_eq_true] at ht; simp only [T.den, lo_den h x ht.1, lo_den h l ht.2]
 | .wr k x, ht => by simp only [T.lo] at ht; simp only [T.den, lo_den h x ht]
 | .bits o k x y, ht => by simp only [T.lo, Bool.and_eq_true] at ht; simp only [T.den, lo_den h x ht.1, lo_den h y ht.2]
 | .c1 o x, ht => by simp only [T.lo] at ht; simp only [T.den, lo_den h x ht]
 | .c2 o x y, ht => by simp only [T.lo, Bool.and_eq_true] at ht; simp only [T.den, lo_den h x ht.1, lo_den h y ht.2]
 | .ite c x y, ht => by simp only [T.lo, Bool.and_eq_true] at ht; simp only [T.den, lo_den h c ht.1, lo_den h x ht.2.1, lo_den h y ht.2.2]
 | .set l i x, ht => by simp only [T.lo, Bool.and_eq_true] at ht; simp only [T.den, lo_den h l ht.1, lo_den h i ht.2.1, lo_den h x ht.2.2]
 | .spl l i s, ht => by simp only [T.lo, Bool.and_eq_true] at ht; simp only [T.den, lo_den h l ht.1, lo_den h i ht.2.1, lo_den h s ht.2.2]
 | .fn f x y z, ht => by simp only [T.lo, Bool.and_eq_true] at ht; simp only [T.den, lo_den h x ht.1, lo_den h y ht.2.1, lo_den h z ht.2.2]
section
variable {n : Nat} {β : Map}
theorem C.rep_lo (h : ∀ i, i < n → ρ i = ρ' i) {x : C} {v : Value} (hx : x.lo n = true) (hr : x.rep (T.den Φ ρ) β v) : x.rep (T.den Φ ρ') β v := by
 cases x <;> simp only [C.rep, C.lo, Bool.and_eq_true] at hx hr ⊢
 case i k t => rw [← lo_den h t hx]; exact hr
 case b t => rw [← lo_den h t hx]; exact hr
 case p j e st r => rw [← lo_den h e hx]; exact hr
 case s j st r o len => rw [← lo_den h o hx.1, ← lo_den h len hx.2]; exact hr
 all_goals exact hr
theorem repL_lo (h : ∀ i, i < n → ρ i = ρ' i) : ∀ {xs : List C} {vs : List Value}, loL n xs = true → repL (T.den Φ ρ) β xs vs → repL (T.den Φ ρ') β xs vs
 | [], [], _, _ => trivial
 | [], _ :: _, _, hr => hr.elim
 | _ :: _, [], _, hr => hr.elim
 | x :: xs, v :: vs, hx, hr => by
   simp only [loL, Bool.and_eq_true] at hx
   exact ⟨C.rep_lo h hx.1 hr.1, repL_lo h hx.2 hr.2⟩
theorem W.rep_lo (h : ∀ i, i < n → ρ i = ρ' i) {x : W} {v : Value} (hx : x.lo n = true) (hr : x.rep (T.den Φ ρ) β v) : x.rep (T.den Φ ρ') β v := by
 cases x with
 | c x => exact C.rep_lo h hx hr
 | g xs => obtain ⟨cs, rfl, hr⟩ := hr; exact ⟨cs, rfl, repL_lo h hx hr⟩
theorem repWs_lo (h : ∀ i, i < n → ρ i = ρ' i) : ∀ {xs : List W} {vs : List Value}, loWs n xs = true → repWs (T.den Φ ρ) β xs vs → repWs (T.den Φ ρ') β xs vs
 | [], [], _, _ => trivial
 | [], _ :: _, _, hr => hr.elim
 | _ :: _, [], _, hr => hr.elim
 | x :: xs, v :: vs, hx, hr => by
   simp only [loWs, Bool.and_eq_true] at hx
   exact ⟨W.rep_lo h hx.1 hr.1, repWs_lo h hx.2 hr.2⟩
theorem V.rep_lo (h : ∀ i, i < n → ρ i = ρ' i) {x : V} {v : Value} (hx : x.lo n = true) (hr : x.rep (T.den Φ ρ) β v) : x.rep (T.den Φ ρ') β v := by
 cases x with
 | w x => exact W.rep_lo h hx hr
 | t xs => obtain ⟨cs, rfl, hr⟩ := hr; exact ⟨cs, rfl, repWs_lo h hx hr⟩
 | u => trivial
theorem loL_get : ∀ {xs : List C} {i : Nat} {x : C}, loL n xs = true → xs[i]? = some x → x.lo n = true
 | [], _, _, _, h => by simp at h
 | y :: xs, 0, x, hl, h => by
   simp only [List.getElem?_cons_zero, Option.some.injEq] at h
   simp only [loL, Bool.and_eq_true] at hl
   rw [← h]; exact hl.1
 | y :: xs, i + 1, x, hl, h => by
   simp only [List.getElem?_cons_succ] at h
   simp only [loL, Bool.and_eq_true] at hl
   exact loL_get hl.2 h
theorem Blk.rep_lo (h : ∀ i, i < n → ρ i = ρ' i) {w : World} {pl : Place} {k : Blk} (hk : k.lo n = true) (hr : k.rep (T.den Φ ρ) β w pl) : k.rep (T.den Φ ρ') β w pl := by
 cases k with
 | cells xs =>
   refine ⟨hr.1, fun i x hx => ?_⟩
   obtain ⟨v, hv, hrv⟩ := hr.2 i x hx
   exact ⟨v, hv, C.rep_lo h (loL_get hk hx) hrv⟩
 | row ks l => simp only [Blk.rep] at hr ⊢; rw [← lo_den h l hk]; exact hr
 | mix ks l => simp only [Blk.rep] at hr ⊢; rw [← lo_den h l hk]; exact hr
theorem loTm_look : ∀ {tm : List (Nat × V)} {t : Nat} {v : V}, loTm n tm = true → look tm t = some v → v.lo n = true
 | (k, x) :: tm, t, v, hl, h => by
   simp only [loTm, Bool.and_eq_true] at hl
   simp only [look] at h
   split at h
   · injection h with h; rw [← h]; exact hl.1
   · exact loTm_look hl.2 h
theorem loMe_look : ∀ {me : List (Nat × Option MB)} {j : Nat} {m : MB}, loMe n me = true → lookM me j = some m → m.k.lo n = true
 | (k, x) :: me, j, m, hl, h => by
   simp only [lookM] at h
   cases x with
   | none =>
     simp only [loMe] at hl
     split at h
     · cases h
     · exact loMe_look hl h
   | some x =>
     simp only [loMe, Bool.and_eq_true] at hl
     split at h
     · injection h with h; rw [← h]; exact hl.1
     · exact loMe_look hl.2 h
theorem loFa_hold (h : ∀ i, i < n → ρ i = ρ' i) : ∀ {fa : Facts}, loFa n fa = true → fa.hold Φ ρ → fa.hold Φ ρ'
 | [], _, _ => fun t p hm => by cases hm
 | (u, q) :: fa, hl, hf => by
   simp only [loFa, Bool.and_eq_true] at hl
   intro t p hm
   rcases List.mem_cons.mp hm with e | hm
   · injection e with e1 e2
     subst e1 e2
     rw [← lo_den h t hl.1]
     exact hf t p List.mem_cons_self
   · exact loFa_hold h hl.2 (fun t p hm => hf t p (List.mem_cons_of_mem _ hm)) t p hm
end
section
variable {E : Ev} {β β' : Map} {w : World}
def known (β : Map) (ns : List Nat) : Prop := ∀ j ∈ ns, ∃ pl, β j = some pl
theorem C.rep_known {x : C} {v : Value} (h : x.rep E β v) : known β x.nm := by
 cases x <;> simp only [C.rep, C.nm] at h ⊢
 case p => obtain ⟨pl, h1, _⟩ := h; exact fun j hj => by simp at hj; subst hj; exact ⟨pl, h1⟩
 case s => obtain ⟨pl, h1, _⟩ := h; exact fun j hj => by simp at hj; subst hj; exact ⟨pl, h1⟩
 all_goals exact fun j hj => by simp at hj
theorem C.rep_back {x : C} {v : Value} (hb : β'.le β) (hk : known β' x.nm) (h : x.rep E β v) : x.rep E β' v := by
 cases x <;> simp only [C.rep, C.nm] at h hk ⊢
 case p =>
   obtain ⟨pl, h1, h2⟩ := h
   obtain ⟨pl', h3⟩ := hk _ List.mem_cons_self
   have := hb _ _ h3
   rw [h1] at this
   injection this with this
   subst this
   exact ⟨pl, h3, h2⟩
 case s =>
   obtain ⟨pl, h1, h2⟩ := h
   obtain ⟨pl', h3⟩ := hk _ List.mem_cons_self
   have := hb _ _ h3
   rw [h1] at this
   injection this with this
   subst this
   exact ⟨pl, h3, h2⟩
 all_goals exact h
theorem repL_known : ∀ {xs : List C} {vs : List Value}, repL E β xs vs → known β (namesL xs)
 | [], [], _ => fun j hj => by simp [namesL] at hj
 | [], _ :: _, h => h.elim
 | _ :: _, [], h => h.elim
 | x :: xs, v :: vs, h => fun j hj => by
   simp only [namesL, List.mem_append] at hj
   exact hj.elim (C.rep_known h.1 j) (repL_known h.2 j)
theorem repL_back (hb : β'.le β) : ∀ {xs : List C} {vs : List Value}, known β' (namesL xs) → repL E β xs vs → repL E β' xs vs
 | [], [], _, _ => trivial
 | [], _ :: _, _, h => h.elim
 | _ :: _, [], _, h => h.elim
 | x :: xs, v :: vs, hk, h => ⟨C.rep_back hb (fun j hj => hk j (by simp only [namesL, List.mem_append]; exact .inl hj)) h.1, repL_back hb (fun j hj => hk j (by simp only [namesL, List.mem_append]; exact .inr hj)) h.2⟩
theorem W.rep_known {x : W} {v : Value} (h : x.rep E β v) : known β x.nm := by
 cases x with
 | c x => exact C.rep_known h
 | g xs => obtain ⟨cs, rfl, h⟩ := h; exact repL_known h
theorem W.rep_back {x : W} {v : Value} (hb : β'.le β) (hk : known β' x.nm) (h : x.rep E β v) : x.rep E β' v := by
 cases x with
 | c x => exact C.rep_back hb hk h
 | g xs => obtain ⟨cs, rfl, h⟩ := h; exact ⟨cs, rfl, repL_back hb hk h⟩
theorem repWs_known : ∀ {xs : List W} {vs : List Value}, repWs E β xs vs → known β (namesWs xs)
 | [], [], _ => fun j hj => by simp [namesWs] at hj
 | [], _ :: _, h => h.elim
 | _ :: _, [], h => h.elim
 | x :: xs, v :: vs, h => fun j hj => by
   simp only [namesWs, List.mem_append] at hj
   exact hj.elim (W.rep_known h.1 j) (repWs_known h.2 j)
theorem repWs_back (hb : β'.le β) : ∀ {xs : List W} {vs : List Value}, known β' (namesWs xs) → repWs E β xs vs → repWs E β' xs vs
 | [], [], _, _ => trivial
 | [], _ :: _, _, h => h.elim
 | _ :: _, [], _, h => h.elim
 | x :: xs, v :: vs, hk, h => ⟨W.rep_back hb (fun j hj => hk j (by simp only [namesWs, List.mem_append]; exact .inl hj)) h.1, repWs_back hb (fun j hj => hk j (by simp only [namesWs, List.mem_append]; exact .inr hj)) h.2⟩
theorem V.rep_known {x : V} {v : Value} (h : x.rep E β v) : known β x.nm := by
 cases x with
 | w x => exact W.rep_known h
 | t xs => obtain ⟨cs, rfl, h⟩ := h; exact repWs_known h
 | u => exact fun j hj => by simp [V.nm] at hj
theorem V.rep_back {x : V} {v : Value} (hb : β'.le β) (hk : known β' x.nm) (h : x.rep E β v) : x.rep E β' v := by
 cases x with
 | w x => exact W.rep_back hb hk h
 | t xs => obtain ⟨cs, rfl, h⟩ := h; exact ⟨cs, rfl, repWs_back hb hk h⟩
 | u => trivial
theorem namesL_get : ∀ {xs : List C} {i : Nat} {x : C}, xs[i]? = some x → ∀ j ∈ x.nm, j ∈ namesL xs
 | [], _, _, h => by simp at h
 | y :: xs, 0, x, h => fun j hj => by
   simp only [List.getElem?_cons_zero, Option.some.injEq] at h
   subst h
   simp only [namesL, List.mem_append]; exact .inl hj
 | y :: xs, i + 1, x, h => fun j hj => by
   simp only [List.getElem?_cons_succ] at h
   simp only [namesL, List.mem_append]; exact .inr (namesL_get h j hj)
theorem namesL_inv : ∀ {xs : List C} {j : Nat}, j ∈ namesL xs → ∃ (i : Nat) (x : C), xs[i]? = some x ∧ j ∈ x.nm
 | [], j, h => by simp [namesL] at h
 | y :: xs, j, h => by
   simp only [namesL, List.mem_append] at h
   rcases h with h | h
   · exact ⟨0, y, rfl, h⟩
   · obtain ⟨i, x, hx, hj⟩ := namesL_inv h
     exact ⟨i + 1, x, by simpa using hx, hj⟩
theorem Blk.rep_known {k : Blk} {pl : Place} (h : k.rep E β w pl) : known β k.nm := by
 cases k with
 | cells xs =>
   intro j hj
   obtain ⟨i, x, hx, hjx⟩ := namesL_inv hj
   obtain ⟨v, _, hr⟩ := h.2 i x hx
   exact C.rep_known hr j hjx
 | row ks l => exact fun j hj => by simp [Blk.nm] at hj
 | mix ks l => exact fun j hj => by simp [Blk.nm] at hj
theorem Blk.rep_back {k : Blk} {pl : Place} (hb : β'.le β) (hk : known β' k.nm) (h : k.rep E β w pl) : k.rep E β' w pl := by
 cases k with
 | cells xs =>
   refine ⟨h.1, fun i x hx => ?_⟩
   obtain ⟨v, hv, hr⟩ := h.2 i x hx
   exact ⟨v, hv, C.rep_back hb (fun j hj => hk j (namesL_get hx j hj)) hr⟩
 | row ks l => exact h
 | mix ks l => exact h
theorem Blk.rep_le {k : Blk} {pl : Place} (hb : β.le β') (h : k.rep E β w pl) : k.rep E β' w pl := by
 cases k with
 | cells xs =>
   refine ⟨h.1, fun i x hx => ?_⟩
   obtain ⟨v, hv, hr⟩ := h.2 i x hx
   exact ⟨v, hv, C.rep_le hb hr⟩
 | row ks l => exact h
 | mix ks l => exact h
end
structure Fits (s : Sb) (β1 β2 : Map) : Prop where
 at_ : ∀ j j' pl, nmOf s.nb s.π j = some (some j') → β1 j' = some pl → β2 j = some pl
 ph : ∀ j, nmOf s.nb s.π j = some none → β2 j = some ⟨0, 0, 0⟩
section
variable {s : Sb} {β1 β2 : Map} {ρ1 : Env}
abbrev Sb.env (s : Sb) (Φ : Sig) (ρ : Env) : Env := upd ρ s.b (s.σ.map (T.den Φ ρ))
theorem eqT_den {p t : T} (h : s.eqT p t = true) : p.den Φ (s.env Φ ρ1) = t.den Φ ρ1 := by
 unfold Sb.eqT at h
 rw [← T.beq_eq h, sub_den]
theorem eqN_int {p t : T} (h : s.eqN p t = true) : (p.den Φ (s.env Φ ρ1)).int = (t.den Φ ρ1).int := by
 unfold Sb.eqN at h
 rw [← T.beq_eq h, tidy_i, sub_den]
theorem isN_eq {x : Option (Option Nat)} {j : Nat} (h : isN x j = true) : x = some (some j) := by
 unfold isN at h
 split at h
 · rw [Nat.eq_of_beq_eq_true h]
 · cases h
theorem isPh_eq {x : Option (Option Nat)} (h : isPh x = true) : x = some none := by
 unfold isPh at h
 split at h
 · rfl
 · cases h
theorem kbeq_eq {a b : IntKind} (h : Nat.beq (knum a) (knum b) = true) : a = b := knum_inj (Nat.eq_of_beq_eq_true h)
theorem okC_rep (hf : Fits s β1 β2) {p x : C} {v : Value} (h : okC s p x = true) (hr : x.rep (T.den Φ ρ1) β1 v) : p.rep (T.den Φ (s.env Φ ρ1)) β2 v := by
 unfold okC at h
 split at h <;> (try simp only [Bool.and_eq_true] at h) <;> simp only [C.rep] at hr ⊢
 · rw [eqT_den h.2, kbeq_eq h.1]; exact hr
 · rw [eqT_den h]; exact hr
 · obtain ⟨h1, h2, h3, h4⟩ := h
   obtain ⟨pl, hp, hv⟩ := hr
   rw [eqT_den h2, Nat.eq_of_beq_eq_true h3, Nat.eq_of_beq_eq_true h4]
   exact ⟨pl, hf.at_ _ _ _ (isN_eq h1) hp, hv⟩
 · exact hr
 · obtain ⟨h1, h2, h3, h4, h5⟩ := h
   obtain ⟨pl, hp, hv⟩ := hr
   rw [eqT_den h2, eqT_den h3, Nat.eq_of_beq_eq_true h4, Nat.eq_of_beq_eq_true h5]
   exact ⟨pl, hf.at_ _ _ _ (isN_eq h1) hp, hv⟩
 · obtain ⟨h1, h2, h3, h4⟩ := h
   have e2 := eqN_int (Φ := Φ) (ρ1 := ρ1) h2
   have e3 := eqN_int (Φ := Φ) (ρ1 := ρ1) h3
   simp only [T.den, D.int_i] at e2 e3
   rw [e2, e3, Nat.eq_of_beq_eq_true h4]
   subst hr
   exact ⟨⟨0, 0, 0⟩, hf.ph _ (isPh_eq h1), none, 0, 0, rfl, by simp, Nat.le_refl _, by simp, by simp, fun h => by omega⟩
 · obtain ⟨h1, h2, h3, h4⟩ := h
   have e2 := eqN_int (Φ := Φ) (ρ1 := ρ1) h2
   have e3 := eqN_int (Φ := Φ) (ρ1 := ρ1) h3
   simp only [T.den, D.int_i] at e2 e3
   rw [e2, e3, Nat.eq_of_beq_eq_true h4]
   obtain ⟨a, rfl⟩ := hr
   exact ⟨⟨0, 0, 0⟩, hf.ph _ (isPh_eq h1), a, 0, 0, rfl, by simp, Nat.le_refl _, by simp, by simp, fun h => by omega⟩
 · exact hr
 · exact hr
 · rw [Nat.eq_of_beq_eq_true h]; exact hr
 · exact hr
 · cases h
theorem okL_rep (hf : Fits s β1 β2) : ∀ {ps xs : List C} {vs : List Value}, okL s ps xs = true → repL (T.den Φ ρ1) β1 xs vs → repL (T.den Φ (s.env Φ ρ1)) β2 ps vs
 | [], [], [], _, _ => trivial
 | [], [], _ :: _, _, h => h.elim
 | [], _ :: _, _, h, _ => by simp [okL] at h
 | _ :: _, [], _, h, _ => by simp [okL] at h
 | _ :: _, _ :: _, [], _, h => h.elim
 | p :: ps, x :: xs, v :: vs, h, hr => by
   simp only [okL, Bool.and_eq_true] at h
   exact ⟨okC_rep hf h.1 hr.1, okL_rep hf h.2 hr.2⟩
theorem okW_rep (hf : Fits s β1 β2) {p x : W} {v : Value} (h : okW s p x = true) (hr : x.rep (T.den Φ ρ1) β1 v) : p.rep (T.den Φ (s.env Φ ρ1)) β2 v := by
 unfold okW at h
 split at h
 · exact okC_rep hf h hr
 · obtain ⟨cs, rfl, hr⟩ := hr; exact ⟨cs, rfl, okL_rep hf h hr⟩
 · cases h
theorem okWs_rep (hf : Fits s β1 β2) : ∀ {ps xs : List W} {vs : List Value}, okWs s ps xs = true → repWs (T.den Φ ρ1) β1 xs vs → repWs (T.den Φ (s.env Φ ρ1)) β2 ps vs
 | [], [], [], _, _ => trivial
 | [], [], _ :: _, _, h => h.elim
 | [], _ :: _, _, h, _ => by simp [okWs] at h
 | _ :: _, [], _, h, _ => by simp [okWs] at h
 | _ :: _, _ :: _, [], _, h => h.elim
 | p :: ps, x :: xs, v :: vs, h, hr => by
   simp only [okWs, Bool.and_eq_true] at h
   exact ⟨okW_rep hf h.1 hr.1, okWs_rep hf h.2 hr.2⟩
theorem okV_rep (hf : Fits s β1 β2) {p x : V} {v : Value} (h : okV s p x = true) (hr : x.rep (T.den Φ ρ1) β1 v) : p.rep (T.den Φ (s.env Φ ρ1)) β2 v := by
 unfold okV at h
 split at h
 · trivial
 · exact okW_rep hf h hr
 · obtain ⟨cs, rfl, hr⟩ := hr; exact ⟨cs, rfl, okWs_rep hf h hr⟩
 · cases h
theorem okL_get : ∀ {ps xs : List C}, okL s ps xs = true → ps.length = xs.length ∧ ∀ (i : Nat) (p : C), ps[i]? = some p → ∃ x, xs[i]? = some x ∧ okC s p x = true
 | [], [], _ => ⟨rfl, fun i p h => by simp at h⟩
 | [], _ :: _, h => by simp [okL] at h
 | _ :: _, [], h => by simp [okL] at h
 | q :: ps, y :: xs, h => by
   simp only [okL, Bool.and_eq_true] at h
   obtain ⟨h1, h2⟩ := okL_get h.2
   refine ⟨by simp [h1], fun i p hp => ?_⟩
   cases i with
   | zero => simp only [List.getElem?_cons_zero, Option.some.injEq] at hp; subst hp; exact ⟨y, rfl, h.1⟩
   | succ i => simp only [List.getElem?_cons_succ] at hp ⊢; exact h2 i p hp
theorem kbeqL_eq' : ∀ {a b : List IntKind}, kbeqL a b = true → a = b
 | [], [], _ => rfl
 | [], _ :: _, h => by simp [kbeqL] at h
 | _ :: _, [], h => by simp [kbeqL] at h
 | x :: a, y :: b, h => by
   simp only [kbeqL, Bool.and_eq_true] at h
   rw [kbeq_eq h.1, kbeqL_eq' h.2]
theorem okB_rep (hf : Fits s β1 β2) {p x : Blk} {w : World} {pl : Place} (h : okB s p x = true) (hr : x.rep (T.den Φ ρ1) β1 w pl) : p.rep (T.den Φ (s.env Φ ρ1)) β2 w pl := by
 unfold okB at h
 split at h
 · obtain ⟨h1, h2⟩ := okL_get h
   refine ⟨by rw [h1]; exact hr.1, fun i q hq => ?_⟩
   obtain ⟨y, hy, hok⟩ := h2 i q hq
   obtain ⟨v, hv, hrv⟩ := hr.2 i y hy
   exact ⟨v, hv, okC_rep hf hok hrv⟩
 · simp only [Bool.and_eq_true] at h
   simp only [Blk.rep] at hr ⊢
   rw [kbeqL_eq' h.1, eqT_den h.2]; exact hr
 · simp only [Bool.and_eq_true] at h
   simp only [Blk.rep] at hr ⊢
   rw [kbeqL_eq' h.1, eqT_den h.2]; exact hr
 · cases h
theorem okM_rep (hf : Fits s β1 β2) {p x : MB} {w : World} {pl : Place} (h : okM s p x = true) (hr : x.rep (T.den Φ ρ1) β1 w pl) : p.rep (T.den Φ (s.env Φ ρ1)) β2 w pl ∧ (p.rw = true → x.rw = true) := by
 simp only [okM, Bool.and_eq_true, Bool.or_eq_true, Bool.not_eq_true'] at h
 have hrw : p.rw = true → x.rw = true := fun e => by rcases h.1 with h | h; · rw [e] at h; cases h
                                                     · exact h
 exact ⟨⟨okB_rep hf h.2 hr.1, fun e => hr.2 (hrw e)⟩, hrw⟩
theorem okPh_rep {p : Blk} {w : World} {β : Map} (h : okPh s p = true) : p.rep (T.den Φ (s.env Φ ρ1)) β w ⟨0, 0, 0⟩ := by
 unfold okPh at h
 split at h
 · refine ⟨by simp, ?_, fun i z hz => ?_⟩
   · rw [eqT_den h]; simp [T.den]
   · rw [eqT_den h] at hz; simp [T.den] at hz
 · exact ⟨by simp, fun i x hx => by simp at hx⟩
 · cases h
end
end
end Go.Proofs.YtfhjlimdakphcaaGreat.Sx
set_option linter.unusedVariables false
set_option linter.unusedSimpArgs false
namespace Go.Proofs.YtfhjlimdakphcaaGreat.Sx
open Go Go.RowKit
structure Sim (Φ : Sig) (ρ : Env) (en : En) (S : St) (β : Map) (a : Act) (w : World) : Prop where
 cur : ∃ d, S.me = d ++ en.base ∧ Cur (T.den Φ ρ) en S.tm S.me d β a w
 fa : S.fa.hold Φ ρ
 free : ∀ j, S.nb ≤ j → β j = none
 lo : en.nb0 ≤ S.nb
structure After (ρ : Env) (S : St) (β : Map) (ρ' : Env) (S' : St) (β' : Map) : Prop where
 rho : ∀ i, i < S.nv → ρ' i = ρ i
 nv : S.nv ≤ S'.nv
 nb : S.nb ≤ S'.nb
 beta : ∀ j, j < S.nb → β' j = β j
 tm : ∃ p, S'.tm = p ++ S.tm
 me : ∃ q, S'.me = q ++ S.me
theorem After.refl (ρ : Env) (S : St) (β : Map) : After ρ S β ρ S β := ⟨fun _ _ => rfl, Nat.le_refl _, Nat.le_refl _, fun _ _ => rfl, ⟨[], rfl⟩, ⟨[], rfl⟩⟩
theorem After.trans {ρ ρ' ρ'' : Env} {S S' S'' : St} {β β' β'' : Map} (h : After ρ S β ρ' S' β') (k : After ρ' S' β' ρ'' S'' β'') : After ρ S β ρ'' S'' β'' := by
 obtain ⟨p, hp⟩ := h.tm
 obtain ⟨p', hp'⟩ := k.tm
 obtain ⟨q, hq⟩ := h.me
 obtain ⟨q', hq'⟩ := k.me
 exact ⟨fun i hi => (k.rho i (Nat.lt_of_lt_of_le hi h.nv)).trans (h.rho i hi), Nat.le_trans h.nv k.nv, Nat.le_trans h.nb k.nb, fun j hj => (k.beta j (Nat.lt_of_lt_of_le hj h.nb)).trans (h.beta j hj),
   ⟨p' ++ p, by rw [hp', hp, List.append_assoc]⟩, ⟨q' ++ q, by rw [hq', hq, List.append_assoc]⟩⟩
theorem After.of_facts {ρ ρ' : Env} {S S' : St} {β β' : Map} {fa : Facts} (h : After ρ { S with fa := fa } β ρ' S' β') : After ρ S β ρ' S' β' := ⟨h.rho, h.nv, h.nb, h.beta, h.tm, h.me⟩
theorem Sim.facts {Φ : Sig} {ρ : Env} {en : En} {S : St} {β : Map} {a : Act} {w : World} (h : Sim Φ ρ en S β a w) {fa : Facts} (hf : fa.hold Φ ρ) : Sim Φ ρ en { S with fa := fa } β a w := ⟨h.cur, hf, h.free, h.lo⟩
section
variable {s : Sb}
theorem okTm_mem {tm : List (Nat × V)} : ∀ {l : List (Nat × V)}, okTm s tm l = true → ∀ {t : Nat} {v : V}, look l t = some v → v = .u ∨ ∃ x, look tm t = some x ∧ okV s v x = true
 | [], _, t, v, h => by cases h
 | (k, y0) :: l, hok, t, v, h => by
   simp only [okTm, Bool.and_eq_true] at hok
   simp only [look] at h
   split at h
   · rename_i e
     injection h with h
     subst h
     rw [← Nat.eq_of_beq_eq_true e]
     obtain ⟨h1, _⟩ := hok
     split at h1
     · exact .inl rfl
     · split at h1
       · rename_i x hx; exact .inr ⟨x, hx, h1⟩
       · cases h1
   · exact okTm_mem hok.2 h
theorem okOld_mem {me : List (Nat × Option MB)} : ∀ {l : List (Nat × Option MB)}, okOld s me l = true → ∀ {j : Nat}, hasK l j = true → j < s.nb ∧ ∀ m, lookM l j = some m → ∃ x, lookM me j = some x ∧ okM s m x = true
 | [], _, j, h => by cases h
 | (k, none) :: l, hok, j, h => by
   simp only [okOld, Bool.and_eq_true] at hok
   simp only [hasK, Bool.or_eq_true] at h
   simp only [lookM]
   by_cases e : Nat.beq k j = true
   · rw [if_pos e]
     have := Nat.le_of_ble_eq_true hok.1
     have := Nat.eq_of_beq_eq_true e
     exact ⟨by omega, fun m hm => by cases hm⟩
   · rw [if_neg e]
     exact okOld_mem hok.2 (h.resolve_left e)
 | (k, some m0) :: l, hok, j, h => by
   simp only [okOld, Bool.and_eq_true] at hok
   simp only [hasK, Bool.or_eq_true] at h
   simp only [lookM]
   by_cases e : Nat.beq k j = true
   · rw [if_pos e]
     have := Nat.le_of_ble_eq_true hok.2.1
     have ej := Nat.eq_of_beq_eq_true e
     refine ⟨by omega, fun m hm => ?_⟩
     injection hm with hm
     subst hm
     obtain ⟨h1, _⟩ := hok
     split at h1
     · rename_i x hx; rw [← ej]; exact ⟨x, hx, h1⟩
     · cases h1
   · rw [if_neg e]
     exact okOld_mem hok.2.2 (h.resolve_left e)
theorem ownOld_mem {me : List (Nat × Option MB)} : ∀ {l : List (Nat × Option MB)}, ownOld me l = true → ∀ {j : Nat}, hasK l j = true → ∃ x, lookM me j = some x ∧ x.rw = true
 | [], _, j, h => by cases h
 | (k, m) :: l, hok, j, h => by
   simp only [ownOld, Bool.and_eq_true] at hok
   simp only [hasK, Bool.or_eq_true] at h
   rcases h with e | h
   · rw [← Nat.eq_of_beq_eq_true e]
     obtain ⟨h1, _⟩ := hok
     split at h1
     · rename_i x hx; exact ⟨x, hx, h1⟩
     · cases h1
   · exact ownOld_mem hok.2 h
theorem okNew_mem {me old : List (Nat × Option MB)} : ∀ {l : List MB} {π : List (Option Nat)} {seen : List Nat}, okNew s me old l π seen = true → π.length = l.length ∧
   (∀ (i : Nat) (m : MB), l[i]? = some m → (∃ j x, π[i]? = some (some j) ∧ lookM me j = some x ∧ okM s m x = true ∧ (s.nb ≤ j ∨ look old j = some none) ∧ j ∉ seen) ∨ (π[i]? = some none ∧ okPh s m.k = true)) ∧
   (∀ (i k j j' : Nat), i ≠ k → π[i]? = some (some j) → π[k]? = some (some j') → j ≠ j')
 | [], [], _, _ => ⟨rfl, fun i m h => by simp at h, fun i k j j' _ h => by simp at h⟩
 | [], _ :: _, _, h => by simp [okNew] at h
 | _ :: _, [], _, h => by simp [okNew] at h
 | m0 :: l, some j0 :: π, seen, h => by
   simp only [okNew, Bool.and_eq_true, Bool.or_eq_true, Bool.not_eq_true'] at h
   obtain ⟨h1, h2, h3, h4⟩ := h
   obtain ⟨g1, g2, g3⟩ := okNew_mem h4
   refine ⟨by simp [g1], fun i m hm => ?_, fun i k j j' hne hi hk => ?_⟩
   · cases i with
     | zero =>
       simp only [List.getElem?_cons_zero, Option.some.injEq] at hm
       subst hm
       left
       split at h1
       · rename_i x hx
         refine ⟨j0, x, rfl, hx, h1, ?_, fun hm => by rw [hasN_mem.mpr hm] at h3; cases h3⟩
         rcases h2 with h2 | h2
         · exact .inl (Nat.le_of_ble_eq_true h2)
         · right
           split at h2
           · assumption
           · cases h2
       · cases h1
     | succ i =>
       simp only [List.getElem?_cons_succ] at hm
       rcases g2 i m hm with ⟨j, x, k1, k2, k3, k4, k5⟩ | h
       · exact .inl ⟨j, x, by simpa using k1, k2, k3, k4, fun h => k5 (List.mem_cons_of_mem _ h)⟩
       · exact .inr (by simpa using h)
   · have fresh : ∀ (i j : Nat), π[i]? = some (some j) → j ≠ j0 := by
       intro i j hi e
       have hlt : i < l.length := by rw [← g1]; exact (List.getElem?_eq_some_iff.1 hi).1
       rcases g2 i _ (List.getElem?_eq_getElem hlt) with ⟨j', x, k1, _, _, _, k5⟩ | ⟨k1, _⟩
       · rw [hi] at k1
         injection k1 with k1
         injection k1 with k1
         subst k1
         exact k5 (by rw [e]; exact List.mem_cons_self)
       · rw [hi] at k1; cases k1
     cases i with
     | zero =>
       simp only [List.getElem?_cons_zero, Option.some.injEq] at hi
       cases k with
       | zero => exact absurd rfl hne
       | succ k =>
         simp only [List.getElem?_cons_succ] at hk
         rw [← hi]
         exact fun e => fresh k j' hk e.symm
     | succ i =>
       simp only [List.getElem?_cons_succ] at hi
       cases k with
       | zero =>
         simp only [List.getElem?_cons_zero, Option.some.injEq] at hk
         rw [← hk]; exact fresh i j hi
       | succ k =>
         simp only [List.getElem?_cons_succ] at hk
         exact g3 i k j j' (by omega) hi hk
 | m0 :: l, none :: π, seen, h => by
   simp only [okNew, Bool.and_eq_true] at h
   obtain ⟨g1, g2, g3⟩ := okNew_mem h.2
   refine ⟨by simp [g1], fun i m hm => ?_, fun i k j j' hne hi hk => ?_⟩
   · cases i with
     | zero =>
       simp only [List.getElem?_cons_zero, Option.some.injEq] at hm
       subst hm
       exact .inr ⟨rfl, h.1⟩
     | succ i =>
       simp only [List.getElem?_cons_succ] at hm
       rcases g2 i m hm with ⟨j, x, k1, k2⟩ | h
       · exact .inl ⟨j, x, by simpa using k1, k2⟩
       · exact .inr (by simpa using h)
   · cases i with
     | zero => simp at hi
     | succ i =>
       cases k with
       | zero => simp at hk
       | succ k =>
         simp only [List.getElem?_cons_succ] at hi hk
         exact g3 i k j j' (by omega) hi hk
theorem nthO_get : ∀ (π : List (Option Nat)) (i : Nat), nthO π i = π[i]?
 | [], i => by simp [nthO]
 | x :: π, 0 => rfl
 | x :: π, i + 1 => by simpa [nthO] using nthO_get π i
theorem newE_has : ∀ (l : List MB) (b j : Nat), hasK (newE b l) j = true ↔ b ≤ j ∧ j < b + l.length
 | [], b, j => by simp [newE, hasK]
 | m :: l, b, j => by
   simp only [newE, hasK, Bool.or_eq_true, newE_has l (b + 1) j, List.length_cons]
   constructor
   · rintro (h | h)
     · have := Nat.eq_of_beq_eq_true h; omega
     · omega
   · intro h
     by_cases e : b = j
     · exact .inl (by rw [e]; exact Nat.beq_refl _)
     · exact .inr (by omega)
theorem newE_look : ∀ (l : List MB) (b j : Nat) (m : MB), lookM (newE b l) j = some m → b ≤ j ∧ l[j - b]? = some m
 | [], b, j, m, h => by cases h
 | m0 :: l, b, j, m, h => by
   simp only [newE, lookM] at h
   split at h
   · rename_i e
     have e := Nat.eq_of_beq_eq_true e
     subst e
     simp only [Nat.sub_self, List.getElem?_cons_zero]
     exact ⟨Nat.le_refl _, h⟩
   · obtain ⟨h1, h2⟩ := newE_look l (b + 1) j m h
     refine ⟨by omega, ?_⟩
     rw [show j - b = (j - (b + 1)) + 1 from by omega, List.getElem?_cons_succ]
     exact h2
theorem hasK_look {α : Type} : ∀ {l : List (Nat × α)} {t : Nat}, hasK l t = true → ∃ v, look l t = some v
 | (k, v) :: l, t, h => by
   simp only [hasK, Bool.or_eq_true] at h
   simp only [look]
   by_cases e : Nat.beq k t = true
   · exact ⟨v, by rw [if_pos e]⟩
   · rw [if_neg e]; exact hasK_look (h.resolve_left e)
theorem look_lookM_none : ∀ {l : List (Nat × Option MB)} {j : Nat}, look l j = some none → hasK l j = true ∧ lookM l j = none
 | (k, v) :: l, j, h => by
   simp only [look] at h
   simp only [hasK, lookM]
   by_cases e : Nat.beq k j = true
   · rw [if_pos e] at h
     rw [if_pos e, e]
     injection h with h
     exact ⟨rfl, h⟩
   · rw [if_neg e] at h
     rw [if_neg e]
     obtain ⟨h1, h2⟩ := look_lookM_none h
     exact ⟨by rw [h1]; simp, h2⟩
end
theorem head_sim {Φ : Sig} {en : En} {H : Head} {S S1 : St} {σ : List T} {π : List (Option Nat)} {ρe ρ1 : Env} {βe β1 : Map} {ae a : Act} {we w : World}
   (hstart : okStart H S = true) (hok : okHead H S.nv S.nb σ π S1 = true)
   (he : Sim Φ ρe en S βe ae we) (h1 : Sim Φ ρ1 en S1 β1 a w)
   (hfs : H.fa.hold Φ (upd ρe S.nv (σ.map (T.den Φ ρ1)))) (hρ : ∀ i, i < S.nv → ρ1 i = ρe i) (hβ : ∀ j, j < S.nb → β1 j = βe j)
   (k1 : ∀ t, hasK H.tm t = false → ∀ v, look S.tm t = some v → look S1.tm t = some v)
   (k2 : ∀ j, j < S.nb → hasK H.old j = false → lookM S1.me j = lookM S.me j)
   (k3 : ∀ d d1, S.me = d ++ en.base → S1.me = d1 ++ en.base → (∀ j, j < en.nb0 → hasK d1 j = true → hasK (H.old ++ (newE S.nb H.new ++ d)) j = true) ∧
     (∀ j, j < en.nb0 → hasK (H.old ++ (newE S.nb H.new ++ d)) j = true → (∃ m, lookM en.base j = some m ∧ m.rw = true)) ∧ (∀ k, k < en.nb0 → hasK H.old k = false → hasK d1 k = true → lookM d1 k = none → lookM d k = none)) :
   ∃ β2, Sim Φ (upd ρe S.nv (σ.map (T.den Φ ρ1))) en (H.st S) β2 a w ∧ (∀ j, j < S.nb → β2 j = βe j) ∧ (σ.map (T.den Φ ρ1)).length = H.n := by
 obtain ⟨d, hd, hce⟩ := he.cur
 obtain ⟨d1, hd1, hc1⟩ := h1.cur
 obtain ⟨q1, q2, q3⟩ := k3 d d1 hd hd1
 simp only [okStart, Bool.and_eq_true] at hstart
 obtain ⟨_, lo1, lo2, lo3, lo4, lo5, lo6, own⟩ := hstart
 simp only [okHead, Bool.and_eq_true] at hok
 obtain ⟨c1, c2, c3, c4⟩ := hok
 have hn : σ.length = H.n := by rw [← lenN_eq]; exact Nat.eq_of_beq_eq_true c1
 obtain ⟨n1, n2, n3⟩ := okNew_mem c4
 let β2 : Map := fun j => if j < S.nb then βe j else match nthO π (j - S.nb) with
   | some (some j') => β1 j'
   | some none => some ⟨0, 0, 0⟩
   | none => none
 have b2lo : ∀ j, j < S.nb → β2 j = βe j := fun j hj => by simp only [β2, if_pos hj]
 have b2hi : ∀ i j', π[i]? = some (some j') → β2 (S.nb + i) = β1 j' := fun i j' hi => by
   simp only [β2, if_neg (show ¬ S.nb + i < S.nb from by omega), nthO_get, Nat.add_sub_cancel_left, hi]
 have b2ph : ∀ i, π[i]? = some none → β2 (S.nb + i) = some ⟨0, 0, 0⟩ := fun i hi => by
   simp only [β2, if_neg (show ¬ S.nb + i < S.nb from by omega), nthO_get, Nat.add_sub_cancel_left, hi]
 have fits : Fits ⟨S.nv, σ, S.nb, π⟩ β1 β2 := by
   refine ⟨fun j j' pl hj hp => ?_, fun j hj => ?_⟩
   · unfold nmOf at hj
     split at hj
     · rename_i hle
       have hle : S.nb ≤ j := Nat.le_of_ble_eq_true hle
       rw [nthO_get] at hj
       have := b2hi (j - S.nb) j' hj
       rw [show S.nb + (j - S.nb) = j from by omega] at this
       rw [this]; exact hp
     · rename_i hle
       injection hj with hj
       injection hj with hj
       subst hj
       have hlt : j < S.nb := by
         rcases Nat.lt_or_ge j S.nb with h | h
         · exact h
         · exact absurd (Nat.ble_eq.mpr h) hle
       rw [b2lo j hlt, ← hβ j hlt]; exact hp
   · unfold nmOf at hj
     split at hj
     · rename_i hle
       have hle : S.nb ≤ j := Nat.le_of_ble_eq_true hle
       rw [nthO_get] at hj
       have := b2ph (j - S.nb) hj
       rw [show S.nb + (j - S.nb) = j from by omega] at this
       exact this
     · cases hj
 have b2le1 : ∀ j, j < S.nb → β2 j = β1 j := fun j hj => by rw [b2lo j hj, hβ j hj]
 have ele : βe.le β1 := fun j pl hj => by
   rcases Nat.lt_or_ge j S.nb with h | h
   · rw [hβ j h]; exact hj
   · rw [he.free j h] at hj; cases hj
 have ele2 : βe.le β2 := fun j pl hj => by
   rcases Nat.lt_or_ge j S.nb with h | h
   · rw [b2lo j h]; exact hj
   · rw [he.free j h] at hj; cases hj
 let ρ2 : Env := upd ρe S.nv (σ.map (T.den Φ ρ1))
 have agA : ∀ i, i < S.nv + H.n → upd ρ1 S.nv (σ.map (T.den Φ ρ1)) i = ρ2 i := upd_agree hρ (by rw [List.length_map, hn]; exact Nat.le_refl _)
 have agB : ∀ i, i < S.nv → ρ1 i = ρ2 i := fun i hi => by show _ = upd _ _ _ i; rw [upd_lo _ hi]; exact hρ i hi
 have agC : ∀ i, i < S.nv → ρe i = ρ2 i := fun i hi => by show _ = upd _ _ _ i; rw [upd_lo _ hi]
 have src : ∀ j m, lookM (H.st S).me j = some m → (∃ j' x pl, lookM S1.me j' = some x ∧ β1 j' = some pl ∧ β2 j = some pl ∧ m.rep (T.den Φ ρ2) β2 w pl ∧ (m.rw = true → x.rw = true) ∧ ((j < S.nb ∧ j' = j) ∨ (S.nb ≤ j ∧ π[j - S.nb]? = some (some j') ∧ (S.nb ≤ j' ∨ look H.old j' = some none)))) ∨ (β2 j = some ⟨0, 0, 0⟩ ∧ m.rep (T.den Φ ρ2) β2 w ⟨0, 0, 0⟩) := by
   intro j m hj
   simp only [Head.st] at hj
   rw [lookM_append] at hj
   split at hj
   · rename_i hk
     obtain ⟨g1, g2⟩ := okOld_mem c3 hk
     obtain ⟨x, hx, hox⟩ := g2 m hj
     obtain ⟨pl, hp, hr⟩ := hc1.me.1 j x hx
     obtain ⟨r1, r2⟩ := okM_rep fits hox hr
     have hml : m.k.lo (S.nv + H.n) = true := loMe_look lo5 hj
     exact .inl ⟨j, x, pl, hx, hp, by rw [b2le1 j g1]; exact hp, ⟨Blk.rep_lo agA hml r1.1, r1.2⟩, r2, .inl ⟨g1, rfl⟩⟩
   · rename_i hk
     rw [lookM_append] at hj
     split at hj
     · obtain ⟨g1, g2⟩ := newE_look _ _ _ _ hj
       have hml : m.k.lo (S.nv + H.n) = true := by
         have : ∀ (l : List MB) (i : Nat), loMbs (S.nv + H.n) l = true → l[i]? = some m → m.k.lo (S.nv + H.n) = true := by
           intro l
           induction l with
           | nil => intro i _ h; simp at h
           | cons y l ih =>
             intro i hl h
             simp only [loMbs, Bool.and_eq_true] at hl
             cases i with
             | zero => simp only [List.getElem?_cons_zero, Option.some.injEq] at h; rw [← h]; exact hl.1
             | succ i => simp only [List.getElem?_cons_succ] at h; exact ih i hl.2 h
         exact this H.new _ lo6 g2
       have ej : S.nb + (j - S.nb) = j := by omega
       rcases n2 (j - S.nb) m g2 with ⟨j', x, e1, e2, e3, e4, _⟩ | ⟨e1, e2⟩
       · obtain ⟨pl, hp, hr⟩ := hc1.me.1 j' x e2
         obtain ⟨r1, r2⟩ := okM_rep fits e3 hr
         refine .inl ⟨j', x, pl, e2, hp, ?_, ⟨Blk.rep_lo agA hml r1.1, r1.2⟩, r2, .inr ⟨g1, e1, e4⟩⟩
         have := b2hi _ _ e1
         rw [ej] at this
         rw [this]; exact hp
       · refine .inr ⟨?_, Blk.rep_lo agA hml (okPh_rep e2), fun _ => .inl rfl⟩
         have := b2ph _ e1
         rw [ej] at this
         exact this
     · have hlt : j < S.nb := by
         rcases Nat.lt_or_ge j S.nb with h | h
         · exact h
         · obtain ⟨pl, hp, _⟩ := hce.me.1 j m hj
           rw [he.free j h] at hp; cases hp
       have hx := k2 j hlt (by simpa using hk)
       rw [hj] at hx
       obtain ⟨pl, hp, hr⟩ := hc1.me.1 j m hx
       obtain ⟨ple, hpe, hre⟩ := hce.me.1 j m hj
       have hml : m.k.lo S.nv = true := loMe_look lo2 hj
       have hkn : known β2 m.k.nm := fun i hi => by
         obtain ⟨p, hp⟩ := Blk.rep_known hre.1 i hi
         exact ⟨p, ele2 i p hp⟩
       have hkn1 : known βe m.k.nm := Blk.rep_known hre.1
       refine .inl ⟨j, m, pl, hx, hp, by rw [b2le1 j hlt]; exact hp, ⟨?_, hr.2⟩, id, .inl ⟨hlt, rfl⟩⟩
       exact Blk.rep_le ele2 (Blk.rep_back ele hkn1 (Blk.rep_lo agB hml hr.1))
 refine ⟨β2, ⟨⟨H.old ++ (newE S.nb H.new ++ d), ?_, ?_⟩, ?_, ?_, ?_⟩, b2lo, by rw [List.length_map]; exact hn⟩
 · simp only [Head.st, hd, List.append_assoc]
 · refine ⟨?_, ⟨?_, ?_⟩, ?_, hc1.size, hc1.defers, ?_, ?_⟩
   · 
     intro t v hv hne
     simp only [Head.st] at hv
     rw [look_append] at hv
     cases hk : look H.tm t with
     | some y0 =>
       rw [hk] at hv
       injection hv with hv
       subst hv
       rcases okTm_mem c2 hk with e | ⟨x, hx, hox⟩
       · exact absurd e hne
       · have hxu : x ≠ .u := fun e => by
           subst e
           cases y0 <;> first | exact hne rfl | (simp [okV] at hox)
         obtain ⟨y, hy, hr⟩ := hc1.tm t x hx hxu
         exact ⟨y, hy, V.rep_lo agA (loTm_look lo4 hk) (okV_rep fits hox hr)⟩
     | none =>
       rw [hk] at hv
       have hv : look S.tm t = some v := hv
       have hkf : hasK H.tm t = false := by
         cases h : hasK H.tm t with
         | false => rfl
         | true => obtain ⟨y0, hu⟩ := hasK_look h; rw [hk] at hu; cases hu
       obtain ⟨y, hy, hr⟩ := hc1.tm t v (k1 t hkf v hv) hne
       obtain ⟨ye, _, hre⟩ := hce.tm t v hv hne
       exact ⟨y, hy, V.rep_le ele2 (V.rep_back ele (V.rep_known hre) (V.rep_lo agB (loTm_look lo1 hv) hr))⟩
   · 
     intro j m hj
     rcases src j m hj with ⟨j', x, pl, _, _, e3, e4, _⟩ | ⟨e1, e2⟩
     · exact ⟨pl, e3, e4⟩
     · exact ⟨_, e1, e2⟩
   · intro j k m m' pl pl' hne hj hk hrw hp hp' hs hs'
     rcases src j m hj with ⟨j', x, q, e1, e2, e3, e4, e5, e6⟩ | ⟨e1, _⟩
     · rcases src k m' hk with ⟨k', y, q', f1, f2, f3, f4, f5, f6⟩ | ⟨f1, _⟩
       · rw [e3] at hp; injection hp with hp; subst hp
         rw [f3] at hp'; injection hp' with hp'; subst hp'
         have seen : ∀ i m, lookM (H.st S).me i = some m → look H.old i ≠ some none := by
           intro i m hi hl
           obtain ⟨l1, l2⟩ := look_lookM_none hl
           simp only [Head.st] at hi
           rw [lookM_append, if_pos l1, l2] at hi
           cases hi
         have hne' : j' ≠ k' := by
           rcases e6 with ⟨a1, rfl⟩ | ⟨a1, a2, a3⟩
           · rcases f6 with ⟨b1, rfl⟩ | ⟨b1, b2, b3⟩
             · exact hne
             · rcases b3 with b3 | b3
               · omega
               · exact fun e => seen j' m hj (by rw [e]; exact b3)
           · rcases f6 with ⟨b1, rfl⟩ | ⟨b1, b2, b3⟩
             · rcases a3 with a3 | a3
               · omega
               · exact fun e => seen k' m' hk (by rw [← e]; exact a3)
             · exact n3 _ _ _ _ (by omega) a2 b2
         exact hc1.me.2 j' k' x y q q' hne' e1 f1 (e5 hrw) e2 f2 hs hs'
       · rw [f1] at hp'; injection hp' with hp'; subst hp'
         exact absurd rfl hs'
     · rw [e1] at hp; injection hp with hp; subst hp
       exact absurd rfl hs
   · 
     intro j pl hj hs
     rcases Nat.lt_or_ge j S.nb with h | h
     · rw [b2le1 j h] at hj
       exact hc1.heap j pl hj hs
     · simp only [β2, if_neg (show ¬ j < S.nb from by omega)] at hj
       split at hj
       · rename_i j' _; exact hc1.heap j' pl hj hs
       · injection hj with hj; subst hj; exact absurd rfl hs
       · cases hj
   · intro j
     simp only [Head.st, hd, List.append_assoc]
   · 
     have hr1 := hc1.run
     have back : ∀ k, k < en.nb0 → hasK d1 k = true → lookM d1 k = none → hasK (H.old ++ (newE S.nb H.new ++ d)) k = true ∧ lookM (H.old ++ (newE S.nb H.new ++ d)) k = none := by
       intro k hk g1 g2
       refine ⟨q1 k hk g1, ?_⟩
       rw [lookM_append]
       split
       · rename_i ho
         cases hl : lookM H.old k with
         | none => rfl
         | some m =>
           obtain ⟨_, g⟩ := okOld_mem c3 ho
           obtain ⟨x, hx, _⟩ := g m hl
           rw [hd1, lookM_append, if_pos g1, g2] at hx
           cases hx
       · rename_i ho
         rw [lookM_append]
         split
         · rename_i hw
           have := (newE_has _ _ _).mp hw
           have := he.lo
           omega
         · exact q3 k hk (by simpa using ho) g1 g2
     refine ⟨fun j hj => ?_, hr1.os, hr1.tape, hr1.output, hr1.size, fun b hb hh => ?_, fun j hj hlt => q2 j hlt hj, fun j pl hj hp hs => ?_⟩
     · have := he.lo
       rw [b2le1 j (by omega)]; exact hr1.old j hj
     · exact hr1.kept b hb (fun j pl hj hlt hp hs => hh j pl (q1 j hlt hj) hlt hp hs)
     · have prev : ∀ i pl, en.nb0 ≤ i → β1 i = some pl → pl.sz ≠ 0 → en.w0.heap.size ≤ pl.b ∨ ∃ k pk, hasK (H.old ++ (newE S.nb H.new ++ d)) k = true ∧ lookM (H.old ++ (newE S.nb H.new ++ d)) k = none ∧ k < en.nb0 ∧ en.β0 k = some pk ∧ pk.sz ≠ 0 ∧ pl.b = pk.b := by
         intro i pl hi hp hs
         rcases hr1.new i pl hi hp hs with h | ⟨k, pk, g1, g2, g3, g4⟩
         · exact .inl h
         · obtain ⟨l1, l2⟩ := back k g3 g1 g2
           exact .inr ⟨k, pk, l1, l2, g3, g4⟩
       rcases Nat.lt_or_ge j S.nb with h | h
       · rw [b2le1 j h] at hp
         exact prev j pl hj hp hs
       · simp only [β2, if_neg (show ¬ j < S.nb from by omega)] at hp
         split at hp
         · rename_i j' hπ
           rcases Nat.lt_or_ge j' en.nb0 with hl | hl
           · rw [nthO_get] at hπ
             rw [hr1.old j' hl] at hp
             have hlen : j - S.nb < H.new.length := by rw [← n1]; exact (List.getElem?_eq_some_iff.1 hπ).1
             rcases n2 (j - S.nb) _ (List.getElem?_eq_getElem hlen) with ⟨j2, x, e1, e2, e3, e4, _⟩ | ⟨e1, _⟩
             · rw [hπ] at e1
               injection e1 with e1
               injection e1 with e1
               subst e1
               have := he.lo
               rcases e4 with e4 | e4
               · have e4 : S.nb ≤ j' := e4
                 omega
               · obtain ⟨l1, l2⟩ := look_lookM_none e4
                 exact .inr ⟨j', pl, by rw [hasK_append, l1]; rfl, by rw [lookM_append, if_pos l1, l2], hl, hp, hs, rfl⟩
             · rw [hπ] at e1; cases e1
           · exact prev j' pl hl hp hs
         · injection hp with hp; subst hp; exact absurd rfl hs
         · cases hp
 · intro t p hm
   simp only [Head.st, List.mem_append] at hm
   rcases hm with hm | hm
   · exact hfs t p hm
   · exact loFa_hold agC lo3 he.fa t p hm
 · intro j hj
   have hj : S.nb + lenN H.new ≤ j := hj
   rw [lenN_eq] at hj
   simp only [β2, if_neg (show ¬ j < S.nb from by omega), nthO_get]
   rw [List.getElem?_eq_none (by omega)]
 · show en.nb0 ≤ S.nb + _
   have := he.lo
   omega
end Go.Proofs.YtfhjlimdakphcaaGreat.Sx
