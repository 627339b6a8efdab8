/- Sx, part 11: each operation comes to what the model does (make, append, copy). Conditions: none. -/
import Derived.Test.YtlgiibchnnaceaaSxF
import Derived.Deep.Upon
set_option linter.unusedVariables false
set_option linter.unusedSimpArgs false
namespace Go.Proofs.Ytlgiibchnnaceaa.Sx
open Go Go.RowKit
section
variable {Φ : Sig} {ρ : Env} {β : Map} {w : World} {P : Program} {bs : Bs} {nb : Nat} {res : Res}

theorem copies_getL {α : Type} (l : List α) : ∀ (n i : Nat), i < n * l.length → (copies l n)[i]? = l[i % l.length]?
  | 0, i, h => by omega
  | n + 1, i, h => by
    rw [Nat.succ_mul] at h
    simp only [copies]
    by_cases hi : i < l.length
    · rw [List.getElem?_append_left hi, Nat.mod_eq_of_lt hi]
    · rw [List.getElem?_append_right (by omega), copies_getL l n (i - l.length) (by omega)]
      congr 1
      exact (Nat.mod_eq_sub_mod (by omega)).symm
theorem flatten_copies {α : Type} (l : List α) : ∀ n, (List.replicate n l).flatten = copies l n
  | 0 => rfl
  | n + 1 => by simp [List.replicate_succ, copies, flatten_copies l n]
theorem wrap64_id {z : Int} (h0 : 0 ≤ z) (h1 : z ≤ 140737488355328) : IntKind.i64.wrap z = z := by
  exact IntWalk.i64_in z (by omega)
theorem makeSlice_ok {t : TypeId} {x y : V} {xv yv : Value} (h : (opMakeSlice P t nb x y).val (T.den Φ ρ) = some res) (hx : x.rep (T.den Φ ρ) β xv) (hy : y.rep (T.den Φ ρ) β yv) (hfree : isNew nb res.nb nb → β nb = none) :
    Did (T.den Φ ρ) (look bs) β w nb res ((do pure (.value (← Instr.makeSlice t xv yv)) : Sem Next).run P w) := by
  unfold opMakeSlice at h
  split at h
  · rename_i k1 len k2 cap
    simp only [V.rep, W.rep, C.rep] at hx hy
    subst hx hy
    split at h
    · rename_i e hu
      split at h
      · cases h
      · rename_i i hi
        split at h
        · rename_i h0
          split at h
          · cases h
          · rename_i z hz
            split at h
            · rename_i hzl
              split at h
              · rename_i hlc
                have hlc := T.beq_eq hlc
                subst hlc
                replace h := chkT_some hEb h
                obtain ⟨h1, h⟩ := h
                replace h := chkT_some hEb h
                obtain ⟨h2, h⟩ := h
                replace h := chkT_some hEb h
                obtain ⟨h3, h⟩ := h
                replace h1 := le_chk h1
                replace h2 := le_chk h2
                replace h3 := le_chk h3
                rw [den_mul] at h2
                simp only [T.den, D.int_i, Int.ofNat_eq_natCast] at h1 h2 h3
                obtain ⟨i', zv, hi', hzv, hr⟩ := zeroC_ok (Φ := Φ) (ρ := ρ) (β := β) hz
                rw [hi] at hi'
                injection hi' with hi'
                subst hi'
                have hzs : zv.cells.size = i.size := by have := repL_length hr; simp at this; omega
                obtain ⟨n, hn⟩ := Int.eq_ofNat_of_zero_le h1
                have hw := wrap64_id h1 h3
                have hrun : (do pure (.value (← Instr.makeSlice t (.int k1 (len.den Φ ρ).int) (.int k2 (len.den Φ ρ).int))) : Sem Next).run P w = .ok (.value (.slice (some ⟨w.heap.size, 0, none⟩) n n)) (w.alloc (.cells ((Array.range (n * i.size)).map (zv.cells[· % zv.cells.size]!)) e)) := by
                  have hb : (i.bytes : Int) * (len.den Φ ρ).int ≤ 140737488355328 := by rw [Int.mul_comm]; exact h2
                  simp only [Instr.makeSlice, Sem.run_bind, run_underlying hu w, Result.andThen_ok, asInt, asIntOf, Sem.run_pure, typeInfo, run_program, hi, hw]
                  rw [if_neg (by simp; omega)]
                  simp only [Sem.run_bind, Sem.run_pure, Result.andThen_ok, run_askRoom, sizeOf, typeInfo, run_program, hi]
                  rw [hn]
                  simp only [Int.toNat_natCast]
                  by_cases h00 : n * i.size = 0
                  · simp only [h00, if_true, Sem.run_bind, Sem.run_pure, Result.andThen_ok, newRow, run_newObj]
                    have hr0 : Array.range 0 = #[] := rfl
                    rw [hr0]
                    simp only [List.map_toArray, List.map_nil]
                    rfl
                  · simp only [h00, if_false, Sem.run_bind, run_zero hi hzv w, Sem.run_pure, Result.andThen_ok, newRow, run_newObj]
                    rfl
                have harr : ((Array.range (n * i.size)).map (zv.cells[· % zv.cells.size]!)).toList = copies zv.cells.toList n := by
                  rw [← hzs]; exact range_copies zv.cells n (by omega)
                have hsz : ((Array.range (n * i.size)).map (zv.cells[· % zv.cells.size]!)).size = n * i.size := by simp
                have fin : β nb = none → ∀ (k : Blk), k.rep (T.den Φ ρ) (β.with nb ⟨w.heap.size, 0, n * i.size⟩) (w.alloc (.cells ((Array.range (n * i.size)).map (zv.cells[· % zv.cells.size]!)) e)) ⟨w.heap.size, 0, n * i.size⟩ →
                    Did (T.den Φ ρ) (look bs) β w nb ⟨.c (.s nb i.size 0 (.num 0) len), newBlk nb k, nb + 1⟩ ((do pure (.value (← Instr.makeSlice t (.int k1 (len.den Φ ρ).int) (.int k2 (len.den Φ ρ).int))) : Sem Next).run P w) := by
                  intro hfree k hk
                  refine ⟨_, _, β.with nb ⟨w.heap.size, 0, n * i.size⟩, .inl hrun, ⟨_, Map.with_self _ _ _, _, _, _, rfl, hn.symm, Nat.le_refl _, by simp [T.den], by simp [T.den], fun _ => by simp [T.den]⟩, ?_⟩
                  have := StepR.alloc (E := T.den Φ ρ) (bs := look bs) (β := β) (w := w) (w1 := w) (nb := nb) (arr := ((Array.range (n * i.size)).map (zv.cells[· % zv.cells.size]!))) (ty := e) (k := k) rfl rfl rfl rfl hfree (by rw [hsz]; exact hk)
                  rw [hsz] at this
                  exact this
                have rowFin : ∀ (ks : List IntKind) (l lr : T), β nb = none → intsT z = some (ks, l) → ¬ ks.length = 0 → (lr.den Φ ρ).list = copies (l.den Φ ρ).list n → Did (T.den Φ ρ) (look bs) β w nb ⟨.c (.s nb i.size 0 (.num 0) len), newBlk nb (.row ks lr), nb + 1⟩ ((do pure (.value (← Instr.makeSlice t (.int k1 (len.den Φ ρ).int) (.int k2 (len.den Φ ρ).int))) : Sem Next).run P w) := by
                  intro ks l lr hfree hks hk0 hden
                  obtain ⟨a1, a2, a3⟩ := intsT_ok (Φ := Φ) (ρ := ρ) (β := β) hks hr
                  refine fin hfree _ ?_
                  have := Blk.row_new (E := T.den Φ ρ) (β := β.with nb ⟨w.heap.size, 0, n * i.size⟩) (w := w) (w1 := w) (ks := ks) (l := lr) (arr := ((Array.range (n * i.size)).map (zv.cells[· % zv.cells.size]!))) (ty := e) rfl (by omega)
                    (by rw [hden, copies_length, hsz, a2, hzl]; exact Nat.le_refl _) (fun p x hp => by
                      rw [hden] at hp
                      have hlt := (List.getElem?_eq_some_iff.1 hp).1
                      rw [copies_length] at hlt
                      rw [copies_getL _ _ _ hlt, a2] at hp
                      rw [← Array.getElem?_toList, harr, copies_getL _ _ _ (by rw [Array.length_toList, hzs]; rw [a2, hzl] at hlt; exact hlt), Array.length_toList, hzs, a3, a1, ← hzl]
                      have hlt2 : p % z.length < ks.length := by rw [a1]; exact Nat.mod_lt _ (by omega)
                      have hk : ks[p % z.length]? = some ks[p % z.length] := List.getElem?_eq_getElem hlt2
                      rw [ints_get ks _ _ x _ hk hp, List.getD_eq_getElem?_getD, hk]; rfl)
                  rw [hsz] at this
                  exact this
                split at h
                · rename_i nn
                  have hnn : nn = n := by simp only [T.den, D.int_i, Int.ofNat_eq_natCast] at hn; omega
                  split at h
                  · simp only [O.val] at h
                    injection h with h
                    subst h
                    replace hfree := hfree ⟨Nat.le_refl _, Nat.lt_succ_self _⟩
                    subst hnn
                    refine fin hfree _ ?_
                    have := rowOrCells_new (Φ := Φ) (ρ := ρ) (β := β.with nb ⟨w.heap.size, 0, nn * i.size⟩) (w := w) (w1 := w) (cs := copies z nn) (st := i.size) (arr := ((Array.range (nn * i.size)).map (zv.cells[· % zv.cells.size]!))) (ty := e) h0 rfl (by rw [harr]; exact copies_rep (repL_le (Map.le_with hfree) hr) nn)
                    rw [hsz] at this
                    exact this
                  · split at h
                    · rename_i ks l hks
                      split at h
                      · cases h
                      · rename_i hk0
                        simp only [O.val] at h
                        injection h with h
                        subst h
                        exact rowFin ks l _ (hfree ⟨Nat.le_refl _, Nat.lt_succ_self _⟩) hks hk0 (by simp only [T.den, O2.den, D.list_l, D.int_i, Int.ofNat_eq_natCast, Int.toNat_natCast, hnn, flatten_copies])
                    · cases h
                · split at h
                  · rename_i ks l hks
                    split at h
                    · cases h
                    · rename_i hk0
                      simp only [O.val] at h
                      injection h with h
                      subst h
                      exact rowFin ks l _ (hfree ⟨Nat.le_refl _, Nat.lt_succ_self _⟩) hks hk0 (by rw [den_rep, hn, flatten_copies]; simp)
                  · cases h
              · cases h
            · cases h
        · cases h
    · cases h
  · cases h
theorem len_ok {at_ : Array TypeId} {ty : TypeId} {vs : List V} {xs : List Value} (h : (opLen P at_ nb vs).val (T.den Φ ρ) = some res) (hv : repVs (T.den Φ ρ) β vs xs) :
    Did (T.den Φ ρ) (look bs) β w nb res ((do pure (.value (← Builtin.len_ at_ ty xs.toArray)) : Sem Next).run P w) := by
  unfold opLen at h
  split at h
  · rename_i x
    match xs, hv with
    | [xv], hv =>
      have hx := hv.1
      split at h
      · cases h
      · rename_i t ht
        split at h
        · rename_i n e hu
          rw [intR_some h]
          refine Did.int (z := (n : Int)) ?_ (by simp [T.den])
          simp [Builtin.len_, ht, run_underlying hu w, goInt]
        · rename_i e hu
          split at h
          · simp only [V.rep, W.rep, C.rep] at hx
            obtain ⟨pl, hpl, a, l, c, rfl, hl, _⟩ := hx
            rw [intR_some h]
            refine Did.int (z := (l : Int)) ?_ hl.symm
            simp [Builtin.len_, ht, run_underlying hu w, goInt]
          · simp only [V.rep, W.rep, C.rep] at hx
            subst hx
            rw [intR_some h]
            refine Did.int (z := 0) ?_ (by simp [T.den])
            simp [Builtin.len_, ht, run_underlying hu w, goInt]
          · simp only [V.rep, W.rep, C.rep] at hx
            obtain ⟨a, rfl⟩ := hx
            rw [intR_some h]
            refine Did.int (z := 0) ?_ (by simp [T.den])
            simp [Builtin.len_, ht, run_underlying hu w, goInt]
          · cases h
        · cases h
  · cases h
/-! A slice's elements. -/
/-- The cells of a stretch hold the row l of kinds ks. -/
def Holds (w : World) (b o : Nat) (ks : List IntKind) (l : List Int) : Prop := ∀ (i : Nat) (z : Int), l[i]? = some z → w.cell? ⟨b, o + i, none⟩ = some (.int (ks.getD (i % ks.length) .u8) z)
theorem sliceT_ok {b : Blk} {st r : Nat} {o len : T} {ks : List IntKind} {l : T} {pl : Place} {n : Nat} (h : (sliceT b st r o len).val (T.den Φ ρ) = some (ks, l)) (hb : b.rep (T.den Φ ρ) β w pl) (ho : 0 ≤ (o.den Φ ρ).int) (hn : (n : Int) = (len.den Φ ρ).int) :
    (l.den Φ ρ).list.length = n * st ∧ ((ks ≠ [] → ks.length = st) ∧ (ks ≠ [] ∨ st = 0 ∨ (l.den Φ ρ).list = [])) ∧ Holds w pl.b (pl.o + (r + (o.den Φ ρ).int.toNat * st)) ks (l.den Φ ρ).list := by
  unfold sliceT at h
  split at h
  · rename_i ks' l'
    split at h
    · rename_i hst
      simp only [Bool.and_eq_true] at hst
      have hks := Nat.eq_of_beq_eq_true hst.1
      have h1 := Nat.le_of_ble_eq_true hst.2
      split at h
      · rename_i hr
        have hr := Nat.eq_of_beq_eq_true hr
        subst hr
        replace h := chkT_some hEb h
        obtain ⟨hc, h⟩ := h
        replace hc := le_chk hc
        rw [den_mul, den_add, den_len] at hc
        simp only [O.val] at h
        injection h with h
        injection h with e1 e2
        subst e1 e2
        obtain ⟨oo, hoo⟩ := Int.eq_ofNat_of_zero_le ho
        rw [den_take, den_drop, den_mul, den_mul, hoo, ← hn]
        rw [hoo, ← hn] at hc
        simp only [T.den, D.int_i, Int.ofNat_eq_natCast] at hc ⊢
        have hc' : (oo + n) * st ≤ (l'.den Φ ρ).list.length := by
          have : (((oo + n) * st : Nat) : Int) = ((oo : Int) + (n : Int)) * (st : Int) := by simp
          omega
        rw [Nat.add_mul] at hc'
        have t1 : ((oo : Int) * (st : Int)).toNat = oo * st := by rw [toNat_mul_nat st (Int.natCast_nonneg _)]; simp
        have t2 : ((n : Int) * (st : Int)).toNat = n * st := by rw [toNat_mul_nat st (Int.natCast_nonneg _)]; simp
        rw [t1, t2, Int.toNat_natCast]
        refine ⟨by simp; omega, ⟨fun _ => hks, .inl (fun e => by rw [e] at hks; simp at hks; omega)⟩, fun i z hz => ?_⟩
        rw [List.getElem?_take] at hz
        split at hz
        · rw [List.getElem?_drop] at hz
          have := hb.2.2 _ z hz
          rw [Nat.add_mod, ← hks, Nat.mul_mod_left, Nat.zero_add, Nat.mod_mod] at this
          rw [show pl.o + (0 + oo * st) + i = pl.o + (oo * st + i) by omega, ← hks]
          exact this
        · cases hz
      · split at h
        · rename_i hs1
          have hs1 := Nat.eq_of_beq_eq_true hs1
          subst hs1
          replace h := chkT_some hEb h
          obtain ⟨hc, h⟩ := h
          replace hc := le_chk hc
          rw [den_add, den_add, den_len] at hc
          simp only [O.val] at h
          injection h with h
          injection h with e1 e2
          subst e1 e2
          obtain ⟨oo, hoo⟩ := Int.eq_ofNat_of_zero_le ho
          rw [den_take, den_drop, den_add, hoo, ← hn]
          rw [hoo, ← hn] at hc
          simp only [T.den, D.int_i, Int.ofNat_eq_natCast] at hc ⊢
          have t1 : ((oo : Int) + (r : Int)).toNat = oo + r := by omega
          rw [t1, Int.toNat_natCast, Int.toNat_natCast]
          refine ⟨by simp; omega, ⟨fun _ => hks, .inl (fun e => by rw [e] at hks; simp at hks)⟩, fun i z hz => ?_⟩
          rw [List.getElem?_take] at hz
          split at hz
          · rw [List.getElem?_drop] at hz
            have := hb.2.2 _ z hz
            rw [hks, Nat.mod_one] at this
            rw [hks, Nat.mod_one, show pl.o + (r + oo * 1) + i = pl.o + (oo + r + i) by omega]
            exact this
          · cases hz
        · cases h
    · cases h
  · rename_i xs
    split at h
    · rename_i oo nn
      split at h
      · rename_i hle
        split at h
        · rename_i ks' l' hi
          split at h
          · rename_i hcyc
            simp only [O.val] at h
            injection h with h
            injection h with e1 e2
            subst e1 e2
            obtain ⟨vs, hv1, hv2⟩ := cells_vals (Φ := Φ) (ρ := ρ) (β := β) (w := w) pl.b xs pl.o hb.2
            have hsub := repL_take (repL_drop hv1 (r + oo * st)) (nn * st)
            obtain ⟨a1, a2⟩ := row_of_cells hi hcyc hsub
            obtain ⟨b1, b2, _⟩ := intsT_ok hi hsub
            have hnn : nn = n := by simp only [T.den, D.int_i, Int.ofNat_eq_natCast] at hn; omega
            subst hnn
            have hlv := repL_length hv1
            rw [Nat.add_mul] at hle
            have hll : ((xs.drop (r + oo * st)).take (nn * st)).length = nn * st := by simp; omega
            refine ⟨by rw [b2, hll], ⟨fun hne => ?_, ?_⟩, fun i z hz => ?_⟩
            · rw [List.length_take, b1, hll]
              by_cases h0 : nn * st = 0
              · exfalso
                apply hne
                have : ks' = [] := List.length_eq_zero_iff.mp (by omega)
                rw [this]; simp
              · have : 1 ≤ nn := Nat.pos_of_ne_zero (fun e => h0 (by rw [e]; simp))
                have := Nat.mul_le_mul_right st this
                omega
            · by_cases h0 : ks'.take st = []
              · by_cases h1 : st = 0
                · exact .inr (.inl h1)
                · have hk0 : ks' = [] := by
                    cases ks' with
                    | nil => rfl
                    | cons k ks' =>
                      cases st with
                      | zero => exact absurd rfl h1
                      | succ st => simp at h0
                  exact .inr (.inr (List.length_eq_zero_iff.mp (by rw [b2, ← b1, hk0]; rfl)))
              · exact .inl h0
            · have := a2 i z hz
              rw [List.getElem?_take] at this
              split at this
              · rw [List.getElem?_drop] at this
                have := hv2 _ _ this
                simp only [T.den, D.int_i, Int.ofNat_eq_natCast, Int.toNat_natCast]
                rw [show pl.o + (r + oo * st) + i = pl.o + (r + oo * st + i) by omega]
                exact this
              · cases this
          · cases h
        · cases h
      · cases h
    · cases h
/-- The values of a row of kinds. -/
def rowV (ks : List IntKind) (l : List Int) : List Value := (List.range l.length).map fun i => .int (ks.getD (i % ks.length) .u8) (l.getD i 0)
theorem rowV_length (ks : List IntKind) (l : List Int) : (rowV ks l).length = l.length := by simp [rowV]
theorem rowV_get (ks : List IntKind) (l : List Int) (i : Nat) (z : Int) (h : l[i]? = some z) : (rowV ks l)[i]? = some (.int (ks.getD (i % ks.length) .u8) z) := by
  have hlt := (List.getElem?_eq_some_iff.1 h).1
  simp only [rowV, List.getElem?_map, List.getElem?_range hlt, Option.map_some, List.getD_eq_getElem?_getD, h, Option.getD_some]
theorem rowV_one (ks : List IntKind) (l : List Int) : ∀ v ∈ rowV ks l, v.oneCell' = true := by
  intro v hv
  simp only [rowV, List.mem_map] at hv
  obtain ⟨i, _, rfl⟩ := hv
  rfl
theorem Holds.range {b o : Nat} {ks : List IntKind} {l : List Int} (h : Holds w b o ks l) : w.rangeAt b o (rowV ks l) := by
  intro j v hv
  have hlt := (List.getElem?_eq_some_iff.1 hv).1
  rw [rowV_length] at hlt
  have hz : l[j]? = some l[j] := List.getElem?_eq_getElem hlt
  rw [rowV_get ks l j _ hz] at hv
  injection hv with hv
  subst hv
  exact h j _ hz
theorem srcT_ok {st : Nat} {x : V} {xv : Value} {kx : List IntKind} {lx n : T} {tx e' : TypeId} (h : (srcT st bs x).val (T.den Φ ρ) = some (kx, lx, n)) (hx : x.rep (T.den Φ ρ) β xv) (hm : memRep (T.den Φ ρ) β w (look bs)) (hst : 0 < st) (hk : P.underlying tx = some (.slice e')) :
    ∃ m : Nat, (n.den Φ ρ).int = m ∧ Src P st tx xv m (rowV kx (lx.den Φ ρ).list) w ∧ (lx.den Φ ρ).list.length = m * st ∧ ((kx ≠ [] → kx.length = st) ∧ (kx ≠ [] ∨ (lx.den Φ ρ).list = [])) ∧ (∃ a c, xv = .slice a m c) ∧
      ∀ q, q ≤ m → (Builtin.firstCells st q xv).run P w = .ok ((rowV kx (lx.den Φ ρ).list).take (q * st)).toArray w := by
  have zero : ∀ (a : Option Addr) (l c : Nat) (vs : List Value), (Builtin.firstCells st 0 (.slice a l c)).run P w = .ok (vs.take (0 * st)).toArray w := by
    intro a l c vs
    rw [Nat.zero_mul, List.take_zero]
    cases a with
    | none => exact run_firstCells_none w _ _ _ _
    | some a => exact run_firstCells_some w st 0 a l c [] (by simp) (fun j v h => by simp at h)
  unfold srcT at h
  split at h
  · rename_i j st' r o len
    split at h
    · rename_i hs
      have hs := Nat.eq_of_beq_eq_true hs
      subst hs
      split at h
      · rename_i mb hj
        obtain ⟨⟨ks, l⟩, hsl, h⟩ := O.bind_some h
        simp only [O.val] at h
        injection h with h
        injection h with e1 e2
        injection e2 with e2 e3
        subst e1 e2 e3
        simp only [V.rep, W.rep, C.rep] at hx
        obtain ⟨pl, hpl, a, m, c, rfl, hl, hlc, ho, hfit, ha⟩ := hx
        obtain ⟨pl', hpl', hrep⟩ := hm.1 j mb hj
        rw [hpl] at hpl'
        injection hpl' with hpl'
        subst hpl'
        obtain ⟨q1, q2, q3⟩ := sliceT_ok hsl hrep.1 ho hl
        have hlen : (rowV ks (l.den Φ ρ).list).length = m * st := by rw [rowV_length]; exact q1
        refine ⟨m, hl.symm, ?_, q1, ⟨q2.1, q2.2.imp id (fun q => q.resolve_left (by omega))⟩, ⟨_, _, rfl⟩, fun q hq => ?_⟩
        · by_cases hc : 0 < c
          · rw [ha hc]
            exact Src.ofSlice w hk _ m c _ hlen (fun i u hu => by rw [Addr.add_mid]; exact q3.range i u hu) (rowV_one _ _)
          · have hm0 : m = 0 := by omega
            subst hm0
            have hnil : rowV ks (l.den Φ ρ).list = [] := List.length_eq_zero_iff.mp (by rw [hlen]; simp)
            rw [hnil]
            cases a with
            | none => exact Src.ofNil w hk c
            | some a => exact Src.ofSlice w hk a 0 c [] (by simp) (fun i u hu => by simp at hu) (fun u hu => by cases hu)
        · by_cases hc : 0 < c
          · rw [ha hc]
            refine run_firstCells_some w st q _ m c _ (by rw [List.length_take, hlen]; exact Nat.min_eq_left (Nat.mul_le_mul_right _ hq)) (fun p u hp => ?_)
            rw [List.getElem?_take] at hp
            split at hp
            · rw [Addr.add_mid]; exact q3.range p u hp
            · cases hp
          · have : q = 0 := by omega
            subst this
            exact zero _ _ _ _
      · cases h
    · cases h
  · simp only [O.val] at h
    injection h with h
    injection h with e1 e2
    injection e2 with e2 e3
    subst e1 e2 e3
    simp only [V.rep, W.rep, C.rep] at hx
    subst hx
    exact ⟨0, rfl, Src.ofNil w hk 0, by simp [T.den], ⟨fun h => absurd rfl h, .inr rfl⟩, ⟨_, _, rfl⟩, fun q hq => by (have : q = 0 := (by omega)); subst this; exact zero _ _ _ _⟩
  · simp only [O.val] at h
    injection h with h
    injection h with e1 e2
    injection e2 with e2 e3
    subst e1 e2 e3
    simp only [V.rep, W.rep, C.rep] at hx
    obtain ⟨a, rfl⟩ := hx
    refine ⟨0, rfl, ?_, by simp [T.den], ⟨fun h => absurd rfl h, .inr rfl⟩, ⟨_, _, rfl⟩, fun q hq => by (have : q = 0 := (by omega)); subst this; exact zero _ _ _ _⟩
    cases a with
    | none => exact Src.ofNil w hk 0
    | some a => exact Src.ofSlice w hk a 0 0 [] (by simp) (fun i u hu => by simp at hu) (fun u hu => by cases hu)
  · cases h
theorem kindsOk_row {ks kx : List IntKind} {l : List Int} (h : kindsOk ks kx = true) (hl : kx ≠ [] ∨ l = []) : rowV kx l = rowV ks l := by
  unfold kindsOk at h
  split at h
  · rcases hl with hl | rfl
    · exact absurd rfl hl
    · rfl
  · rw [kbeqL_eq h]
theorem rowV_append {ks : List IntKind} {a b : List Int} {m : Nat} (hm : a.length = m * ks.length) : rowV ks (a ++ b) = rowV ks a ++ rowV ks b := by
  apply List.ext_getElem?
  intro i
  by_cases hi : i < (a ++ b).length
  · have hz := List.getElem?_eq_getElem hi
    rw [rowV_get ks _ i _ hz]
    by_cases ha : i < a.length
    · rw [List.getElem?_append_left (by rw [rowV_length]; exact ha)]
      rw [List.getElem?_append_left ha] at hz
      rw [rowV_get ks a i _ hz]
    · rw [List.getElem?_append_right (by rw [rowV_length]; omega), rowV_length]
      rw [List.getElem?_append_right (by omega)] at hz
      rw [rowV_get ks b _ _ hz]
      congr 3
      rw [hm]
      rw [show i = (i - m * ks.length) + m * ks.length by omega, Nat.add_mul_mod_self_right, Nat.add_sub_cancel]
  · rw [List.getElem?_eq_none (by rw [rowV_length]; omega), List.getElem?_eq_none (by simp [rowV_length] at hi ⊢; omega)]
theorem elemK_ok {e : TypeId} {i : TypeInfo} {ks : List IntKind} (hi : P.info? e = some i) (h : elemK P e = some ks) : ks ≠ [] ∧ ∃ z, i.zero = some z ∧ z.cells.size = ks.length := by
  unfold elemK at h
  split at h
  · rename_i cs hcs
    split at h
    · rename_i k ks' l hints
      injection h with h
      subst h
      obtain ⟨i', z, hi', hz, hr⟩ := zeroC_ok (Φ := fun _ _ _ _ => .i 0) (ρ := fun _ => .i 0) (β := fun _ => none) hcs
      rw [hi] at hi'
      injection hi' with hi'
      subst hi'
      obtain ⟨a, _, _⟩ := intsT_ok hints hr
      have := repL_length hr
      exact ⟨by simp, z, hz, by simp at this; omega⟩
    · cases h
  · cases h
/-- A block more that is given up. -/
theorem StepR.kill {E : Ev} {bs : Nat → Option MB} {β β' : Map} {w w' : World} {nb nb' : Nat} {eff : List (Nat × Option MB)} {j : Nat} {m : MB} (h : StepR E bs β w nb eff nb' β' w') (hj : bs j = some m) (hrw : m.rw = true) (hno : hasK eff j = false) (hold : ¬ isNew nb nb' j) :
    StepR E bs β w nb (eff ++ [(j, none)]) nb' β' w' where
  ge := h.ge
  le := h.le
  old := h.old
  os := h.os
  tape := h.tape
  output := h.output
  size := h.size
  kept := fun b hb hc => h.kept b hb (fun k pk hk hn hp hs => hc k pk (by rw [hasK_append, hk]; rfl) hn hp hs)
  mem := fun i mi hi => by
    rw [lookM_append] at hi
    split at hi
    · exact h.mem i mi hi
    · simp only [lookM] at hi
      split at hi <;> cases hi
  wr := fun i hi hn => by
    rw [hasK_append, Bool.or_eq_true] at hi
    rcases hi with hi | hi
    · exact h.wr i hi hn
    · simp only [hasK, Bool.or_false] at hi
      have e := Nat.eq_of_beq_eq_true hi
      subst e
      exact ⟨m, hj, hrw⟩
  new := fun i pl hn hi hs => by
    obtain ⟨h1, h2⟩ := h.new i pl hn hi hs
    refine ⟨h1, h2.imp id ?_⟩
    rintro ⟨k, pk, hk, hkl, hrest⟩
    refine ⟨k, pk, by rw [hasK_append, hk]; rfl, by rw [lookM_append, if_pos hk]; exact hkl, hrest⟩
  excl := fun i i' m1 m2 pl pl' hne hn hn' h1 h2 => by
    have live : ∀ i mi, lookM (eff ++ [(j, none)]) i = some mi → lookM eff i = some mi := by
      intro i mi hl
      rw [lookM_append] at hl
      split at hl
      · exact hl
      · simp only [lookM] at hl
        split at hl <;> cases hl
    exact h.excl i i' m1 m2 pl pl' hne hn hn' (live i m1 h1) (live i' m2 h2)
theorem StepR.phantom {E : Ev} {bs : Nat → Option MB} {β : Map} {w : World} {nb : Nat} {k : Blk} (hfree : β nb = none) (hk : k.rep E (β.with nb ⟨0, 0, 0⟩) w ⟨0, 0, 0⟩) :
    StepR E bs β w nb [(nb, some ⟨true, k⟩)] (nb + 1) (β.with nb ⟨0, 0, 0⟩) w where
  ge := by omega
  le := Map.le_with hfree
  old := fun j h => Map.with_other β _ (fun e => h (isNew_one.mpr e))
  os := rfl
  tape := rfl
  output := rfl
  size := Nat.le_refl _
  kept := fun _ _ _ => rfl
  mem := fun j m h => by
    simp only [lookM] at h
    split at h
    · rename_i e
      have e := Nat.eq_of_beq_eq_true e
      subst e
      injection h with h
      subst h
      exact ⟨_, Map.with_self β nb _, hk, fun _ => .inl rfl⟩
    · cases h
  wr := fun j h hn => by
    simp only [hasK, Bool.or_false] at h
    exact absurd (isNew_one.mpr (Nat.eq_of_beq_eq_true h).symm) hn
  new := fun j pl h hj hs => by
    have e := isNew_one.mp h
    subst e
    rw [Map.with_self] at hj
    injection hj with hj
    subst hj
    exact absurd rfl hs
  excl := fun j j' m m' pl pl' hne h h' => by
    have := isNew_one.mp h
    have := isNew_one.mp h'
    omega
/-- What is appended goes into the room behind: the new name lies where the old one lay. -/
theorem StepR.room {E : Ev} {bs : Nat → Option MB} {β : Map} {w : World} {nb : Nat} {k : Blk} {j : Nat} {m : MB} {pl : Place} {vs : List Value} {off : Nat} (hfree : β nb = none) (hj : bs j = some m) (hrw : m.rw = true) (hpl : β j = some pl) (hne : j ≠ nb) (hown : ownRep w pl) (hheap : pl.sz ≠ 0 → pl.b < w.heap.size) (hfit : vs.length ≠ 0 → pl.sz ≠ 0)
    (hk : k.rep E (β.with nb pl) (w.setCells pl.b off vs) pl) : StepR E bs β w nb [(nb, some ⟨true, k⟩), (j, none)] (nb + 1) (β.with nb pl) (w.setCells pl.b off vs) where
  ge := by omega
  le := Map.le_with hfree
  old := fun j h => Map.with_other β _ (fun e => h (isNew_one.mpr e))
  os := (setCells_os _ _ _ _).1
  tape := (setCells_os _ _ _ _).2.1
  output := (setCells_os _ _ _ _).2.2
  size := by rw [setCells_size]; exact Nat.le_refl _
  kept := fun b hb h => by
    by_cases hv : vs.length = 0
    · have : vs = [] := List.length_eq_zero_iff.mp hv
      rw [this]; rfl
    · exact setCells_heap _ _ _ _ _ (h j pl (by simp [hasK]) (fun h => hne (isNew_one.mp h)) hpl (hfit hv))
  mem := fun i m' h => by
    simp only [lookM] at h
    split at h
    · rename_i e
      have e := Nat.eq_of_beq_eq_true e
      subst e
      injection h with h
      subst h
      refine ⟨pl, Map.with_self _ _ _, hk, fun _ => ?_⟩
      rcases hown with h0 | ⟨ho, arr, ty, ha, hs⟩
      · exact .inl h0
      · obtain ⟨arr', h1, h2⟩ := setCells_own pl.b vs off ha
        exact .inr ⟨ho, arr', ty, h2, by omega⟩
    · split at h <;> cases h
  wr := fun i h hn => by
    simp only [hasK, Bool.or_false, Bool.or_eq_true] at h
    rcases h with h | h
    · exact absurd (isNew_one.mpr (Nat.eq_of_beq_eq_true h).symm) hn
    · have e := Nat.eq_of_beq_eq_true h
      subst e
      exact ⟨m, hj, hrw⟩
  new := fun i p h hi hs => by
    have e := isNew_one.mp h
    subst e
    rw [Map.with_self] at hi
    injection hi with hi
    subst hi
    refine ⟨by rw [setCells_size]; exact hheap hs, .inr ⟨j, pl, by simp [hasK], ?_, fun h => hne (isNew_one.mp h), hpl, hs, rfl⟩⟩
    simp only [lookM]
    rw [if_neg (fun e => hne (Nat.eq_of_beq_eq_true e).symm), if_pos (Nat.beq_refl _)]
  excl := fun j j' m m' pl pl' hne h h' => by
    have := isNew_one.mp h
    have := isNew_one.mp h'
    omega
/-- An append that makes a new row. -/
theorem grow_ok {t tx e ty : TypeId} {i : TypeInfo} {z xv : Value} {ks : List IntKind} {l1 l2 : T} {base : Option Addr} {sLen sCap m : Nat} {n : T} (hu : P.underlying t = some (.slice e)) (hi : P.info? e = some i) (hz : i.zero = some z) (hzs : z.cells.size = ks.length) (hks : ks ≠ []) (hsz : ks.length = i.size) (hby : 1 ≤ i.bytes)
    (hold : (Builtin.firstCells i.size sLen (.slice base sLen sCap)).run P w.drew = .ok (rowV ks (l1.den Φ ρ).list).toArray w.drew) (hl1 : (l1.den Φ ρ).list.length = sLen * i.size) (hs : Src P i.size tx xv m (rowV ks (l2.den Φ ρ).list) w) (hl2 : (l2.den Φ ρ).list.length = m * i.size)
    (hg : sCap < sLen + m) (hroom : (sLen + m) * i.bytes ≤ 140737488355328) (hn : (n.den Φ ρ).int = ((sLen + m : Nat) : Int)) (hfree : β nb = none) :
    ∃ v w' β', (Builtin.append_ #[t, tx] ty #[.slice base sLen sCap, xv]).run P w = .ok v w' ∧ (V.c (.s nb i.size 0 (.num 0) n)).rep (T.den Φ ρ) β' v ∧ StepR (T.den Φ ρ) (look bs) β w nb [(nb, some ⟨true, .row ks (mkApp l1 l2)⟩)] (nb + 1) β' w' := by
  have h63 : ((sLen + m : Nat) : Int) ≤ 9223372036854775807 := by
    have : sLen + m ≤ (sLen + m) * i.bytes := Nat.le_mul_of_pos_right _ hby
    omega
  have hrun := run_append_grow_src (P := P) w t tx ty e i z hu hi hz base sLen sCap (rowV ks (l1.den Φ ρ).list) hold xv m (rowV ks (l2.den Φ ρ).list) hs hg h63 (growslice_fits hg hroom)
  have hge := grownCap_ge w (sLen + m) sCap e
  have hk0 : 0 < ks.length := List.length_pos_iff.mpr hks
  have hden : ((mkApp l1 l2).den Φ ρ).list = (l1.den Φ ρ).list ++ (l2.den Φ ρ).list := den_app Φ ρ l1 l2
  have hrows : rowV ks ((l1.den Φ ρ).list ++ (l2.den Φ ρ).list) = rowV ks (l1.den Φ ρ).list ++ rowV ks (l2.den Φ ρ).list := rowV_append (m := sLen) (by rw [hl1, hsz])
  have hasz : ((rowV ks (l1.den Φ ρ).list ++ rowV ks (l2.den Φ ρ).list).toArray ++ Builtin.zeroCells z.cells (grownCap w (sLen + m) sCap e - (sLen + m))).size = grownCap w (sLen + m) sCap e * i.size := by
    simp only [Array.size_append, List.size_toArray, List.length_append, rowV_length, Builtin.zeroCells, Array.size_map, Array.size_range, hl1, hl2, hzs, hsz]
    rw [← Nat.add_mul, ← Nat.add_mul]
    congr 1
    omega
  refine ⟨_, _, β.with nb ⟨w.heap.size, 0, grownCap w (sLen + m) sCap e * i.size⟩, hrun, ⟨_, Map.with_self _ _ _, _, _, _, rfl, hn.symm, hge, by simp [T.den], by simp [T.den], fun _ => by simp [T.den]⟩, ?_⟩
  have := StepR.alloc (E := T.den Φ ρ) (bs := look bs) (β := β) (w := w) (w1 := w.drew) (nb := nb) (arr := ((rowV ks (l1.den Φ ρ).list ++ rowV ks (l2.den Φ ρ).list).toArray ++ Builtin.zeroCells z.cells (grownCap w (sLen + m) sCap e - (sLen + m)))) (ty := e) (k := .row ks (mkApp l1 l2)) rfl rfl rfl rfl hfree
    (Blk.row_new rfl hk0 (by rw [hden, List.length_append, hl1, hl2, ← Nat.add_mul, hasz]; exact Nat.mul_le_mul_right _ hge) (fun p x hp => by
      rw [hden] at hp
      have hlt := (List.getElem?_eq_some_iff.1 hp).1
      have h1 := rowV_get ks _ p x hp
      rw [hrows] at h1
      rw [Array.getElem?_append_left (by simp only [List.size_toArray, List.length_append, rowV_length]; simpa using hlt)]
      simpa using h1))
  rw [hasz] at this
  exact this
theorem appNew_ok {t tx e ty : TypeId} {i : TypeInfo} {xv : Value} {ks kx : List IntKind} {lx n : T} {a : Option Addr} {m : Nat} (h : (appNew ks i.size i.bytes nb lx n).val (T.den Φ ρ) = some res) (hu : P.underlying t = some (.slice e)) (hi : P.info? e = some i) (hks : elemK P e = some ks) (hsz : ks.length = i.size) (hby : 1 ≤ i.bytes)
    (hkx : kindsOk ks kx = true) (hn : (n.den Φ ρ).int = m) (hs : Src P i.size tx xv m (rowV kx (lx.den Φ ρ).list) w) (hl : (lx.den Φ ρ).list.length = m * i.size) (hkl : kx ≠ [] ∨ (lx.den Φ ρ).list = []) (hfree : isNew nb res.nb nb → β nb = none) :
    Did (T.den Φ ρ) (look bs) β w nb res ((do pure (.value (← Builtin.append_ #[t, tx] ty #[.slice a 0 0, xv])) : Sem Next).run P w) := by
  unfold appNew at h
  replace h := chkT_some hEb h
  obtain ⟨hc, h⟩ := h
  replace hc := le_chk hc
  rw [den_mul, hn] at hc
  simp only [T.den, D.int_i, Int.ofNat_eq_natCast] at hc
  simp only [O.val] at h
  injection h with h
  subst h
  replace hfree := hfree ⟨Nat.le_refl _, Nat.lt_succ_self _⟩
  rw [kindsOk_row hkx hkl] at hs
  obtain ⟨hne, z, hz, hzs⟩ := elemK_ok hi hks
  by_cases hm : m = 0
  · subst hm
    have hnil : (lx.den Φ ρ).list = [] := List.length_eq_zero_iff.mp (by rw [hl]; simp)
    rw [hnil] at hs
    have hrun := run_append_nothing (P := P) w t tx ty e i hu hi a 0 0 (Nat.le_refl _) xv hs
    refine ⟨.slice a 0 0, w, β.with nb ⟨0, 0, 0⟩, .inl ?_, ⟨_, Map.with_self _ _ _, _, _, _, rfl, by rw [hn], Nat.le_refl _, by simp [T.den], by simp [T.den], fun h => absurd h (Nat.lt_irrefl 0)⟩, StepR.phantom hfree ?_⟩
    · simp only [Sem.run_bind, hrun, Result.andThen_ok, Sem.run_pure]
    · exact ⟨List.length_pos_iff.mpr hne, by rw [hnil]; exact Nat.le_refl _, fun p x hp => by rw [hnil] at hp; simp at hp⟩
  · have hold : (Builtin.firstCells i.size 0 (.slice a 0 0)).run P w.drew = .ok (rowV ks (T.den Φ ρ .nil).list).toArray w.drew := by
      cases a with
      | none => exact run_firstCells_none w.drew _ _ _ _
      | some a => exact run_firstCells_some w.drew i.size 0 a 0 0 [] (by simp) (fun j v h => by simp at h)
    obtain ⟨v, w', β', h1, h2, h3⟩ := grow_ok (bs := bs) (nb := nb) (l1 := .nil) (l2 := lx) (n := n) (ty := ty) hu hi hz hzs hne hsz hby hold (by simp [T.den]) hs hl (by omega) (by
      have : ((m * i.bytes : Nat) : Int) ≤ 140737488355328 := by simpa using hc
      rw [Nat.zero_add]
      omega) (by rw [hn, Nat.zero_add]) hfree
    refine ⟨v, w', β', .inl ?_, h2, ?_⟩
    · simp only [Sem.run_bind, h1, Result.andThen_ok, Sem.run_pure]
    · exact h3
theorem append_ok {at_ : Array TypeId} {ty : TypeId} {vs : List V} {xs : List Value} (h : (opAppend P at_ bs nb vs).val (T.den Φ ρ) = some res) (hv : repVs (T.den Φ ρ) β vs xs) (hm : memRep (T.den Φ ρ) β w (look bs)) (hb : inHeap β w) (hfree : isNew nb res.nb nb → β nb = none) :
    Did (T.den Φ ρ) (look bs) β w nb res ((do pure (.value (← Builtin.append_ at_ ty xs.toArray)) : Sem Next).run P w) := by
  unfold opAppend at h
  split at h
  · rename_i s x
    match xs, hv with
    | [sv, xv], hv =>
      have hs := hv.1
      have hx := hv.2.1
      split at h
      · rename_i t tx hat
        have hat' : at_ = #[t, tx] := by rw [← Array.toArray_toList (xs := at_), hat]
        subst hat'
        split at h
        · rename_i e e' hu hux
          split at h
          · rename_i i ks hi hks
            split at h
            · rename_i hcond
              simp only [Bool.and_eq_true] at hcond
              have hsz := Nat.eq_of_beq_eq_true hcond.1
              have hby := Nat.le_of_ble_eq_true hcond.2
              obtain ⟨hne, z, hz, hzs⟩ := elemK_ok hi hks
              have hst : 0 < i.size := by rw [← hsz]; exact List.length_pos_iff.mpr hne
              replace h := O.bind_some h
              obtain ⟨⟨kx, lx, n⟩, hsrc, h⟩ := h
              obtain ⟨m, hn, hsr, hl, hkk, hxv, _⟩ := srcT_ok (w := w) hsrc hx hm hst hux
              simp only at h
              split at h
              · rename_i hkx
                split at h
                · rename_i j st r o len _
                  split at h
                  · rename_i mb hj
                    split at h
                    · rename_i hcond2
                      simp only [Bool.and_eq_true, Bool.not_eq_true'] at hcond2
                      obtain ⟨⟨⟨⟨hrw, hr0⟩, ho0⟩, hst'⟩, hjn⟩ := hcond2
                      have hr0 := Nat.eq_of_beq_eq_true hr0
                      have ho0 := T.beq_eq ho0
                      have hst' := Nat.eq_of_beq_eq_true hst'
                      have hjn : j ≠ nb := fun e => by rw [e, Nat.beq_refl] at hjn; cases hjn
                      subst hr0 ho0 hst'
                      obtain ⟨⟨kd, ld⟩, hsl, h⟩ := O.bind_some h
                      simp only at h
                      split at h
                      · rename_i hkd
                        replace h := chkT_some hEb h
                        obtain ⟨hc, h⟩ := h
                        replace hc := le_chk hc
                        simp only [O.val] at h
                        injection h with h
                        subst h
                        replace hfree := hfree ⟨Nat.le_refl _, Nat.lt_succ_self _⟩
                        simp only [V.rep, W.rep, C.rep] at hs
                        obtain ⟨pl, hpl, a, sl, c, rfl, hl', hlc, ho, hfit, ha⟩ := hs
                        obtain ⟨pl', hpl', hrep⟩ := hm.1 j mb hj
                        rw [hpl] at hpl'
                        injection hpl' with hpl'
                        subst hpl'
                        obtain ⟨q1, q2, q3⟩ := sliceT_ok hsl hrep.1 (by simp [T.den]) hl'
                        have hkd2 : kd ≠ [] ∨ (ld.den Φ ρ).list = [] := q2.2.imp id (fun q => q.resolve_left (by omega))
                        have hrowd := kindsOk_row hkd hkd2
                        have hrowx := kindsOk_row hkx hkk.2
                        have hsum : ((mkAdd len n).den Φ ρ).int = ((sl + m : Nat) : Int) := by rw [den_add, ← hl', hn]; simp
                        rw [den_mul, hsum] at hc
                        simp only [T.den, D.int_i, Int.ofNat_eq_natCast] at hc ho hfit ha q3
                        have hroom : (sl + m) * i.bytes ≤ 140737488355328 := by
                          have : (((sl + m) * i.bytes : Nat) : Int) ≤ 140737488355328 := by simpa using hc
                          omega
                        rw [hrowx] at hsr
                        have hdr := q3.range
                        rw [hrowd] at hdr
                        simp only [Int.toNat_zero, Nat.zero_mul, Nat.zero_add, Nat.add_zero] at hdr hfit ha
                        have hown := hrep.2 hrw
                        by_cases hg : sl + m ≤ c
                        · -- there is room
                          have hrun : (Builtin.append_ #[t, tx] ty #[.slice a sl c, xv]).run P w = .ok (.slice a (sl + m) c) (w.setCells pl.b (pl.o + sl * i.size) (rowV ks (lx.den Φ ρ).list)) := by
                            by_cases hm0 : m = 0
                            · subst hm0
                              have hnil : (lx.den Φ ρ).list = [] := List.length_eq_zero_iff.mp (by rw [hl]; simp)
                              rw [hnil] at hsr ⊢
                              exact run_append_nothing (P := P) w t tx ty e i hu hi a sl c (by omega) xv hsr
                            · rw [ha (by omega)]
                              have hth : ∀ q, q < (rowV ks (lx.den Φ ρ).list).length → (w.cell? ⟨pl.b, pl.o + sl * i.size + q, none⟩).isSome = true ∧ w.frozen? ⟨pl.b, pl.o + sl * i.size + q, none⟩ = false := by
                                intro q hq
                                rw [rowV_length, hl] at hq
                                rw [show pl.o + sl * i.size + q = pl.o + (sl * i.size + q) by omega]
                                refine own_there hown ?_
                                have := Nat.mul_le_mul_right i.size hg
                                rw [Nat.add_mul] at this
                                omega
                              exact run_append_room_src (P := P) w t tx ty e i hu hi pl.b pl.o sl c xv m _ hsr hg (fun q hq => (hth q hq).1) (fun q hq => (hth q hq).2)
                          refine ⟨.slice a (sl + m) c, w.setCells pl.b (pl.o + sl * i.size) (rowV ks (lx.den Φ ρ).list), β.with nb pl, .inl (by simp only [Sem.run_bind, hrun, Result.andThen_ok, Sem.run_pure]), ⟨pl, Map.with_self _ _ _, _, _, _, rfl, hsum.symm, hg, by simp [T.den], by simp [T.den]; exact hfit, fun hc => by simp [T.den]; exact ha hc⟩, ?_⟩
                          have hden : ((mkApp ld lx).den Φ ρ).list = (ld.den Φ ρ).list ++ (lx.den Φ ρ).list := den_app Φ ρ ld lx
                          have hle : sl * i.size + m * i.size ≤ pl.sz := by
                            have := Nat.mul_le_mul_right i.size hg
                            rw [Nat.add_mul] at this
                            omega
                          refine StepR.room hfree hj hrw hpl hjn hown (fun hs => hb j pl hpl hs) (fun hv => by rw [rowV_length, hl] at hv; omega) ⟨List.length_pos_iff.mpr hne, by rw [hden, List.length_append, q1, hl]; exact hle, fun p y hp => ?_⟩
                          rw [hden] at hp
                          have h1 := rowV_get ks _ p y hp
                          rw [rowV_append (m := sl) (by rw [q1, hsz])] at h1
                          by_cases hps : p < sl * i.size
                          · rw [World.cell?_setCells_out pl.b _ _ w ⟨pl.b, pl.o + p, none⟩ (fun _ _ => by simp only; omega)]
                            rw [List.getElem?_append_left (by rw [rowV_length, q1]; exact hps)] at h1
                            exact hdr p _ h1
                          · rw [List.getElem?_append_right (by rw [rowV_length, q1]; omega), rowV_length, q1] at h1
                            have hlt := (List.getElem?_eq_some_iff.1 h1).1
                            have := World.cell?_setCells_in pl.b (rowV ks (lx.den Φ ρ).list) (pl.o + sl * i.size) w (fun q hq => by
                              rw [rowV_length, hl] at hq
                              rw [show pl.o + sl * i.size + q = pl.o + (sl * i.size + q) by omega]
                              exact (own_there hown (by omega)).1) (p - sl * i.size) hlt
                            rw [show pl.o + sl * i.size + (p - sl * i.size) = pl.o + p by omega] at this
                            rw [this]
                            have h2 := List.getElem?_eq_getElem hlt
                            rw [h1] at h2
                            exact h2.symm
                        · -- it grows
                          have hold : (Builtin.firstCells i.size sl (.slice a sl c)).run P w.drew = .ok (rowV ks (ld.den Φ ρ).list).toArray w.drew := by
                            by_cases hc0 : 0 < c
                            · rw [ha hc0]
                              exact run_firstCells_some w.drew i.size sl _ sl c _ (by rw [rowV_length, q1]) (fun q u hq => by rw [Addr.add_mid]; exact hdr q u hq)
                            · have hs0 : sl = 0 := by omega
                              subst hs0
                              have hnil : (ld.den Φ ρ).list = [] := List.length_eq_zero_iff.mp (by rw [q1]; simp)
                              rw [hnil]
                              cases a with
                              | none => exact run_firstCells_none w.drew _ _ _ _
                              | some a => exact run_firstCells_some w.drew i.size 0 a 0 c [] (by simp) (fun j v h => by simp at h)
                          obtain ⟨v, w', β', h1, h2, h3⟩ := grow_ok (bs := bs) (nb := nb) (l1 := ld) (l2 := lx) (n := mkAdd len n) (ty := ty) hu hi hz hzs hne hsz hby hold q1 hsr hl (by omega) hroom hsum hfree
                          refine ⟨v, w', β', .inl (by simp only [Sem.run_bind, h1, Result.andThen_ok, Sem.run_pure]), h2, ?_⟩
                          have := StepR.kill h3 hj hrw (by simp only [hasK, Bool.or_false]; cases hq : Nat.beq nb j with | false => rfl | true => exact absurd (Nat.eq_of_beq_eq_true hq).symm hjn) (fun h => hjn (isNew_one.mp h))
                          exact this
                      · cases h
                    · cases h
                  · cases h
                · simp only [V.rep, W.rep, C.rep] at hs
                  subst hs
                  exact appNew_ok h hu hi hks hsz hby hkx hn hsr hl hkk.2 hfree
                · simp only [V.rep, W.rep, C.rep] at hs
                  obtain ⟨a, rfl⟩ := hs
                  exact appNew_ok h hu hi hks hsz hby hkx hn hsr hl hkk.2 hfree
                · cases h
              · cases h
            · cases h
          · cases h
        · cases h
      · cases h
  · cases h
theorem splL_get {l s : List Int} {i p : Nat} (h : i + s.length ≤ l.length) : (splL l (i : Int) s)[p]? = if p < i then l[p]? else if p < i + s.length then s[p - i]? else l[p]? := by
  have := putL_get (xs := l) (ys := s) (off := i) (i := p) h
  unfold putL at this
  unfold splL
  rw [Int.toNat_natCast, List.append_assoc]
  exact this
theorem splL_length {l s : List Int} {i : Nat} (h : i + s.length ≤ l.length) : (splL l (i : Int) s).length = l.length := by
  have := putL_length (xs := l) (ys := s) (off := i) h
  unfold putL at this
  unfold splL
  rw [Int.toNat_natCast, List.append_assoc]
  exact this
theorem copy_ok {at_ : Array TypeId} {ty : TypeId} {vs : List V} {xs : List Value} (h : (opCopy P at_ bs nb vs).val (T.den Φ ρ) = some res) (hv : repVs (T.den Φ ρ) β vs xs) (hm : memRep (T.den Φ ρ) β w (look bs)) :
    Did (T.den Φ ρ) (look bs) β w nb res ((do pure (.value (← Builtin.copy_ at_ ty xs.toArray)) : Sem Next).run P w) := by
  unfold opCopy at h
  split at h
  · rename_i d x
    match xs, hv with
    | [dv, xv], hv =>
      have hd := hv.1
      have hx := hv.2.1
      split at h
      · cases h
      · rename_i t hat
        split at h
        · rename_i e hu
          split at h
          · cases h
          · rename_i sz hsz
            split at h
            · rename_i j st r o len _
              split at h
              · cases h
              · rename_i mb hj
                replace h := O.bind_some h
                obtain ⟨⟨kx, lx, n⟩, hsrc, h⟩ := h
                simp only at h
                split at h
                · rename_i ks l
                  split at h
                  · rename_i hcond
                    simp only [Bool.and_eq_true] at hcond
                    obtain ⟨⟨⟨hk1, hs1⟩, hz1⟩, hkk⟩ := hcond
                    have hk1 := Nat.eq_of_beq_eq_true hk1
                    have hs1 := Nat.eq_of_beq_eq_true hs1
                    have hz1 := Nat.eq_of_beq_eq_true hz1
                    subst hs1 hz1
                    obtain ⟨m, hn, hsr, hl, hkl, ⟨xa, xc, rfl⟩, hpre⟩ := srcT_ok (w := w) (tx := t) hsrc hx hm (by omega) hu
                    rw [kindsOk_row hkk hkl.2] at hsr
                    simp only [V.rep, W.rep, C.rep] at hd
                    obtain ⟨pl, hpl, a, dl, c, rfl, hdl, hdc, ho, hfit, ha⟩ := hd
                    obtain ⟨pl', hpl', hrep⟩ := hm.1 j _ hj
                    rw [hpl] at hpl'
                    injection hpl' with hpl'
                    subst hpl'
                    obtain ⟨oo, hoo⟩ := Int.eq_ofNat_of_zero_le ho
                    have hown := hrep.2 rfl
                    rw [hoo] at hfit ha
                    simp only [Int.toNat_natCast] at hfit ha
                    -- q cells are copied: the first q of the source
                    have key : ∀ (q : Nat) (s : T), (s.den Φ ρ).list = (lx.den Φ ρ).list.take q → q = Nat.min m dl → oo + r + q ≤ (l.den Φ ρ).list.length →
                        ∃ w', (Builtin.copy_ at_ ty #[.slice a dl c, .slice xa m xc]).run P w = .ok (.int .i64 q) w' ∧ StepR (T.den Φ ρ) (look bs) β w nb [(j, some ⟨true, .row ks (mkSpl l (mkAdd o (.num (.ofNat r))) s)⟩)] nb β w' := by
                      intro q s hs hq hle
                      have hqm : q ≤ m := by rw [hq]; exact Nat.min_le_left _ _
                      have hqd : q ≤ dl := by rw [hq]; exact Nat.min_le_right _ _
                      have hlx : (lx.den Φ ρ).list.length = m := by rw [hl]; omega
                      have hcs : (Builtin.firstCells 1 q (.slice xa m xc)).run P w = .ok (rowV ks ((lx.den Φ ρ).list.take q)).toArray w := by
                        have hrt : rowV ks ((lx.den Φ ρ).list.take q) = (rowV ks (lx.den Φ ρ).list).take q := by
                          apply List.ext_getElem?
                          intro p
                          rw [List.getElem?_take]
                          split
                          · by_cases hp : p < (lx.den Φ ρ).list.length
                            · have hz := List.getElem?_eq_getElem hp
                              rw [rowV_get ks _ p _ hz]
                              exact rowV_get ks _ p _ (by rw [List.getElem?_take, if_pos (by assumption)]; exact hz)
                            · rw [List.getElem?_eq_none (by rw [rowV_length]; simp; omega), List.getElem?_eq_none (by rw [rowV_length]; omega)]
                          · exact List.getElem?_eq_none (by rw [rowV_length]; simp; omega)
                        have := hpre q hqm
                        rw [kindsOk_row hkk hkl.2, Nat.mul_one, ← hrt] at this
                        exact this
                      have hvl : (rowV ks ((lx.den Φ ρ).list.take q)).length = q := by rw [rowV_length, List.length_take]; omega
                      have hsl : (s.den Φ ρ).list.length = q := by rw [hs, List.length_take]; omega
                      have hzle : r + oo + q ≤ pl.sz := by
                        have := hrep.1.2.1
                        omega
                      have hden : ((mkSpl l (mkAdd o (.num (.ofNat r))) s).den Φ ρ).list = splL (l.den Φ ρ).list ((oo + r : Nat) : Int) (s.den Φ ρ).list := by
                        rw [den_spl, den_add, hoo]
                        congr 1
                      refine ⟨w.setCells pl.b (pl.o + (r + oo)) (rowV ks ((lx.den Φ ρ).list.take q)), ?_, StepR.write (off := pl.o + (r + oo)) hj rfl hpl hown (fun hne => by rw [hvl] at hne; omega) ⟨hrep.1.1, by rw [hden, splL_length (by rw [hsl]; exact hle)]; exact hrep.1.2.1, fun p y hp => ?_⟩⟩
                      · have hst := run_storeCells_cells (P := P) pl.b (pl.o + (r + oo)) (rowV ks ((lx.den Φ ρ).list.take q)) 0 w (fun p hp => by
                            rw [hvl] at hp
                            have := (own_there hown (i := r + oo + p) (by omega)).1
                            rw [show pl.o + (r + oo + p) = pl.o + (r + oo) + 0 + p by omega] at this
                            exact this) (fun p hp => by
                            rw [hvl] at hp
                            have := (own_there hown (i := r + oo + p) (by omega)).2
                            rw [show pl.o + (r + oo + p) = pl.o + (r + oo) + 0 + p by omega] at this
                            exact this) (rowV_one _ _)
                        simp only [Nat.add_zero] at hst
                        have hat' : (#[Value.slice a dl c, Value.slice xa m xc])[0]? = some (.slice a dl c) := rfl
                        simp only [Builtin.copy_, hat, Sem.run_bind, Sem.run_pure, Result.andThen_ok, run_underlying hu w, Builtin.lenOf, sizeT_ok hsz w, List.getElem?_toArray, List.getElem?_cons_zero, List.getElem?_cons_succ]
                        rw [show Nat.min m dl = q from hq.symm, hcs]
                        simp only [Result.andThen_ok]
                        by_cases hc0 : 0 < c
                        · rw [ha hc0]
                          simp only [Sem.run_bind, Nat.mul_one]
                          have e0 : (⟨pl.b, pl.o + (r + oo * 1), none⟩ : Addr) = ⟨pl.b, pl.o + (r + oo), none⟩ := by rw [Nat.mul_one]
                          try rw [e0]
                          rw [hst]
                          rfl
                        · have hq0 : q = 0 := by omega
                          have hnil : rowV ks ((lx.den Φ ρ).list.take q) = [] := List.length_eq_zero_iff.mp (by rw [hvl]; exact hq0)
                          rw [hnil, hq0]
                          cases a <;> simp [storeCells, World.setCells, goInt]
                      · rw [hden, splL_get (by rw [hsl]; exact hle), hsl] at hp
                        split at hp
                        · rw [World.cell?_setCells_out pl.b _ _ w ⟨pl.b, pl.o + p, none⟩ (fun _ _ => by simp only; omega)]
                          exact hrep.1.2.2 p y hp
                        · split at hp
                          · rw [hs] at hp
                            have h1 := rowV_get ks _ _ y hp
                            have hlt := (List.getElem?_eq_some_iff.1 h1).1
                            have := World.cell?_setCells_in pl.b (rowV ks ((lx.den Φ ρ).list.take q)) (pl.o + (r + oo)) w (fun p hp => by
                              rw [hvl] at hp
                              have := (own_there hown (i := r + oo + p) (by omega)).1
                              rw [show pl.o + (r + oo + p) = pl.o + (r + oo) + p by omega] at this
                              exact this) (p - (oo + r)) hlt
                            rw [show pl.o + (r + oo) + (p - (oo + r)) = pl.o + p by omega] at this
                            rw [this]
                            have h2 := List.getElem?_eq_getElem hlt
                            rw [h1] at h2
                            rw [← h2, hk1, Nat.mod_one, Nat.mod_one]
                          · rw [World.cell?_setCells_out pl.b _ _ w ⟨pl.b, pl.o + p, none⟩ (fun _ _ => by simp only [hvl]; omega)]
                            exact hrep.1.2.2 p y hp
                    rw [splT_val hEb, den_le, hn, ← hdl] at h
                    split at h
                    · rename_i hmd
                      have hmd : m ≤ dl := by have := of_decide_eq_true hmd; omega
                      replace h := chkT_some hEb h
                      obtain ⟨hc, h⟩ := h
                      replace hc := le_chk hc
                      rw [den_add, den_add, den_len, hoo, hn] at hc
                      simp only [T.den, D.int_i, Int.ofNat_eq_natCast] at hc
                      simp only [O.val] at h
                      injection h with h
                      subst h
                      obtain ⟨w', h1, h2⟩ := key m lx (by rw [List.take_of_length_le (by rw [hl]; omega)]) (by show m = min m dl; omega) (by omega)
                      exact ⟨.int .i64 m, w', β, .inl (by simp only [Sem.run_bind, h1, Result.andThen_ok, Sem.run_pure]), by simp only [V.c, V.rep, W.rep, C.rep, hn], h2⟩
                    · rename_i hmd
                      have hmd : dl < m := by
                        have : ¬ ((m : Int) ≤ (dl : Int)) := by simpa using hmd
                        omega
                      replace h := chkT_some hEb h
                      obtain ⟨hc, h⟩ := h
                      replace hc := le_chk hc
                      rw [den_add, den_add, den_len, hoo, ← hdl] at hc
                      simp only [T.den, D.int_i, Int.ofNat_eq_natCast] at hc
                      simp only [O.val] at h
                      injection h with h
                      subst h
                      obtain ⟨w', h1, h2⟩ := key dl (mkTake len lx) (by rw [den_take, ← hdl, Int.toNat_natCast]) (by show dl = min m dl; omega) (by omega)
                      exact ⟨.int .i64 dl, w', β, .inl (by simp only [Sem.run_bind, h1, Result.andThen_ok, Sem.run_pure]), by simp only [V.c, V.rep, W.rep, C.rep, hdl], h2⟩
                  · cases h
                · cases h
            · split at h
              · rename_i hs1
                have hs0 := Nat.le_of_ble_eq_true hs1
                replace h := O.bind_some h
                obtain ⟨⟨kx, lx, n⟩, hsrc, h⟩ := h
                rw [intR_some h]
                simp only [V.rep, W.rep, C.rep] at hd
                subst hd
                obtain ⟨m, hn, hsr, hl, hkl, ⟨xa, xc, rfl⟩, hpre⟩ := srcT_ok (w := w) (tx := t) hsrc hx hm hs0 hu
                have h0 := hpre 0 (Nat.zero_le _)
                rw [Nat.zero_mul, List.take_zero] at h0
                refine Did.int (z := 0) ?_ (by simp [T.den])
                simp only [Builtin.copy_, hat, Sem.run_bind, Sem.run_pure, Result.andThen_ok, run_underlying hu w, Builtin.lenOf, sizeT_ok hsz w, List.getElem?_toArray, List.getElem?_cons_zero, List.getElem?_cons_succ]
                rw [show Nat.min m 0 = 0 from Nat.min_zero m, h0]
                rfl
              · cases h
            · cases h
        · cases h
  · cases h
theorem rowV_zeros (k : IntKind) (n : Nat) : rowV [k] (List.replicate n 0) = List.replicate n (.int k 0) := by
  apply List.ext_getElem?
  intro i
  by_cases hi : i < n
  · rw [rowV_get [k] _ i 0 (by rw [List.getElem?_replicate, if_pos hi]), List.getElem?_replicate, if_pos hi]
    simp [Nat.mod_one]
  · rw [List.getElem?_eq_none (by rw [rowV_length]; simp; omega), List.getElem?_eq_none (by simp; omega)]
theorem zeroCells_one (v : Value) (n : Nat) : (Builtin.zeroCells #[v] n).toList = List.replicate n v := by
  apply List.ext_getElem?
  intro i
  simp only [Builtin.zeroCells, Array.toList_map, Array.toList_range, List.getElem?_map]
  by_cases hi : i < n
  · rw [List.getElem?_range (by simpa using hi), List.getElem?_replicate, if_pos hi]
    simp [Nat.mod_one]
  · rw [List.getElem?_eq_none (by simpa using hi), List.getElem?_eq_none (by simpa using hi)]; rfl
theorem clear_ok {at_ : Array TypeId} {ty : TypeId} {vs : List V} {xs : List Value} (h : (opClear P at_ bs nb vs).val (T.den Φ ρ) = some res) (hv : repVs (T.den Φ ρ) β vs xs) (hm : memRep (T.den Φ ρ) β w (look bs)) :
    Did (T.den Φ ρ) (look bs) β w nb res ((do pure (.value (← Builtin.clear_ at_ ty xs.toArray)) : Sem Next).run P w) := by
  unfold opClear at h
  split at h
  · rename_i d
    match xs, hv with
    | [dv], hv =>
      have hd := hv.1
      split at h
      · cases h
      · rename_i t hat
        split at h
        · rename_i e hu
          split at h
          · rename_i k hz
            obtain ⟨i, z, hi, hzero, hrz⟩ := zeroC_ok (Φ := Φ) (ρ := ρ) (β := β) hz
            have hzc : z.cells = #[.int k 0] := by
              rw [← Array.toArray_toList (xs := z.cells)]
              revert hrz
              cases z.cells.toList with
              | nil => exact fun h => h.elim
              | cons a l => cases l with
                | nil =>
                  intro h
                  have h1 : a = .int k 0 := h.1
                  rw [h1]
                | cons b l => exact fun h => h.2.elim
            have hat0 : (#[dv] : Array Value)[0]? = some dv := rfl
            split at h
            · rename_i j st r o len _
              split at h
              · rename_i k' l hj
                split at h
                · rename_i hcond
                  simp only [Bool.and_eq_true] at hcond
                  have hk := knum_inj (Nat.eq_of_beq_eq_true hcond.1)
                  have hs1 := Nat.eq_of_beq_eq_true hcond.2
                  subst hk hs1
                  simp only [V.rep, W.rep, C.rep] at hd
                  obtain ⟨pl, hpl, a, dl, c, rfl, hdl, hdc, ho, hfit, ha⟩ := hd
                  obtain ⟨pl', hpl', hrep⟩ := hm.1 j _ hj
                  rw [hpl] at hpl'
                  injection hpl' with hpl'
                  subst hpl'
                  obtain ⟨oo, hoo⟩ := Int.eq_ofNat_of_zero_le ho
                  have hown := hrep.2 rfl
                  rw [hoo] at hfit ha
                  simp only [Int.toNat_natCast, Nat.mul_one] at hfit ha
                  replace h := chkT_some hEb h
                  obtain ⟨hc, h⟩ := h
                  replace hc := le_chk hc
                  rw [den_add, den_add, den_len, hoo, ← hdl] at hc
                  simp only [T.den, D.int_i, Int.ofNat_eq_natCast] at hc
                  simp only [O.val] at h
                  injection h with h
                  subst h
                  have hle : oo + r + dl ≤ (l.den Φ ρ).list.length := by omega
                  have hzs : ((mkRep len (.cons (.num 0) .nil)).den Φ ρ).list = List.replicate dl 0 := by
                    rw [den_rep, ← hdl]
                    simp [T.den]
                  have hden : ((mkSpl l (mkAdd o (.num (.ofNat r))) (mkRep len (.cons (.num 0) .nil))).den Φ ρ).list = splL (l.den Φ ρ).list ((oo + r : Nat) : Int) (List.replicate dl 0) := by
                    rw [den_spl, den_add, hoo, hzs]
                    congr 1
                  have hvl : (rowV [k] (List.replicate dl 0)).length = dl := by rw [rowV_length, List.length_replicate]
                  refine ⟨.tuple #[], w.setCells pl.b (pl.o + (r + oo)) (rowV [k] (List.replicate dl 0)), β, .inl ?_, trivial, StepR.write (off := pl.o + (r + oo)) hj rfl hpl hown (fun hne => by rw [hvl] at hne; omega) ⟨hrep.1.1, by rw [hden, splL_length (by rw [List.length_replicate]; exact hle)]; exact hrep.1.2.1, fun p y hp => ?_⟩⟩
                  · by_cases hd0 : dl = 0
                    · subst hd0
                      have hnil : w.setCells pl.b (pl.o + (r + oo)) (rowV [k] (List.replicate 0 0)) = w := rfl
                      rw [hnil]
                      cases a <;> simp [Builtin.clear_, hat, run_underlying hu w]
                    · have ha' := ha (by omega)
                      subst ha'
                      have hst := run_storeCells_cells (P := P) pl.b (pl.o + (r + oo)) (rowV [k] (List.replicate dl 0)) 0 w (fun p hp => by
                            rw [hvl] at hp
                            have := (own_there hown (i := r + oo + p) (by omega)).1
                            rw [show pl.o + (r + oo + p) = pl.o + (r + oo) + 0 + p by omega] at this
                            exact this) (fun p hp => by
                            rw [hvl] at hp
                            have := (own_there hown (i := r + oo + p) (by omega)).2
                            rw [show pl.o + (r + oo + p) = pl.o + (r + oo) + 0 + p by omega] at this
                            exact this) (rowV_one _ _)
                      simp only [Nat.add_zero] at hst
                      rw [rowV_zeros] at hst ⊢
                      obtain ⟨n, rfl⟩ : ∃ n, dl = n + 1 := ⟨dl - 1, by omega⟩
                      simp only [Builtin.clear_, hat, Sem.run_bind, Sem.run_pure, Result.andThen_ok, run_underlying hu w, List.getElem?_toArray, List.getElem?_cons_zero, run_zero hi hzero w, hzc, zeroCells_one, hst]
                  · rw [hden, splL_get (by rw [List.length_replicate]; exact hle), List.length_replicate] at hp
                    split at hp
                    · rw [World.cell?_setCells_out pl.b _ _ w ⟨pl.b, pl.o + p, none⟩ (fun _ _ => by simp only; omega)]
                      exact hrep.1.2.2 p y hp
                    · split at hp
                      · have h1 := rowV_get [k] _ _ y hp
                        have hlt := (List.getElem?_eq_some_iff.1 h1).1
                        have := World.cell?_setCells_in pl.b (rowV [k] (List.replicate dl 0)) (pl.o + (r + oo)) w (fun p hp => by
                          rw [hvl] at hp
                          have := (own_there hown (i := r + oo + p) (by omega)).1
                          rw [show pl.o + (r + oo + p) = pl.o + (r + oo) + p by omega] at this
                          exact this) (p - (oo + r)) hlt
                        rw [show pl.o + (r + oo) + (p - (oo + r)) = pl.o + p by omega] at this
                        rw [this]
                        have h2 := List.getElem?_eq_getElem hlt
                        rw [h1] at h2
                        rw [← h2]
                        simp [Nat.mod_one]
                      · rw [World.cell?_setCells_out pl.b _ _ w ⟨pl.b, pl.o + p, none⟩ (fun _ _ => by simp only [hvl]; omega)]
                        exact hrep.1.2.2 p y hp
                · cases h
              · cases h
            · simp only [V.rep, W.rep, C.rep] at hd
              subst hd
              simp only [O.val] at h
              injection h with h
              subst h
              refine Did.same (v := .tuple #[]) ?_ trivial
              simp [Builtin.clear_, hat, run_underlying hu w]
            · cases h
          · cases h
        · cases h
  · cases h
theorem max_ok {isMax : Bool} {at_ : Array TypeId} {ty : TypeId} {vs : List V} {xs : List Value} (h : (opMax isMax nb vs).val (T.den Φ ρ) = some res) (hv : repVs (T.den Φ ρ) β vs xs) :
    Did (T.den Φ ρ) (look bs) β w nb res ((do pure (.value (← (if isMax then Builtin.max_ at_ ty xs.toArray else Builtin.min_ at_ ty xs.toArray))) : Sem Next).run P w) := by
  unfold opMax at h
  split at h
  · match xs, hv with
    | [xv, yv], hv =>
      have hx := hv.1
      have hy := hv.2.1
      simp only [V.rep, W.rep, C.rep] at hx hy
      subst hx hy
      split at h
      · rename_i hk
        have hk := knum_inj (Nat.eq_of_beq_eq_true hk)
        subst hk
        rw [intR_some h]
        cases isMax with
        | true =>
          refine Did.int (z := max _ _) ?_ rfl
          simp only [if_true, Builtin.max_, List.foldlM_cons, List.foldlM_nil, Builtin.max2, Sem.run_bind, Sem.run_pure, Result.andThen_ok]
          congr 3
          simp only [Int.max_def]
          split <;> split <;> first | rfl | omega
        | false =>
          refine Did.int (z := min _ _) ?_ rfl
          simp only [Bool.false_eq_true, if_false, Builtin.min_, List.foldlM_cons, List.foldlM_nil, Builtin.min2, Sem.run_bind, Sem.run_pure, Result.andThen_ok]
          congr 3
          simp only [Int.min_def]
          split <;> split <;> first | rfl | omega
      · cases h
  · cases h

/-! All operations. -/
def CallOk (P : Program) (Φ : Sig) (call : Facts → FuncId → List V → Bs → Nat → O Res) : Prop :=
  ∀ (ρ : Env) (fa : Facts), fa.hold Φ ρ → ∀ (f : FuncId) (vs : List V) (bs : Bs) (nb : Nat) (res : Res), (call fa f vs bs nb).val (T.den Φ ρ) = some res → ∀ (args : List Value) (β : Map) (w : World), repVs (T.den Φ ρ) β vs args → inHeap β w → memRep (T.den Φ ρ) β w (look bs) →
    (∀ j, isNew nb res.nb j → β j = none) → Calls P f args.toArray w fun e w' => ∃ v β', e = .returned v ∧ res.val.rep (T.den Φ ρ) β' v ∧ StepR (T.den Φ ρ) (look bs) β w nb res.eff res.nb β' w'
theorem Did.wp {o : Oper} {a : Act} {K : Act → World → Prop} {Q : Exit → Act → World → Prop} {E : Ev} (h : Did E (look bs) β w nb res ((execOp a.eval o).run P w))
    (hK : ∀ v w' β', res.val.rep E β' v → StepR E (look bs) β w nb res.eff res.nb β' w' → K (a.put o.dst v) w') : o.wp P a w K Q := by
  obtain ⟨v, w', β', hr, hv, hs⟩ := h
  unfold Oper.wp
  rcases hr with hr | ⟨hr, rfl⟩
  · rw [hr]; exact hK _ _ _ hv hs
  · rw [hr]; exact hK _ _ _ hv hs
theorem optV_ok {b : Option Operand} {vs r : List V} {o : Option V} {ev : Operand → Value} {xs : List Operand} (h : optV b.isSome vs = (o, r)) (hv : repVs (T.den Φ ρ) β vs ((b.toList ++ xs).map ev)) : optRep (T.den Φ ρ) β o (b.map ev) ∧ repVs (T.den Φ ρ) β r (xs.map ev) := by
  cases b with
  | none =>
    simp only [Option.isSome_none] at h
    have : optV false vs = (none, vs) := by unfold optV; rfl
    rw [this] at h
    injection h with h1 h2
    subst h1 h2
    exact ⟨trivial, by simpa using hv⟩
  | some x =>
    match vs, hv with
    | v :: vs, hv =>
      simp only [Option.isSome_some, optV] at h
      injection h with h1 h2
      subst h1 h2
      exact ⟨hv.1, hv.2⟩
theorem repVs_one {vs : List V} {x : Value} (h : repVs (T.den Φ ρ) β vs [x]) : ∃ v, vs = [v] ∧ v.rep (T.den Φ ρ) β x := by
  match vs, h with
  | [v], h => exact ⟨v, rfl, h.1⟩
theorem repVs_two {vs : List V} {x y : Value} (h : repVs (T.den Φ ρ) β vs [x, y]) : ∃ v y', vs = [v, y'] ∧ v.rep (T.den Φ ρ) β x ∧ y'.rep (T.den Φ ρ) β y := by
  match vs, h with
  | [v, y'], h => exact ⟨v, y', rfl, h.1, h.2.1⟩
theorem repVs_three {vs : List V} {x y z : Value} (h : repVs (T.den Φ ρ) β vs [x, y, z]) : ∃ v y' z', vs = [v, y', z'] ∧ v.rep (T.den Φ ρ) β x ∧ y'.rep (T.den Φ ρ) β y ∧ z'.rep (T.den Φ ρ) β z := by
  match vs, h with
  | [v, y', z'], h => exact ⟨v, y', z', rfl, h.1, h.2.1, h.2.2.1⟩
theorem mapArgs {α β : Type} (f : α → β) (xs : Array α) : (xs.toList.map f).toArray = xs.map f := by
  rw [← Array.toList_map]
theorem opCore_sound {X : Ctx} {vs : List V} {o : Oper} {a : Act} (hX : CallOk X.P Φ X.call) {fa : Facts} (hfa : fa.hold Φ ρ) (h : (opCore X fa o.op bs nb vs).val (T.den Φ ρ) = some res) (hv : repVs (T.den Φ ρ) β vs (o.op.operands.toList.map a.eval)) (hb : inHeap β w) (hm : memRep (T.den Φ ρ) β w (look bs))
    (hfree : ∀ j, isNew nb res.nb j → β j = none) (K : Act → World → Prop) (Q : Exit → Act → World → Prop) (hK : ∀ v w' β', res.val.rep (T.den Φ ρ) β' v → StepR (T.den Φ ρ) (look bs) β w nb res.eff res.nb β' w' → K (a.put o.dst v) w') : o.wp X.P a w K Q := by
  have hf := hfree nb
  obtain ⟨dst, op, type, pos, after, guard⟩ := o
  simp only at h hv hK
  unfold opCore at h
  split at h
  · -- move
    obtain ⟨v, e, hx⟩ := repVs_one hv
    injection e with e
    subst e
    rw [rv_some h] at hK
    refine Did.wp (bs := bs) (nb := nb) (res := ⟨_, [], nb⟩) (Did.same (v := a.eval _) ?_ hx) hK
    simp [execOp]
  · obtain ⟨v, e, hx⟩ := repVs_one hv
    injection e with e
    subst e
    rw [rv_some h] at hK
    refine Did.wp (bs := bs) (nb := nb) (res := ⟨_, [], nb⟩) (Did.same (v := a.eval _) ?_ hx) hK
    simp [execOp]
  · obtain ⟨v, u', t, e, h1, h2, h3⟩ := repVs_three hv
    injection e with e1 e
    injection e with e2 e
    injection e with e3 e
    subst e1 e2 e3
    exact Did.wp (pick_ok h h1 h2 h3) hK
  · exact Did.wp (alloc_ok h hf) hK
  · obtain ⟨v, e, hx⟩ := repVs_one hv
    injection e with e
    subst e
    exact Did.wp (box_ok h hx hf) hK
  · rename_i t ps
    refine Did.wp (build_ok (ev := a.eval) h ?_) hK
    simp only [Op.operands, List.map_map] at hv
    exact hv
  · rename_i t len ps
    refine Did.wp (buildSlice_ok (ev := a.eval) h ?_ hf) hK
    simp only [Op.operands, List.map_map] at hv
    exact hv
  · obtain ⟨v, e, hx⟩ := repVs_one hv
    injection e with e
    subst e
    obtain ⟨uv, hu, hr, hres⟩ := load_ok (w := w) h hx hm
    refine Did.wp (bs := bs) (nb := nb) (res := res) ⟨uv, w, β, .inl ?_, hr, ?_⟩ hK
    · simp [execOp, hu]
    · rw [hres]; exact StepR.pure _ _ _ _ _
  · obtain ⟨v, u', e, h1, h2⟩ := repVs_two hv
    injection e with e1 e
    injection e with e2 e
    subst e1 e2
    exact Did.wp (store_ok h h1 h2 hm) hK
  · obtain ⟨v, e, hx⟩ := repVs_one hv
    injection e with e
    subst e
    refine Did.wp (nilCheck_ok h hx (K := execOp a.eval ⟨dst, .nilCheck _, type, pos, after, guard⟩) ?_ ?_) hK
    · intro f first captured e1 e2
      simp only [execOp, e1]
      rw [e2]
    · intro ad e1
      simp only [execOp, e1]
  · obtain ⟨v, u', e, h1, h2⟩ := repVs_two hv
    injection e with e1 e
    injection e with e2 e
    subst e1 e2
    exact Did.wp (bin_ok h h1 h2 _ _) hK
  · obtain ⟨v, e, hx⟩ := repVs_one hv
    injection e with e
    subst e
    exact Did.wp (un_ok h hx) hK
  · obtain ⟨v, e, hx⟩ := repVs_one hv
    injection e with e
    subst e
    exact Did.wp (convert_ok h hx) hK
  · obtain ⟨v, e, hx⟩ := repVs_one hv
    injection e with e
    subst e
    exact Did.wp (arrayAt_ok h hx) hK
  · obtain ⟨v, u', e, h1, h2⟩ := repVs_two hv
    injection e with e1 e
    injection e with e2 e
    subst e1 e2
    exact Did.wp (makeSlice_ok h h1 h2 hf) hK
  · -- slice
    rename_i t x lo hi mx y r
    have hv' : repVs (T.den Φ ρ) β (y :: r) (a.eval x :: ((lo.toList ++ (hi.toList ++ mx.toList)).map a.eval)) := by
      have : (Op.slice t x lo hi mx).operands.toList = x :: (lo.toList ++ (hi.toList ++ mx.toList)) := by simp [Op.operands]
      rw [this] at hv
      exact hv
    rcases h1 : optV lo.isSome r with ⟨l, r1⟩
    rcases h2 : optV hi.isSome r1 with ⟨hh, r2⟩
    rcases h3 : optV mx.isSome r2 with ⟨m, r3⟩
    simp only [h1, h2, h3] at h
    obtain ⟨q1, q2⟩ := optV_ok h1 hv'.2
    obtain ⟨q3, q4⟩ := optV_ok h2 q2
    obtain ⟨q5, q6⟩ := optV_ok (xs := []) h3 (by rw [List.append_nil]; exact q4)
    exact Did.wp (slice_ok h hv'.1 q1 q3 q5 hm) hK
  · obtain ⟨v, e, hx⟩ := repVs_one hv
    injection e with e
    subst e
    exact Did.wp (fieldAddr_ok h hx) hK
  · obtain ⟨v, e, hx⟩ := repVs_one hv
    injection e with e
    subst e
    exact Did.wp (field_ok h hx) hK
  · obtain ⟨v, u', e, h1, h2⟩ := repVs_two hv
    injection e with e1 e
    injection e with e2 e
    subst e1 e2
    exact Did.wp (indexAddr_ok h h1 h2) hK
  · obtain ⟨v, u', e, h1, h2⟩ := repVs_two hv
    injection e with e1 e
    injection e with e2 e
    subst e1 e2
    exact Did.wp (index_ok h h1 h2) hK
  · obtain ⟨v, e, hx⟩ := repVs_one hv
    injection e with e
    subst e
    exact Did.wp (extract_ok h hx) hK
  · -- calls
    rename_i c
    split at h
    · rename_i f hc
      unfold opCall at h
      split at h
      · rename_i f' args
        split at h
        · rename_i hen
          have hops : (Op.call c).operands.toList = f :: c.args.toList := by simp [Op.operands, Call.operands, hc]
          rw [hops] at hv
          have hfv := hv.1
          simp only [V.rep, W.rep, C.rep] at hfv
          have hcall := hX ρ fa hfa f' args bs nb res h (c.args.toList.map a.eval) β w hv.2 hb hm hfree
          rw [mapArgs] at hcall
          have hrun : (execOp a.eval ⟨dst, .call c, type, pos, after, guard⟩).run X.P w = .ok (.enter f' (c.args.map a.eval)) w := by
            unfold enterOk at hen
            split at hen
            · rename_i fn hfn
              simp only [Bool.and_eq_true, Bool.not_eq_true'] at hen
              have hnone : fn.body.isNone = false := by
                have := hen.2
                cases hb : fn.body with
                | none => rw [hb] at this; cases this
                | some _ => rfl
              simp only [execOp, resolve, hc, hfv, Deferred.ofValue, Sem.run_bind, Sem.run_pure, Result.andThen_ok, invoke, callFunc, run_program, hfn, hen.1, hnone, Bool.false_eq_true, if_false]
              simp
            · cases hen
          unfold Oper.wp
          rw [hrun]
          refine Calls.mono hcall ?_
          rintro e w' ⟨v, β', rfl, h1, h2⟩
          exact hK v w' β' h1 h2
        · cases h
      · cases h
    · rename_i hc
      have hops : (Op.call c).operands.toList = c.args.toList := by simp [Op.operands, Call.operands, hc]
      rw [hops] at hv
      refine Did.wp (bs := bs) (nb := nb) (res := res) ?_ hK
      have := len_ok (w := w) (ty := type) (bs := bs) h hv
      rw [mapArgs] at this
      simpa [execOp, resolve, hc, invoke, builtin] using this
    · rename_i hc
      have hops : (Op.call c).operands.toList = c.args.toList := by simp [Op.operands, Call.operands, hc]
      rw [hops] at hv
      refine Did.wp (bs := bs) (nb := nb) (res := res) ?_ hK
      have := append_ok (w := w) (ty := type) h hv hm hb hf
      rw [mapArgs] at this
      simpa [execOp, resolve, hc, invoke, builtin] using this
    · rename_i hc
      have hops : (Op.call c).operands.toList = c.args.toList := by simp [Op.operands, Call.operands, hc]
      rw [hops] at hv
      refine Did.wp (bs := bs) (nb := nb) (res := res) ?_ hK
      have := copy_ok (w := w) (ty := type) h hv hm
      rw [mapArgs] at this
      simpa [execOp, resolve, hc, invoke, builtin] using this
    · rename_i hc
      have hops : (Op.call c).operands.toList = c.args.toList := by simp [Op.operands, Call.operands, hc]
      rw [hops] at hv
      refine Did.wp (bs := bs) (nb := nb) (res := res) ?_ hK
      have := clear_ok (w := w) (ty := type) h hv hm
      rw [mapArgs] at this
      simpa [execOp, resolve, hc, invoke, builtin] using this
    · rename_i hc
      have hops : (Op.call c).operands.toList = c.args.toList := by simp [Op.operands, Call.operands, hc]
      rw [hops] at hv
      refine Did.wp (bs := bs) (nb := nb) (res := res) ?_ hK
      have := max_ok (w := w) (ty := type) (at_ := c.argTypes) (bs := bs) (P := X.P) h hv
      rw [mapArgs] at this
      simpa [execOp, resolve, hc, invoke, builtin] using this
    · rename_i hc
      have hops : (Op.call c).operands.toList = c.args.toList := by simp [Op.operands, Call.operands, hc]
      rw [hops] at hv
      refine Did.wp (bs := bs) (nb := nb) (res := res) ?_ hK
      have := max_ok (w := w) (ty := type) (at_ := c.argTypes) (bs := bs) (P := X.P) h hv
      rw [mapArgs] at this
      simpa [execOp, resolve, hc, invoke, builtin] using this
    · cases h
  · cases h
end
end Go.Proofs.Ytlgiibchnnaceaa.Sx
