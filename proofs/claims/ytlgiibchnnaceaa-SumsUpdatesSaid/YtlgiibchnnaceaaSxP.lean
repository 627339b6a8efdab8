/- Sx, part 6: reading and writing cells by terms comes to what the model does. Conditions: none. -/
import Derived.Test.YtlgiibchnnaceaaSxS
set_option linter.unusedVariables false
set_option linter.unusedSimpArgs false
namespace Go.Proofs.Ytlgiibchnnaceaa.Sx
open Go Go.RowKit
section
variable {Φ : Sig} {ρ : Env} {β : Map} {w : World} {P : Program}

theorem hEb (p : Bool) : ((T.den Φ ρ) (.bol p)).bool = p := rfl
theorem constC_ok {v : Value} {c : C} (h : constC v = some c) : c.rep (T.den Φ ρ) β v := by
  unfold constC at h
  split at h <;> first | (cases h; done) | (injection h with h; subst h; rfl)
theorem constCs_ok : ∀ {vs : List Value} {cs : List C}, constCs vs = some cs → repL (T.den Φ ρ) β cs vs
  | [], cs, h => by simp [constCs] at h; subst h; trivial
  | v :: vs, cs, h => by
    simp only [constCs] at h
    split at h
    · rename_i c hc
      split at h
      · rename_i r hr
        injection h with h; subst h
        exact ⟨constC_ok hc, constCs_ok hr⟩
      · cases h
    · cases h
theorem constV_ok (v : Value) : (constV v).rep (T.den Φ ρ) β v := by
  unfold constV
  split
  · rename_i c hc
    exact constC_ok hc
  · trivial
theorem zeroC_ok {t : TypeId} {cs : List C} (h : zeroC P t = some cs) : ∃ i z, P.info? t = some i ∧ i.zero = some z ∧ repL (T.den Φ ρ) β cs z.cells.toList := by
  unfold zeroC at h
  split at h
  · rename_i i hi
    split at h
    · rename_i z hz
      exact ⟨i, z, hi, hz, constCs_ok h⟩
    · cases h
  · cases h
theorem run_zero {t : TypeId} {i : TypeInfo} {z : Value} (hi : P.info? t = some i) (hz : i.zero = some z) (w : World) : (zeroValue t).run P w = .ok z w := by
  simp [zeroValue, typeInfo, hi, hz]
theorem sizeT_ok {t n : Nat} (h : sizeT P t = some n) (w : World) : (sizeOf t).run P w = .ok n w := by
  unfold sizeT at h
  obtain ⟨i, hi, rfl⟩ := Option.map_eq_some_iff.mp h
  simp [sizeOf, typeInfo, hi]
theorem aggT_ok {t : TypeId} {b : Bool} (h : aggT P t = some b) (w : World) : (isAgg t).run P w = .ok b w := by
  unfold aggT at h
  unfold isAgg
  cases hu : P.underlying t with
  | none => rw [hu] at h; cases h
  | some d =>
    rw [hu] at h
    rw [Sem.run_bind, run_underlying hu w]
    cases d <;> (injection h with h; subst h; rfl)
theorem aggT_row {t : TypeId} (h : aggT P t = some true) : ∃ d, P.underlying t = some d ∧ d.isRow = true := by
  unfold aggT at h
  split at h
  · rename_i hu; exact ⟨_, hu, rfl⟩
  · rename_i hu; exact ⟨_, hu, rfl⟩
  · cases h
  · cases h

/-! Cells. -/
theorem cells_vals (b : Nat) : ∀ (xs : List C) (o : Nat), (∀ (i : Nat) (x : C), xs[i]? = some x → ∃ v, w.cell? ⟨b, o + i, none⟩ = some v ∧ x.rep (T.den Φ ρ) β v) →
    ∃ vs, repL (T.den Φ ρ) β xs vs ∧ w.rangeAt b o vs
  | [], o, _ => ⟨[], trivial, fun j v h => by simp at h⟩
  | x :: xs, o, h => by
    obtain ⟨v, hv, hr⟩ := h 0 x rfl
    obtain ⟨vs, h1, h2⟩ := cells_vals b xs (o + 1) (fun i y hy => by
      obtain ⟨u, hu, hr⟩ := h (i + 1) y (by simpa using hy)
      exact ⟨u, by rw [show o + 1 + i = o + (i + 1) by omega]; exact hu, hr⟩)
    refine ⟨v :: vs, ⟨hr, h1⟩, fun j u hu => ?_⟩
    cases j with
    | zero => simp at hu; subst hu; exact hv
    | succ j =>
      have := h2 j u (by simpa using hu)
      rw [show o + (j + 1) = o + 1 + j by omega]; exact this
theorem getLit_ok {xs : List C} {off n : Nat} {cs : List C} {pl : Place} (h : (getLit xs off n).val (T.den Φ ρ) = some cs) (hc : cellsRep (T.den Φ ρ) β w pl xs) :
    ∃ vs, repL (T.den Φ ρ) β cs vs ∧ cs.length = n ∧ w.rangeAt pl.b (pl.o + off) vs := by
  unfold getLit at h
  split at h
  · rename_i hle
    simp only [O.val] at h
    injection h with h
    obtain ⟨vs, h1, h2⟩ := cells_vals pl.b xs pl.o hc.2
    refine ⟨(vs.drop off).take n, by rw [← h]; exact repL_take (repL_drop h1 off) n, by rw [← h]; simp; omega, fun j v hv => ?_⟩
    rw [List.getElem?_take] at hv
    split at hv
    · rw [List.getElem?_drop] at hv
      have := h2 (off + j) v hv
      rw [show pl.o + off + j = pl.o + (off + j) by omega]; exact this
    · cases hv
  · cases h
theorem chain_ok {α : Type} {e : T} {f : Nat → O α} {a : α} : ∀ {n c : Nat}, (chain e f n c).val (T.den Φ ρ) = some a → ∃ k, c ≤ k ∧ k < c + n ∧ (e.den Φ ρ).int = k ∧ (f k).val (T.den Φ ρ) = some a
  | 0, c, h => by cases h
  | n + 1, c, h => by
    simp only [chain] at h
    rw [splT_val hEb, den_eq] at h
    split at h
    · rename_i he
      refine ⟨c, Nat.le_refl _, by omega, by simpa [T.den] using he, h⟩
    · obtain ⟨k, h1, h2, h3, h4⟩ := chain_ok h
      exact ⟨k, by omega, by omega, h3, h4⟩
theorem headI_ok {k : IntKind} {pl : Place} : ∀ {cs : List C} {off : Nat}, (∀ (i : Nat) (x : C), cs[i]? = some x → ∃ v, w.cell? ⟨pl.b, off + i, none⟩ = some v ∧ x.rep (T.den Φ ρ) β v) →
    ∀ i : Nat, i < (headI k cs).2 → w.cell? ⟨pl.b, off + i, none⟩ = some (.int k (((headI k cs).1.den Φ ρ).list.getD i 0))
  | [], off, _, i, h => by simp [headI] at h
  | .i j t :: cs, off, hc, i, h => by
    simp only [headI] at h ⊢
    split at h
    · rename_i hk
      rw [if_pos hk]
      have hk := knum_inj (Nat.eq_of_beq_eq_true hk)
      subst hk
      cases i with
      | zero =>
        obtain ⟨v, hv, hr⟩ := hc 0 _ rfl
        simp only [C.rep] at hr
        subst hr
        simpa [T.den] using hv
      | succ i =>
        have := headI_ok (k := j) (cs := cs) (off := off + 1) (fun i x hx => by
          obtain ⟨v, hv, hr⟩ := hc (i + 1) x (by simpa using hx)
          exact ⟨v, by rw [show off + 1 + i = off + (i + 1) by omega]; exact hv, hr⟩) i (by simp only at h; omega)
        rw [show off + 1 + i = off + (i + 1) by omega] at this
        simpa [T.den] using this
    · simp at h
  | .b _ :: cs, off, _, i, h | .p .. :: cs, off, _, i, h | .pn :: cs, off, _, i, h | .s .. :: cs, off, _, i, h | .sn :: cs, off, _, i, h | .sz :: cs, off, _, i, h | .fn _ :: cs, off, _, i, h | .nf :: cs, off, _, i, h => by simp [headI] at h
theorem rowCells_ok {ks : List IntKind} {l idx : T} {pl : Place} (hr : rowRep w pl ks (l.den Φ ρ).list) (h0 : 0 ≤ (idx.den Φ ρ).int) (hmod : (idx.den Φ ρ).int.toNat % ks.length = 0) :
    ∀ (n i : Nat), (idx.den Φ ρ).int.toNat + (i + n) ≤ (l.den Φ ρ).list.length → ∃ vs, repL (T.den Φ ρ) β (rowCells ks l idx n i) vs ∧ w.rangeAt pl.b (pl.o + ((idx.den Φ ρ).int.toNat + i)) vs
  | 0, i, _ => ⟨[], trivial, fun j v h => by simp at h⟩
  | n + 1, i, hle => by
    obtain ⟨vs, h1, h2⟩ := rowCells_ok hr h0 hmod n (i + 1) (by omega)
    have hlt : (idx.den Φ ρ).int.toNat + i < (l.den Φ ρ).list.length := by omega
    refine ⟨.int (ks.getD (i % ks.length) .u8) (((l.den Φ ρ).list)[(idx.den Φ ρ).int.toNat + i]) :: vs, ⟨?_, h1⟩, fun j v hv => ?_⟩
    · simp only [C.rep]
      rw [den_rd, den_add]
      congr 1
      have : ((idx.den Φ ρ).int + (T.den Φ ρ (.num (.ofNat i))).int).toNat = (idx.den Φ ρ).int.toNat + i := by
        simp only [T.den, D.int_i, Int.ofNat_eq_natCast]
        omega
      rw [this, List.getD_eq_getElem?_getD, List.getElem?_eq_getElem hlt]; rfl
    · cases j with
      | zero =>
        simp at hv
        subst hv
        have := hr.2.2 _ _ (List.getElem?_eq_getElem hlt)
        rw [Nat.add_mod, hmod, Nat.zero_add, Nat.mod_mod] at this
        simpa using this
      | succ j =>
        have := h2 j v (by simpa using hv)
        rw [show pl.o + ((idx.den Φ ρ).int.toNat + i) + (j + 1) = pl.o + ((idx.den Φ ρ).int.toNat + (i + 1)) + j by omega]; exact this
theorem rowCells_length (ks : List IntKind) (l idx : T) : ∀ (n i : Nat), (rowCells ks l idx n i).length = n
  | 0, _ => rfl
  | n + 1, i => by simp [rowCells, rowCells_length ks l idx n]
theorem toNat_mul_nat {x : Int} (n : Nat) (h : 0 ≤ x) : (x * (n : Int)).toNat = x.toNat * n := by
  obtain ⟨k, rfl⟩ := Int.eq_ofNat_of_zero_le h
  rw [show ((k : Int) * (n : Int)) = ((k * n : Nat) : Int) by simp]
  simp only [Int.toNat_natCast]
theorem getRow_ok {ks : List IntKind} {l e : T} {st r n : Nat} {cs : List C} {pl : Place} (h : (getRow ks l e st r n).val (T.den Φ ρ) = some cs) (hr : rowRep w pl ks (l.den Φ ρ).list) :
    ∃ vs, repL (T.den Φ ρ) β cs vs ∧ cs.length = n ∧ w.rangeAt pl.b (pl.o + (r + (e.den Φ ρ).int.toNat * st)) vs := by
  unfold getRow at h
  split at h
  · cases h
  · split at h
    · rename_i hst
      obtain ⟨h1, h⟩ := chkT_some hEb h
      obtain ⟨h2, h⟩ := chkT_some hEb h
      simp only [O.val] at h
      injection h with h
      subst h
      rw [den_le] at h1 h2
      rw [den_add, den_mul, den_len] at h2
      simp [T.den] at h1 h2
      have hidx : ((mkMul e (.num (.ofNat st))).den Φ ρ).int = (e.den Φ ρ).int * (st : Int) := by rw [den_mul]; rfl
      have hn := toNat_mul_nat st h1
      have h0 : 0 ≤ (e.den Φ ρ).int * (st : Int) := Int.mul_nonneg h1 (Int.natCast_nonneg _)
      obtain ⟨vs, h3, h4⟩ := rowCells_ok (idx := mkMul e (.num (.ofNat st))) hr (by rw [hidx]; exact h0) (by rw [hidx, hn, Nat.mul_mod, hst, Nat.mul_zero, Nat.zero_mod]) n r (by rw [hidx, hn]; omega)
      refine ⟨vs, h3, rowCells_length _ _ _ _ _, ?_⟩
      rw [hidx, hn] at h4
      rw [show r + (e.den Φ ρ).int.toNat * st = (e.den Φ ρ).int.toNat * st + r by omega]
      exact h4
    · cases h
theorem getCells_ok {b : Blk} {e : T} {st r n : Nat} {cs : List C} {pl : Place} (h : (getCells b e st r n).val (T.den Φ ρ) = some cs) (hb : b.rep (T.den Φ ρ) β w pl) :
    ∃ vs, repL (T.den Φ ρ) β cs vs ∧ cs.length = n ∧ w.rangeAt pl.b (pl.o + (r + (e.den Φ ρ).int.toNat * st)) vs := by
  unfold getCells at h
  split at h
  · exact getRow_ok h hb
  · rename_i xs
    split at h
    · rename_i z
      obtain ⟨vs, h1, h2, h3⟩ := getLit_ok h hb
      exact ⟨vs, h1, h2, by simpa [T.den] using h3⟩
    · cases h
    · rename_i e' _ _
      split at h
      · cases h
      · split at h
        · rename_i k t cs' hdrop _
          obtain ⟨h1, h⟩ := chkT_some hEb h
          obtain ⟨h2, h⟩ := chkT_some hEb h
          simp only [O.val] at h
          injection h with h
          subst h
          rw [den_le] at h1
          rw [den_lt] at h2
          simp [T.den] at h1 h2
          have hcells := headI_ok (k := k) (pl := pl) (cs := .i k t :: cs') (off := pl.o + r) (Φ := Φ) (ρ := ρ) (β := β) (w := w) (fun i x hx => by
            rw [← hdrop, List.getElem?_drop] at hx
            obtain ⟨v, hv, hr⟩ := hb.2 (r + i) x hx
            exact ⟨v, by rw [show pl.o + r + i = pl.o + (r + i) by omega]; exact hv, hr⟩) (e.den Φ ρ).int.toNat (by omega)
          refine ⟨[.int k (((headI k (.i k t :: cs')).1.den Φ ρ).list.getD (e.den Φ ρ).int.toNat 0)], ⟨?_, trivial⟩, rfl, fun j v hv => ?_⟩
          · simp only [C.rep]; rw [den_rd]
          · cases j with
            | zero =>
              simp at hv
              subst hv
              rw [show pl.o + r + (e.den Φ ρ).int.toNat = pl.o + (r + (e.den Φ ρ).int.toNat * 1) + 0 by omega] at hcells
              simpa using hcells
            | succ j => simp at hv
        · obtain ⟨h1, h⟩ := chkT_some hEb h
          obtain ⟨k, _, _, hk, h⟩ := chain_ok h
          obtain ⟨vs, h1, h2, h3⟩ := getLit_ok h hb
          exact ⟨vs, h1, h2, by rw [hk]; simpa using h3⟩

/-! Writing. -/
theorem putL_get {α : Type} {xs ys : List α} {off i : Nat} (h : off + ys.length ≤ xs.length) : (putL xs off ys)[i]? = if i < off then xs[i]? else if i < off + ys.length then ys[i - off]? else xs[i]? := by
  unfold putL
  rw [List.getElem?_append]
  have hl : (xs.take off).length = off := by simp; omega
  rw [hl]
  split
  · rw [List.getElem?_take, if_pos (by assumption)]
  · rw [List.getElem?_append]
    split
    · rw [if_pos (by omega)]
    · rw [if_neg (by omega), List.getElem?_drop]
      congr 1
      omega
theorem putL_length {α : Type} {xs ys : List α} {off : Nat} (h : off + ys.length ≤ xs.length) : (putL xs off ys).length = xs.length := by
  unfold putL
  simp
  omega
theorem cellsRep_put {xs ys : List C} {vs : List Value} {off : Nat} {pl : Place} (hc : cellsRep (T.den Φ ρ) β w pl xs) (hv : repL (T.den Φ ρ) β ys vs) (hle : off + ys.length ≤ xs.length) :
    cellsRep (T.den Φ ρ) β (w.setCells pl.b (pl.o + off) vs) pl (putL xs off ys) := by
  have hlen := repL_length hv
  have hthere : ∀ j, j < vs.length → (w.cell? ⟨pl.b, pl.o + off + j, none⟩).isSome = true := by
    intro j hj
    obtain ⟨v, hv, _⟩ := hc.2 (off + j) _ (List.getElem?_eq_getElem (by omega))
    rw [show pl.o + off + j = pl.o + (off + j) by omega, hv]; rfl
  refine ⟨by rw [putL_length hle]; exact hc.1, fun i x hx => ?_⟩
  rw [putL_get hle] at hx
  have out : (i < off ∨ off + ys.length ≤ i) → (w.setCells pl.b (pl.o + off) vs).cell? ⟨pl.b, pl.o + i, none⟩ = w.cell? ⟨pl.b, pl.o + i, none⟩ := fun ho =>
    World.cell?_setCells_out pl.b vs _ w ⟨pl.b, pl.o + i, none⟩ (fun _ _ => by simp only; omega)
  split at hx
  · rw [out (.inl (by assumption))]
    exact hc.2 i x hx
  · split at hx
    · obtain ⟨v, hv', hr⟩ := repL_get hv hx
      refine ⟨v, ?_, hr⟩
      have hlt : i - off < vs.length := (List.getElem?_eq_some_iff.1 hv').1
      have := World.cell?_setCells_in pl.b vs (pl.o + off) w hthere (i - off) hlt
      rw [show pl.o + off + (i - off) = pl.o + i by omega] at this
      rw [this]
      have h2 := List.getElem?_eq_getElem hlt
      rw [hv'] at h2
      exact h2.symm
    · rw [out (.inr (by omega))]
      exact hc.2 i x hx
theorem rowRep_set {ks : List IntKind} {l : List Int} {pl : Place} {p : Nat} {k : IntKind} {z : Int} (hr : rowRep w pl ks l) (hp : p < l.length) (hk : k = ks.getD (p % ks.length) .u8) :
    rowRep (w.setCell ⟨pl.b, pl.o + p, none⟩ (.int k z)) pl ks (l.set p z) := by
  refine ⟨hr.1, by simpa using hr.2.1, fun i y hy => ?_⟩
  rw [List.getElem?_set] at hy
  split at hy
  · rename_i e
    subst e
    injection hy with hy
    subst hy
    rw [World.cell?_setCell_same _ _ _ (hr.2.2 p _ (List.getElem?_eq_getElem hp)), hk]
  · rename_i e
    rw [World.cell?_setCell_other _ _ _ _ (by simp; try omega)]
    exact hr.2.2 i y hy
theorem setRow_ok {ks : List IntKind} {idx : T} {pl : Place} (h0 : 0 ≤ (idx.den Φ ρ).int) (hmod : (idx.den Φ ρ).int.toNat % ks.length = 0) :
    ∀ (ys : List C) {l l' : T} {i : Nat} {vs : List Value} {w : World}, setRow ks l idx i ys = some l' → repL (T.den Φ ρ) β ys vs → rowRep w pl ks (l.den Φ ρ).list →
    (idx.den Φ ρ).int.toNat + (i + ys.length) ≤ (l.den Φ ρ).list.length → rowRep (w.setCells pl.b (pl.o + ((idx.den Φ ρ).int.toNat + i)) vs) pl ks (l'.den Φ ρ).list
  | [], l, l', i, [], w, h, _, hr, _ => by simp [setRow] at h; subst h; exact hr
  | [], _, _, _, _ :: _, _, _, hv, _, _ => hv.elim
  | .i k t :: ys, l, l', i, [], w, _, hv, _, _ => hv.elim
  | .i k t :: ys, l, l', i, v :: vs, w, h, hv, hr, hle => by
    simp only [setRow] at h
    split at h
    · rename_i hk
      have hk := knum_inj (Nat.eq_of_beq_eq_true hk)
      have hset : ((mkSet l (mkAdd idx (.num (.ofNat i))) t).den Φ ρ).list = (l.den Φ ρ).list.set ((idx.den Φ ρ).int.toNat + i) (t.den Φ ρ).int := by
        rw [den_set, den_add]
        have : ((idx.den Φ ρ).int + (T.den Φ ρ (.num (.ofNat i))).int).toNat = (idx.den Φ ρ).int.toNat + i := by
          simp only [T.den, D.int_i, Int.ofNat_eq_natCast]
          omega
        rw [this]
      simp only [List.length_cons] at hle
      have hv1 := hv.1
      simp only [C.rep] at hv1
      have h1 := rowRep_set (p := (idx.den Φ ρ).int.toNat + i) (k := k) (z := (t.den Φ ρ).int) hr (by omega) (by rw [hk, Nat.add_mod, hmod, Nat.zero_add, Nat.mod_mod])
      rw [← hset] at h1
      have h2 := setRow_ok h0 hmod ys (i := i + 1) h hv.2 h1 (by rw [hset]; simp; omega)
      rw [World.setCells, hv1, show pl.o + ((idx.den Φ ρ).int.toNat + i) + 1 = pl.o + ((idx.den Φ ρ).int.toNat + (i + 1)) by omega]
      exact h2
    · cases h
  | .b _ :: _, _, _, _, _, _, h, _, _, _ | .p .. :: _, _, _, _, _, _, h, _, _, _ | .pn :: _, _, _, _, _, _, h, _, _, _ | .s .. :: _, _, _, _, _, _, h, _, _, _ | .sn :: _, _, _, _, _, _, h, _, _, _ | .sz :: _, _, _, _, _, _, h, _, _, _ | .fn _ :: _, _, _, _, _, _, h, _, _, _ | .nf :: _, _, _, _, _, _, h, _, _, _ => by simp [setRow] at h
theorem putCells_ok {b b' : Blk} {e : T} {st r : Nat} {ys : List C} {vs : List Value} {pl : Place} (h : (putCells b e st r ys).val (T.den Φ ρ) = some b') (hb : b.rep (T.den Φ ρ) β w pl) (hv : repL (T.den Φ ρ) β ys vs) :
    b'.rep (T.den Φ ρ) β (w.setCells pl.b (pl.o + (r + (e.den Φ ρ).int.toNat * st)) vs) pl ∧ r + (e.den Φ ρ).int.toNat * st + vs.length ≤ pl.sz := by
  have hlen := repL_length hv
  have lit : ∀ {xs : List C} {off : Nat}, (putLit xs off ys).val (T.den Φ ρ) = some b' → cellsRep (T.den Φ ρ) β w pl xs → off = r + (e.den Φ ρ).int.toNat * st →
      b'.rep (T.den Φ ρ) β (w.setCells pl.b (pl.o + (r + (e.den Φ ρ).int.toNat * st)) vs) pl ∧ r + (e.den Φ ρ).int.toNat * st + vs.length ≤ pl.sz := by
    intro xs off h hc ho
    unfold putLit at h
    split at h
    · rename_i hle
      simp only [O.val] at h
      injection h with h
      subst h
      rw [← ho]
      exact ⟨cellsRep_put hc hv hle, by have := hc.1; omega⟩
    · cases h
  unfold putCells at h
  split at h
  · split at h
    · cases h
    · split at h
      · rename_i ks l hks hst
        obtain ⟨h1, h⟩ := chkT_some hEb h
        obtain ⟨h2, h⟩ := chkT_some hEb h
        have h := ofOpt_some h
        obtain ⟨l', hl', rfl⟩ := Option.map_eq_some_iff.mp h
        rw [den_le] at h1 h2
        rw [den_add, den_mul, den_len] at h2
        simp [T.den] at h1 h2
        have hidx : ((mkMul e (.num (.ofNat st))).den Φ ρ).int = (e.den Φ ρ).int * (st : Int) := by rw [den_mul]; rfl
        have hn := toNat_mul_nat st h1
        have h0 : 0 ≤ (e.den Φ ρ).int * (st : Int) := Int.mul_nonneg h1 (Int.natCast_nonneg _)
        have hle : (e.den Φ ρ).int.toNat * st + (r + ys.length) ≤ (l.den Φ ρ).list.length := by rw [← hn]; omega
        have := setRow_ok (idx := mkMul e (.num (.ofNat st))) (by rw [hidx]; exact h0) (by rw [hidx, hn, Nat.mul_mod, hst, Nat.mul_zero, Nat.zero_mod]) ys hl' hv hb (by rw [hidx, hn]; omega)
        rw [hidx, hn, show (e.den Φ ρ).int.toNat * st + r = r + (e.den Φ ρ).int.toNat * st by omega] at this
        exact ⟨this, by have := hb.2.1; omega⟩
      · cases h
  · split at h
    · exact lit h hb (by simp [T.den])
    · cases h
    · split at h
      · cases h
      · obtain ⟨h1, h⟩ := chkT_some hEb h
        obtain ⟨k, _, _, hk, h⟩ := chain_ok h
        exact lit h hb (by rw [hk]; simp)
end
end Go.Proofs.Ytlgiibchnnaceaa.Sx
