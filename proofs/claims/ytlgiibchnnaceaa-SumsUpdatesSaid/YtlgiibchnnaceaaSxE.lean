/- Sx, part 9: each operation comes to what the model does (loads, stores, numbers, slices). Conditions: none. -/
import Derived.Test.YtlgiibchnnaceaaSxD
set_option linter.unusedVariables false
set_option linter.unusedSimpArgs false
namespace Go.Proofs.Ytlgiibchnnaceaa.Sx
open Go Go.RowKit
section
variable {Φ : Sig} {ρ : Env} {β : Map} {w : World} {P : Program} {bs : Bs} {nb : Nat} {res : Res}

theorem wrapW_ok {agg : Bool} {cs : List C} {v : V} {vs : List Value} (h : (wrapW agg cs).val (T.den Φ ρ) = some v) (hr : repL (T.den Φ ρ) β cs vs) :
    (agg = true ∧ v.rep (T.den Φ ρ) β (.agg vs.toArray)) ∨ (agg = false ∧ ∃ u, vs = [u] ∧ v.rep (T.den Φ ρ) β u) := by
  unfold wrapW at h
  split at h
  · rename_i ha
    simp only [O.val] at h
    injection h with h
    subst h
    exact .inl ⟨ha, vs.toArray, rfl, by simpa using hr⟩
  · rename_i ha
    split at h
    · simp only [O.val] at h
      injection h with h
      subst h
      match vs, hr with
      | [u], hr => exact .inr ⟨by simpa using ha, u, rfl, hr.1⟩
    · cases h
theorem load_ok {t : TypeId} {x : V} {xv : Value} (h : (opLoad P t bs nb x).val (T.den Φ ρ) = some res) (hx : x.rep (T.den Φ ρ) β xv) (hm : memRep (T.den Φ ρ) β w (look bs)) :
    ∃ v, (Instr.loadAt t xv).run P w = .ok v w ∧ res.val.rep (T.den Φ ρ) β v ∧ res = ⟨res.val, [], nb⟩ := by
  unfold opLoad at h
  split at h
  · rename_i j e st r
    split at h
    · cases h
    · rename_i m hj
      split at h
      · cases h
      · rename_i agg hag
        split at h
        · cases h
        · rename_i n hn
          obtain ⟨cs, hcs, h⟩ := O.bind_some h
          obtain ⟨v, hv, h⟩ := O.bind_some h
          have hres := rv_some h
          obtain ⟨pl, hpl, hrep⟩ := hm.1 j m hj
          obtain ⟨vs, h1, h2, h3⟩ := getCells_ok hcs hrep.1
          simp only [V.rep, W.rep, C.rep] at hx
          obtain ⟨pl', hpl', rfl⟩ := hx
          rw [hpl] at hpl'
          injection hpl' with hpl'
          subst hpl'
          rcases wrapW_ok hv h1 with ⟨ha, hr⟩ | ⟨ha, u, rfl, hr⟩
          · subst ha
            simp only [if_true] at hn
            obtain ⟨d, hd, hd'⟩ := aggT_row hag
            have hl := repL_length h1
            refine ⟨_, run_loadAt_mid w pl.b _ t vs d h3 hd hd' ?_, by rw [hres]; exact hr, by rw [hres]⟩
            unfold sizeT at hn
            rw [hn, ← hl, h2]
          · subst ha
            refine ⟨u, ?_, by rw [hres]; exact hr, by rw [hres]⟩
            have hcell := h3 0 u rfl
            simp only [Nat.add_zero] at hcell
            simp only [Instr.loadAt, Instr.sureAddr, Sem.run_bind, Sem.run_pure, Result.andThen_ok, loadVar, aggT_ok hag w, Bool.false_eq_true, if_false, run_load, hcell]
  · cases h
theorem store_ok {t : TypeId} {x y : V} {xv yv : Value} (h : (opStore P t bs nb x y).val (T.den Φ ρ) = some res) (hx : x.rep (T.den Φ ρ) β xv) (hy : y.rep (T.den Φ ρ) β yv) (hm : memRep (T.den Φ ρ) β w (look bs)) :
    Did (T.den Φ ρ) (look bs) β w nb res ((do Instr.storeAt t xv yv; pure .skip : Sem Next).run P w) := by
  unfold opStore at h
  split at h
  · rename_i y' j e st r
    split at h
    · cases h
    · rename_i m hj
      split at h
      · rename_i hrw
        split at h
        · cases h
        · rename_i cs hcs
          split at h
          · cases h
          · rename_i n hn
            split at h
            · rename_i hsz
              obtain ⟨b, hb, h⟩ := O.bind_some h
              simp only [O.val] at h
              injection h with h
              subst h
              obtain ⟨pl, hpl, hrep⟩ := hm.1 j m hj
              simp only [V.rep, W.rep, C.rep] at hx
              obtain ⟨pl', hpl', rfl⟩ := hx
              rw [hpl] at hpl'
              injection hpl' with hpl'
              subst hpl'
              have hv := V.cells_ok (Φ := Φ) (ρ := ρ) (β := β) hcs hy
              have hl := repL_length hv
              obtain ⟨hk, hfit⟩ := putCells_ok (w := w) hb hrep.1 hv
              have hown := hrep.2 hrw
              have hthere : w.there pl.b (pl.o + (r + (e.den Φ ρ).int.toNat * st)) yv.cells.toList.length := by
                intro i hi
                have := own_there hown (i := r + (e.den Φ ρ).int.toNat * st + i) (by omega)
                rw [show pl.o + (r + (e.den Φ ρ).int.toNat * st) + i = pl.o + (r + (e.den Φ ρ).int.toNat * st + i) by omega]
                exact this
              have hst := run_storeCells_cells (P := P) pl.b (pl.o + (r + (e.den Φ ρ).int.toNat * st)) yv.cells.toList 0 w (fun i hi => by simpa using (hthere i hi).1) (fun i hi => by simpa using (hthere i hi).2) (repL_one hv)
              simp only [Nat.add_zero] at hst
              refine ⟨undef, _, β, .inr ⟨?_, rfl⟩, trivial, StepR.write (off := pl.o + (r + (e.den Φ ρ).int.toNat * st)) (vs := yv.cells.toList) hj hrw hpl hown (fun hne => by omega) hk⟩
              have hsz' : yv.cells.size = n := by rw [hsz, hl]; simp
              simp only [Instr.storeAt, Instr.sureAddr, Sem.run_bind, Sem.run_pure, Result.andThen_ok, storeVar, sizeT_ok hn w]
              rw [if_neg (by simpa using hsz')]
              rw [hst]
              rfl
            · cases h
      · cases h
  · cases h
theorem nilCheck_ok {x : V} {xv : Value} (h : (opNilCheck nb x).val (T.den Φ ρ) = some res) (hx : x.rep (T.den Φ ρ) β xv) {K : Sem Next} (hK : ∀ f first captured, xv = .func f first captured → f = .func (match f with | .func n => n | _ => 0) → K = pure (.value xv)) (hp : ∀ a, xv = .pointer (some a) → K = pure (.value xv)) :
    Did (T.den Φ ρ) (look bs) β w nb res (K.run P w) := by
  unfold opNilCheck at h
  split at h
  · rw [rv_some h]
    have hx' := hx
    simp only [V.rep, W.rep, C.rep] at hx
    obtain ⟨pl, _, rfl⟩ := hx
    rw [hp _ rfl]
    exact Did.same rfl hx'
  · rw [rv_some h]
    have hx' := hx
    simp only [V.rep, W.rep, C.rep] at hx
    subst hx
    rw [hK _ _ _ rfl rfl]
    exact Did.same rfl hx'
  · cases h

/-! Numbers and Bools. -/
theorem boolR_some {t : T} (h : (boolR nb t).val (T.den Φ ρ) = some res) : res = ⟨.c (.b t), [], nb⟩ := rv_some h
theorem intR_some {k : IntKind} {t : T} (h : (intR nb k t).val (T.den Φ ρ) = some res) : res = ⟨.c (.i k t), [], nb⟩ := rv_some h
theorem Did.int {r : Result Next} {k : IntKind} {t : T} {z : Int} (hr : r = .ok (.value (.int k z)) w) (hz : (t.den Φ ρ).int = z) : Did (T.den Φ ρ) (look bs) β w nb ⟨.c (.i k t), [], nb⟩ r :=
  Did.same hr (by simp only [V.c, V.rep, W.rep, C.rep, hz])
theorem Did.bool {r : Result Next} {t : T} {p : Bool} (hr : r = .ok (.value (.bool p)) w) (hz : (t.den Φ ρ).bool = p) : Did (T.den Φ ρ) (look bs) β w nb ⟨.c (.b t), [], nb⟩ r :=
  Did.same hr (by simp only [V.c, V.rep, W.rep, C.rep, hz])
theorem eq_nilp (d : Nat) {t e : TypeId} (hu : P.underlying t = some (.pointer e)) (b : Option Addr) : (Op.equalIn (d + 1) t (.pointer none) (.pointer b)).run P w = .ok b.isNone w := by
  simp [Op.equalIn, run_underlying hu w]
theorem eq_pnil (d : Nat) {t e : TypeId} (hu : P.underlying t = some (.pointer e)) (a : Addr) : (Op.equalIn (d + 1) t (.pointer (some a)) (.pointer none)).run P w = .ok false w := by
  simp [Op.equalIn, run_underlying hu w]
theorem opEq_ok {t : TypeId} {x y : V} {xv yv : Value} {r : T} (h : (opEq P t x y).val (T.den Φ ρ) = some r) (hx : x.rep (T.den Φ ρ) β xv) (hy : y.rep (T.den Φ ρ) β yv) (op : BinOp) (hop : op = .eql ∨ op = .neq) (a b : Operand) :
    (eqGuard op t a b xv yv).run P w = .ok () w ∧ (Op.equal t xv yv).run P w = .ok (r.den Φ ρ).bool w ∧ ((∃ p q, xv = .agg p ∧ yv = .agg q) ∨ (∃ p q, xv = .bool p ∧ yv = .bool q) ∨ (∃ p q, xv = .pointer p ∧ yv = .pointer q)) := by
  unfold opEq at h
  split at h
  · split at h
    · rename_i a' b' hu
      simp only [O.val] at h
      injection h with h
      subst h
      simp only [V.rep, W.rep, C.rep] at hx hy
      subst hx hy
      refine ⟨by rcases hop with rfl | rfl <;> simp [eqGuard], ?_, .inr (.inl ⟨_, _, rfl, rfl⟩)⟩
      rw [run_equal_bool w t _ _ hu, den_beq]
    · cases h
  · split at h
    · rename_i hu
      simp only [O.val] at h
      injection h with h
      subst h
      simp only [V.rep, W.rep, C.rep] at hx hy
      obtain ⟨pl, _, rfl⟩ := hx
      subst hy
      exact ⟨by rcases hop with rfl | rfl <;> simp [eqGuard], eq_pnil 9999 hu _, .inr (.inr ⟨_, _, rfl, rfl⟩)⟩
    · cases h
  · split at h
    · rename_i hu
      simp only [O.val] at h
      injection h with h
      subst h
      simp only [V.rep, W.rep, C.rep] at hx hy
      obtain ⟨pl, _, rfl⟩ := hy
      subst hx
      exact ⟨by rcases hop with rfl | rfl <;> simp [eqGuard], eq_nilp 9999 hu _, .inr (.inr ⟨_, _, rfl, rfl⟩)⟩
    · cases h
  · split at h
    · rename_i hu
      simp only [O.val] at h
      injection h with h
      subst h
      simp only [V.rep, W.rep, C.rep] at hx hy
      subst hx hy
      exact ⟨by rcases hop with rfl | rfl <;> simp [eqGuard], eq_nilp 9999 hu _, .inr (.inr ⟨_, _, rfl, rfl⟩)⟩
    · cases h
  · rename_i xs ys
    split at h
    · rename_i ks k1 l1 k2 l2 hf h1 h2
      split at h
      · rename_i hc
        split at h
        · rename_i hag
          simp only [O.val] at h
          injection h with h
          subst h
          simp only [Bool.and_eq_true, Bool.not_eq_true'] at hc
          simp only [V.rep, W.rep] at hx hy
          obtain ⟨xa, rfl, hxa⟩ := hx
          obtain ⟨ya, rfl, hya⟩ := hy
          obtain ⟨a1, a2, a3⟩ := intsT_ok h1 hxa
          obtain ⟨b1, b2, b3⟩ := intsT_ok h2 hya
          have e1 := kbeqL_eq hc.1.1
          have e2 := kbeqL_eq hc.1.2
          subst e1
          subst e2
          refine ⟨run_eqGuard_agg w _ t a b xa ya hc.2, ?_, .inl ⟨_, _, rfl, rfl⟩⟩
          rw [den_leq]
          exact flat_eq 8 9992 t ks hf _ _ _ _ w (by omega) (by omega) (.inl ⟨hag, by rw [← a3]⟩) (.inl ⟨hag, by rw [← b3]⟩)
        · cases h
      · cases h
    · cases h
  · cases h
theorem shiftN_min (k : IntKind) (z : Nat) : shiftN k z = min (z : Int).toNat k.bits := by
  unfold shiftN
  split
  · simp only [Int.toNat_natCast]; omega
  · simp only [Int.toNat_natCast]; omega
theorem run_shl (k : IntKind) (x : Int) (j : IntKind) (y : Int) (h : 0 ≤ y) : (Op.shift .shl k x j y).run P w = .ok (.int k (k.wrap (x * 2 ^ (min y.toNat k.bits)))) w := by
  unfold Op.shift
  rw [if_neg (by omega)]
  rfl
theorem run_shr (k : IntKind) (x : Int) (j : IntKind) (y : Int) (h : 0 ≤ y) : (Op.shift .shr k x j y).run P w = .ok (.int k (x.fdiv (2 ^ (min y.toNat k.bits)))) w := by
  unfold Op.shift
  rw [if_neg (by omega)]
  rfl
theorem bin_ok {op : BinOp} {t : TypeId} {x y : V} {xv yv : Value} (h : (opBin P op t nb x y).val (T.den Φ ρ) = some res) (hx : x.rep (T.den Φ ρ) β xv) (hy : y.rep (T.den Φ ρ) β yv) (a b : Operand) :
    Did (T.den Φ ρ) (look bs) β w nb res ((do pure (.value (← (do eqGuard op t a b xv yv; binOp op t xv yv))) : Sem Next).run P w) := by
  unfold opBin at h
  split at h
  · rename_i k a' j b'
    simp only [V.rep, W.rep, C.rep] at hx hy
    subst hx hy
    have hg : ∀ (p : Int) (q : Int), (eqGuard op t a b (.int k p) (.int j q)).run P w = .ok () w := fun p q => by
      cases op <;> simp [eqGuard]
    split at h
    · split at h
      · rename_i z
        rw [intR_some h]
        refine Did.int (z := k.wrap ((a'.den Φ ρ).int * 2 ^ (min (z : Int).toNat k.bits))) ?_ ?_
        · simp only [Sem.run_bind, hg, Result.andThen_ok, binOp]
          rw [run_shl k _ j _ (show 0 ≤ (T.den Φ ρ (.num (.ofNat z))).int from Int.natCast_nonneg z)]
          rfl
        · rw [den_wr, den_mul, shiftN_min]; rfl
      · cases h
    · split at h
      · rename_i z
        rw [intR_some h]
        refine Did.int (z := (a'.den Φ ρ).int.fdiv (2 ^ (min (z : Int).toNat k.bits))) ?_ ?_
        · simp only [Sem.run_bind, hg, Result.andThen_ok, binOp]
          rw [run_shr k _ j _ (show 0 ≤ (T.den Φ ρ (.num (.ofNat z))).int from Int.natCast_nonneg z)]
          rfl
        · rw [den_fdiv, shiftN_min]; rfl
      · cases h
    · rename_i hns1 hns2
      split at h
      · rename_i hk
        have hk := knum_inj (Nat.eq_of_beq_eq_true hk)
        subst hk
        split at h
        case h_1 => rw [intR_some h]; exact Did.int (by simp only [Sem.run_bind, hg, Result.andThen_ok, binOp, ne_eq, not_true_eq_false, if_false, Op.intArith, Op.intBits, Sem.run_pure]; rfl) (by rw [den_wr, den_add])
        case h_2 => rw [intR_some h]; exact Did.int (by simp only [Sem.run_bind, hg, Result.andThen_ok, binOp, ne_eq, not_true_eq_false, if_false, Op.intArith, Op.intBits, Sem.run_pure]; rfl) (by rw [den_wr, den_sub])
        case h_3 => rw [intR_some h]; exact Did.int (by simp only [Sem.run_bind, hg, Result.andThen_ok, binOp, ne_eq, not_true_eq_false, if_false, Op.intArith, Op.intBits, Sem.run_pure]; rfl) (by rw [den_wr, den_mul])
        case h_4 =>
          obtain ⟨h1, h⟩ := chkT_some hEb h
          rw [den_not, den_eq] at h1
          have hz : ¬ (b'.den Φ ρ).int = 0 := by simpa [T.den] using h1
          rw [intR_some h]
          exact Did.int (by simp only [Sem.run_bind, hg, Result.andThen_ok, binOp, ne_eq, not_true_eq_false, if_false, Op.intDiv, if_neg hz]; rfl) (by rw [den_wr, den_quo])
        case h_5 =>
          obtain ⟨h1, h⟩ := chkT_some hEb h
          rw [den_not, den_eq] at h1
          have hz : ¬ (b'.den Φ ρ).int = 0 := by simpa [T.den] using h1
          rw [intR_some h]
          exact Did.int (by simp only [Sem.run_bind, hg, Result.andThen_ok, binOp, ne_eq, not_true_eq_false, if_false, Op.intDiv, if_neg hz]; rfl) (by rw [den_rem])
        case h_6 => rw [intR_some h]; exact Did.int (by simp only [Sem.run_bind, hg, Result.andThen_ok, binOp, ne_eq, not_true_eq_false, if_false, Op.intArith, Op.intBits, Sem.run_pure]; rfl) (by rw [den_bits]; rfl)
        case h_7 => rw [intR_some h]; exact Did.int (by simp only [Sem.run_bind, hg, Result.andThen_ok, binOp, ne_eq, not_true_eq_false, if_false, Op.intArith, Op.intBits, Sem.run_pure]; rfl) (by rw [den_bits]; rfl)
        case h_8 => rw [intR_some h]; exact Did.int (by simp only [Sem.run_bind, hg, Result.andThen_ok, binOp, ne_eq, not_true_eq_false, if_false, Op.intArith, Op.intBits, Sem.run_pure]; rfl) (by rw [den_bits]; rfl)
        case h_9 => rw [intR_some h]; exact Did.int (by simp only [Sem.run_bind, hg, Result.andThen_ok, binOp, ne_eq, not_true_eq_false, if_false, Op.intArith, Op.intBits, Sem.run_pure]; rfl) (by rw [den_bits]; rfl)
        case h_10 => rw [boolR_some h]; exact Did.bool (by simp only [Sem.run_bind, hg, Result.andThen_ok, binOp, ne_eq, not_true_eq_false, if_false, Op.intCmp, Sem.run_pure]; rfl) (by rw [den_eq])
        case h_11 => rw [boolR_some h]; exact Did.bool (by simp only [Sem.run_bind, hg, Result.andThen_ok, binOp, ne_eq, not_true_eq_false, if_false, Op.intCmp, Sem.run_pure]; rfl) (by rw [den_not, den_eq]; rfl)
        case h_12 => rw [boolR_some h]; exact Did.bool (by simp only [Sem.run_bind, hg, Result.andThen_ok, binOp, ne_eq, not_true_eq_false, if_false, Op.intCmp, Sem.run_pure]; rfl) (by rw [den_lt])
        case h_13 => rw [boolR_some h]; exact Did.bool (by simp only [Sem.run_bind, hg, Result.andThen_ok, binOp, ne_eq, not_true_eq_false, if_false, Op.intCmp, Sem.run_pure]; rfl) (by rw [den_le])
        case h_14 => rw [boolR_some h]; exact Did.bool (by simp only [Sem.run_bind, hg, Result.andThen_ok, binOp, ne_eq, not_true_eq_false, if_false, Op.intCmp, Sem.run_pure]; rfl) (by rw [den_lt])
        case h_15 => rw [boolR_some h]; exact Did.bool (by simp only [Sem.run_bind, hg, Result.andThen_ok, binOp, ne_eq, not_true_eq_false, if_false, Op.intCmp, Sem.run_pure]; rfl) (by rw [den_le])
        case h_16 => cases h
      · cases h
  · split at h
    · obtain ⟨r, hr, h⟩ := O.bind_some h
      rw [boolR_some h]
      obtain ⟨h1, h2, h3⟩ := opEq_ok (w := w) hr hx hy .eql (.inl rfl) a b
      refine Did.bool (p := (r.den Φ ρ).bool) ?_ rfl
      have hb : (binOp .eql t xv yv).run P w = .ok (.bool (r.den Φ ρ).bool) w := by
        rcases h3 with ⟨p, q, rfl, rfl⟩ | ⟨p, q, rfl, rfl⟩ | ⟨p, q, rfl, rfl⟩ <;> simp only [binOp, Sem.run_bind, h2, Result.andThen_ok, Sem.run_pure]
      simp only [Sem.run_bind, h1, Result.andThen_ok, hb, Sem.run_pure]
    · obtain ⟨r, hr, h⟩ := O.bind_some h
      rw [boolR_some h]
      obtain ⟨h1, h2, h3⟩ := opEq_ok (w := w) hr hx hy .neq (.inr rfl) a b
      refine Did.bool (p := !(r.den Φ ρ).bool) ?_ (den_not _ _ _)
      have hb : (binOp .neq t xv yv).run P w = .ok (.bool !(r.den Φ ρ).bool) w := by
        rcases h3 with ⟨p, q, rfl, rfl⟩ | ⟨p, q, rfl, rfl⟩ | ⟨p, q, rfl, rfl⟩ <;> simp only [binOp, Sem.run_bind, h2, Result.andThen_ok, Sem.run_pure]
      simp only [Sem.run_bind, h1, Result.andThen_ok, hb, Sem.run_pure]
    · cases h
theorem un_ok {op : UnOp} {x : V} {xv : Value} (h : (opUn op nb x).val (T.den Φ ρ) = some res) (hx : x.rep (T.den Φ ρ) β xv) :
    Did (T.den Φ ρ) (look bs) β w nb res ((do pure (.value (← Op.unary op xv)) : Sem Next).run P w) := by
  unfold opUn at h
  split at h
  · simp only [V.rep, W.rep, C.rep] at hx
    subst hx
    split at h
    · rw [boolR_some h]
      exact Did.bool (by simp only [Op.unary, Sem.run_bind, Sem.run_pure, Result.andThen_ok]; rfl) (by rw [den_not])
    · cases h
  · simp only [V.rep, W.rep, C.rep] at hx
    subst hx
    split at h
    · rw [intR_some h]
      exact Did.int (by simp only [Op.unary, Op.intArith, Sem.run_bind, Sem.run_pure, Result.andThen_ok]; rfl) (by rw [den_wr, den_sub]; rfl)
    · rw [intR_some h]
      exact Did.int (by simp only [Op.unary, Sem.run_bind]; rfl) (by rw [den_bits]; rfl)
    · cases h
  · cases h
theorem convert_ok {src dst : TypeId} {x : V} {xv : Value} (h : (opConvert P src dst nb x).val (T.den Φ ρ) = some res) (hx : x.rep (T.den Φ ρ) β xv) :
    Did (T.den Φ ρ) (look bs) β w nb res ((do pure (.value (← convert src dst xv)) : Sem Next).run P w) := by
  unfold opConvert at h
  split at h
  · split at h
    · rename_i d k hs hd
      simp only [V.rep, W.rep, C.rep] at hx
      subst hx
      rw [intR_some h]
      exact Did.int (by simp only [convert, Sem.run_bind, run_underlying hs w, run_underlying hd w, Result.andThen_ok, Conv.intToInt, Sem.run_pure]; rfl) (by rw [den_wr])
    · cases h
  · cases h
end
end Go.Proofs.Ytlgiibchnnaceaa.Sx
