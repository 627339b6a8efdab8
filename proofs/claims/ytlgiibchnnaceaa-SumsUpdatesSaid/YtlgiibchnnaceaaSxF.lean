/- Sx, part 10: each operation comes to what the model does (addresses, slices). Conditions: none. -/
import Derived.Test.YtlgiibchnnaceaaSxE
set_option linter.unusedVariables false
set_option linter.unusedSimpArgs false
namespace Go.Proofs.Ytlgiibchnnaceaa.Sx
open Go Go.RowKit
section
variable {Φ : Sig} {ρ : Env} {β : Map} {w : World} {P : Program} {bs : Bs} {nb : Nat} {res : Res}

theorem le_chk {x y : T} (h : ((mkLe x y).den Φ ρ).bool = true) : (x.den Φ ρ).int ≤ (y.den Φ ρ).int := by rw [den_le] at h; exact of_decide_eq_true h
theorem lt_chk {x y : T} (h : ((mkLt x y).den Φ ρ).bool = true) : (x.den Φ ρ).int < (y.den Φ ρ).int := by rw [den_lt] at h; exact of_decide_eq_true h
theorem arrayAt_ok {arr : TypeId} {x : V} {xv : Value} (h : (opArrayAt P arr nb x).val (T.den Φ ρ) = some res) (hx : x.rep (T.den Φ ρ) β xv) :
    Did (T.den Φ ρ) (look bs) β w nb res ((do pure (.value (← Instr.arrayAt arr xv)) : Sem Next).run P w) := by
  unfold opArrayAt at h
  split at h
  · rename_i j st r o len
    split at h
    · rename_i n e hu
      split at h
      · rename_i hn
        obtain ⟨h1, h⟩ := chkT_some hEb h
        rw [den_le] at h1
        simp only [V.rep, W.rep, C.rep] at hx
        obtain ⟨pl, hpl, a, l, c, rfl, hl, hlc, ho, hfit, ha⟩ := hx
        simp [T.den] at h1
        rw [rv_some h]
        have hnl : n ≤ l := by omega
        refine Did.same (v := .pointer a) ?_ ?_
        · simp only [Instr.arrayAt, Sem.run_bind, run_underlying hu w, Result.andThen_ok]
          rw [if_neg (by omega)]
          rfl
        · simp only [V.c, V.rep, W.rep, C.rep]
          exact ⟨pl, hpl, by rw [ha (by omega)]⟩
      · cases h
    · cases h
  · cases h
theorem fieldAddr_ok {t : TypeId} {f : Nat} {x : V} {xv : Value} (h : (opFieldAddr P t f nb x).val (T.den Φ ρ) = some res) (hx : x.rep (T.den Φ ρ) β xv) :
    Did (T.den Φ ρ) (look bs) β w nb res ((do pure (.value (← Instr.fieldAt t xv f)) : Sem Next).run P w) := by
  unfold opFieldAddr at h
  split at h
  · split at h
    · rename_i fields hu
      split at h
      · rename_i fd hfd
        split at h
        · rename_i n hn
          split at h
          · rename_i h0
            simp only [V.rep, W.rep, C.rep] at hx
            obtain ⟨pl, hpl, rfl⟩ := hx
            rw [rv_some h]
            refine Did.same (v := .pointer (some ⟨pl.b, pl.o + (_ + fd.offset + _), none⟩)) ?_ ⟨pl, hpl, rfl⟩
            simp only [Instr.fieldAt, Sem.run_bind, run_underlying hu w, Result.andThen_ok, hfd, Instr.sureAddr, Sem.run_pure, fieldPlace, sizeT_ok hn w, Sem.run_ite]
            rw [if_neg (by omega)]
            simp only [Sem.run_pure, Result.andThen_ok, Addr.add_mid]
            congr 5
            omega
          · cases h
        · cases h
      · cases h
    · cases h
  · cases h
theorem part_ok {t : TypeId} {cs : List C} {off : Nat} {v : V} {arr : Array Value} (h : (partC P t cs off).val (T.den Φ ρ) = some v) (hr : repL (T.den Φ ρ) β cs arr.toList) :
    ∃ u, (part t arr off).run P w = .ok u w ∧ v.rep (T.den Φ ρ) β u := by
  unfold partC at h
  split at h
  · cases h
  · rename_i agg hag
    split at h
    · cases h
    · rename_i n hn
      obtain ⟨r, hr', h⟩ := O.bind_some h
      unfold getLit at hr'
      split at hr'
      · rename_i hle
        simp only [O.val] at hr'
        injection hr' with hr'
        subst hr'
        have h2 := repL_take (repL_drop hr off) n
        have hl := repL_length hr
        rcases wrapW_ok h h2 with ⟨ha, hv⟩ | ⟨ha, u, hu, hv⟩
        · subst ha
          simp only [if_true] at hn
          refine ⟨_, ?_, hv⟩
          simp only [part, Sem.run_bind, aggT_ok hag w, Result.andThen_ok, if_true, sizeT_ok hn w, Sem.run_pure]
          congr 2
          apply Array.ext'
          simp [List.extract]
        · subst ha
          refine ⟨u, ?_, hv⟩
          simp only [Bool.false_eq_true, if_false] at hn
          injection hn with hn
          subst hn
          have : arr[off]? = some u := by
            have h3 : ((arr.toList.drop off).take 1)[0]? = some u := by rw [hu]; rfl
            rw [List.getElem?_take, if_pos (by omega), List.getElem?_drop] at h3
            simpa using h3
          simp only [part, Sem.run_bind, aggT_ok hag w, Result.andThen_ok, Bool.false_eq_true, if_false, this, Sem.run_pure]
      · cases hr'
theorem field_ok {t : TypeId} {f : Nat} {x : V} {xv : Value} (h : (opField P t f nb x).val (T.den Φ ρ) = some res) (hx : x.rep (T.den Φ ρ) β xv) :
    Did (T.den Φ ρ) (look bs) β w nb res ((do pure (.value (← Instr.field t xv f)) : Sem Next).run P w) := by
  unfold opField at h
  split at h
  · split at h
    · rename_i fields hu
      split at h
      · rename_i fd hfd
        obtain ⟨v, hv, h⟩ := O.bind_some h
        rw [rv_some h]
        simp only [V.rep, W.rep] at hx
        obtain ⟨arr, rfl, hr⟩ := hx
        obtain ⟨u, h1, h2⟩ := part_ok (w := w) hv hr
        refine Did.same (v := u) ?_ h2
        simp only [Instr.field, Sem.run_bind, run_underlying hu w, Result.andThen_ok, hfd, asAgg, Sem.run_pure, h1]
      · cases h
    · cases h
  · cases h
theorem extract_ok {i : Nat} {x : V} {xv : Value} (h : (opExtract i nb x).val (T.den Φ ρ) = some res) (hx : x.rep (T.den Φ ρ) β xv) :
    Did (T.den Φ ρ) (look bs) β w nb res ((do pure (.value (← Instr.extract xv i)) : Sem Next).run P w) := by
  unfold opExtract at h
  split at h
  · split at h
    · rename_i xs x hxi
      rw [rv_some h]
      simp only [V.rep] at hx
      obtain ⟨vs, rfl, hr⟩ := hx
      obtain ⟨v, hv, hrv⟩ := repWs_get hr hxi
      refine Did.same (v := v) ?_ hrv
      have : vs[i]? = some v := by simpa using hv
      simp only [Instr.extract, this, Sem.run_bind, Sem.run_pure, Result.andThen_ok]
    · cases h
  · cases h
theorem sub_toNat {a b : Int} (h0 : 0 ≤ b) (h : b ≤ a) : ((a - b).toNat : Int) = a - b := Int.toNat_of_nonneg (by omega)
theorem baseOf_ok {e : T} {st r base : Nat} (h : baseOf e st r = some base) : base = r + (e.den Φ ρ).int.toNat * st := by
  unfold baseOf at h
  split at h
  · injection h with h; subst h; simp [T.den]
  · split at h
    · rename_i h0
      injection h with h
      subst h h0
      simp
    · cases h
theorem indexAddr_ok {t : TypeId} {x i : V} {xv iv : Value} (h : (opIndexAddr P t nb x i).val (T.den Φ ρ) = some res) (hx : x.rep (T.den Φ ρ) β xv) (hi : i.rep (T.den Φ ρ) β iv) :
    Did (T.den Φ ρ) (look bs) β w nb res ((do pure (.value (← Instr.indexAt t xv iv)) : Sem Next).run P w) := by
  unfold opIndexAddr at h
  split at h
  · rename_i k ix
    simp only [V.rep, W.rep, C.rep] at hi
    subst hi
    split at h
    · rename_i e hu
      split at h
      · rename_i sz j st r o len hsz
        split at h
        · rename_i hst
          have hst := Nat.eq_of_beq_eq_true hst
          subst hst
          obtain ⟨h1, h⟩ := chkT_some hEb h
          obtain ⟨h2, h⟩ := chkT_some hEb h
          replace h1 := le_chk h1
          replace h2 := lt_chk h2
          simp only [T.den, D.int_i] at h1
          rw [rv_some h]
          simp only [V.rep, W.rep, C.rep] at hx
          obtain ⟨pl, hpl, a, l, c, rfl, hl, hlc, ho, hfit, ha⟩ := hx
          have hlt : (ix.den Φ ρ).int < (l : Int) := by omega
          refine Did.same (v := .pointer (some (Addr.add ⟨pl.b, pl.o + (r + (o.den Φ ρ).int.toNat * sz), none⟩ ((ix.den Φ ρ).int.toNat * sz)))) ?_ ⟨pl, hpl, ?_⟩
          · rw [ha (by omega)]
            simp only [Instr.indexAt, asIntOf, Sem.run_bind, Sem.run_pure, Result.andThen_ok, run_underlying hu w, Sem.run_ite]
            rw [if_pos ⟨h1, hlt⟩]
            simp only [Sem.run_bind, sizeT_ok hsz w, Result.andThen_ok, Sem.run_pure]
          · rw [den_add, Addr.add_mid]
            congr 3
            have : ((o.den Φ ρ).int + (ix.den Φ ρ).int).toNat = (o.den Φ ρ).int.toNat + (ix.den Φ ρ).int.toNat := by omega
            rw [this, Nat.add_mul]
            omega
        · cases h
      · cases h
    · rename_i n e hu
      split at h
      · rename_i sz j pe st r hsz
        simp only [V.rep, W.rep, C.rep] at hx
        obtain ⟨pl, hpl, rfl⟩ := hx
        have run : ∀ z : Int, 0 ≤ z → z < n → ((do pure (.value (← Instr.indexAt t (.pointer (some ⟨pl.b, pl.o + (r + (pe.den Φ ρ).int.toNat * st), none⟩)) (.int k z))) : Sem Next)).run P w = .ok (.value (.pointer (some ⟨pl.b, pl.o + (r + (pe.den Φ ρ).int.toNat * st) + z.toNat * sz, none⟩))) w := by
          intro z h1 h2
          simp only [Instr.indexAt, asIntOf, Sem.run_bind, Sem.run_pure, Result.andThen_ok, run_underlying hu w, Instr.sureAddr, Sem.run_ite]
          rw [if_pos ⟨h1, h2⟩]
          simp only [Sem.run_bind, sizeT_ok hsz w, Result.andThen_ok, Sem.run_pure, Addr.add_mid]
        split at h
        · rename_i z
          split at h
          · rename_i hz
            rw [rv_some h]
            refine Did.same (run _ ?_ ?_) ⟨pl, hpl, ?_⟩
            · simp [T.den]
            · simp [T.den]; omega
            · simp [T.den]; try omega
          · cases h
        · split at h
          · rename_i base hbase
            obtain ⟨h1, h⟩ := chkT_some hEb h
            obtain ⟨h2, h⟩ := chkT_some hEb h
            replace h1 := le_chk h1
            replace h2 := lt_chk h2
            simp only [T.den, D.int_i] at h1 h2
            rw [rv_some h]
            refine Did.same (run _ h1 (by simpa using h2)) ⟨pl, hpl, ?_⟩
            rw [baseOf_ok (Φ := Φ) (ρ := ρ) hbase]
            congr 3
            omega
          · cases h
      · cases h
    · cases h
  · cases h
theorem index_ok {t : TypeId} {x i : V} {xv iv : Value} (h : (opIndex P t nb x i).val (T.den Φ ρ) = some res) (hx : x.rep (T.den Φ ρ) β xv) (hi : i.rep (T.den Φ ρ) β iv) :
    Did (T.den Φ ρ) (look bs) β w nb res ((do pure (.value (← Instr.index t xv iv)) : Sem Next).run P w) := by
  unfold opIndex at h
  split at h
  · rename_i cs k ix
    simp only [V.rep, W.rep, C.rep] at hi hx
    subst hi
    obtain ⟨arr, rfl, hr⟩ := hx
    split at h
    · rename_i n e hu
      split at h
      · cases h
      · rename_i sz hsz
        have run : ∀ c : Nat, (ix.den Φ ρ).int = c → c < n → ∀ v : V, (partC P e cs (c * sz)).val (T.den Φ ρ) = some v → Did (T.den Φ ρ) (look bs) β w nb ⟨v, [], nb⟩ ((do pure (.value (← Instr.index t (.agg arr) (.int k (ix.den Φ ρ).int))) : Sem Next).run P w) := by
          intro c hc hlt v hv
          obtain ⟨u, h1, h2⟩ := part_ok (w := w) hv hr
          refine Did.same (v := u) ?_ h2
          rw [hc]
          simp only [Instr.index, asIntOf, Sem.run_bind, Sem.run_pure, Result.andThen_ok, run_underlying hu w, Sem.run_ite]
          rw [if_pos ⟨by omega, by omega⟩]
          simp only [Sem.run_bind, sizeT_ok hsz w, Result.andThen_ok, Int.toNat_natCast, h1, Sem.run_pure]
        split at h
        · rename_i z
          split at h
          · rename_i hz
            obtain ⟨v, hv, h⟩ := O.bind_some h
            rw [rv_some h]
            exact run z (by simp [T.den]) hz v hv
          · cases h
        · cases h
        · obtain ⟨h1, h⟩ := chkT_some hEb h
          obtain ⟨h2, h⟩ := chkT_some hEb h
          obtain ⟨c, hc1, hc2, hc3, h⟩ := chain_ok h
          obtain ⟨v, hv, h⟩ := O.bind_some h
          rw [rv_some h]
          exact run c hc3 (by omega) v hv
    · cases h
  · cases h
theorem boundT_ok {o : Option V} {d t : T} {ov : Option Value} (h : boundT o d = some t) (ho : match o, ov with | none, none => True | some x, some v => x.rep (T.den Φ ρ) β v | _, _ => False) :
    (ov = none ∧ t = d ∧ o = none) ∨ ∃ k, ov = some (.int k (t.den Φ ρ).int) := by
  unfold boundT at h
  split at h
  · injection h with h
    cases ov with
    | none => exact .inl ⟨rfl, h.symm, rfl⟩
    | some v => exact ho.elim
  · injection h with h
    subst h
    cases ov with
    | none => exact ho.elim
    | some v =>
      simp only [V.rep, W.rep, C.rep] at ho
      exact .inr ⟨_, by rw [ho]⟩
  · cases h
theorem sliceBounds_ok (isSlice : Bool) (len cap : Nat) {lo hi : Option Value} {l h : Int} (hh : (hi = none ∧ h = len) ∨ ∃ k, hi = some (.int k h)) (hl : (lo = none ∧ l = 0) ∨ ∃ k, lo = some (.int k l)) (h0 : 0 ≤ l) (h1 : l ≤ h) (h2 : h ≤ cap) (w : World) :
    (Instr.sliceBounds isSlice len cap lo hi none).run P w = .ok (l.toNat, h.toNat, cap) w := by
  have hb : ∀ (k : IntKind) (z : Int) (y : Nat) (code : BoundsCode), 0 ≤ z → z ≤ y → (Instr.sliceBound (.int k z) y code).run P w = .ok z.toNat w := by
    intro k z y code h1 h2
    simp only [Instr.sliceBound, asIntOf, Sem.run_bind, Sem.run_pure, Result.andThen_ok, Sem.run_ite]
    rw [if_pos ⟨h1, h2⟩]
  have hn : ((h.toNat : Nat) : Int) = h := Int.toNat_of_nonneg (by omega)
  rcases hh with ⟨rfl, rfl⟩ | ⟨k, rfl⟩ <;> rcases hl with ⟨rfl, rfl⟩ | ⟨k', rfl⟩
  · simp [Instr.sliceBounds]
  · simp only [Instr.sliceBounds, Sem.run_bind, Sem.run_pure, Result.andThen_ok, Int.toNat_natCast]
    rw [hb _ _ _ _ h0 (by omega)]
    rfl
  · simp only [Instr.sliceBounds, Sem.run_bind, Sem.run_pure, Result.andThen_ok]
    rw [hb _ _ _ _ (by omega) (by omega)]
    rfl
  · simp only [Instr.sliceBounds, Sem.run_bind, Sem.run_pure, Result.andThen_ok]
    rw [hb _ _ _ _ (by omega) (by omega)]
    simp only [Result.andThen_ok]
    rw [hb _ _ _ _ (by omega) (by omega)]
    rfl
theorem sliceBounds3_ok (len cap : Nat) {lo hi : Option Value} {k : IntKind} (hh : ∃ k, hi = some (.int k 0)) (hl : lo = none ∨ ∃ k, lo = some (.int k 0)) (w : World) :
    (Instr.sliceBounds true len cap lo hi (some (.int k 0))).run P w = .ok (0, 0, 0) w := by
  have hb : ∀ (k : IntKind) (y : Nat) (code : BoundsCode), (Instr.sliceBound (.int k 0) y code).run P w = .ok 0 w := by
    intro k y code
    simp only [Instr.sliceBound, asIntOf, Sem.run_bind, Sem.run_pure, Result.andThen_ok, Sem.run_ite]
    rw [if_pos ⟨by omega, by omega⟩]
    rfl
  obtain ⟨k', rfl⟩ := hh
  rcases hl with rfl | ⟨k2, rfl⟩ <;> simp [Instr.sliceBounds, hb]
theorem sliceBoundsM_ok (len cap : Nat) {lo : Option Value} {km kh : IntKind} {l h m : Int} (hl : (lo = none ∧ l = 0) ∨ ∃ k, lo = some (.int k l)) (h0 : 0 ≤ l) (h1 : l ≤ h) (h2 : h ≤ m) (h3 : m ≤ cap) (w : World) :
    (Instr.sliceBounds true len cap lo (some (.int kh h)) (some (.int km m))).run P w = .ok (l.toNat, h.toNat, m.toNat) w := by
  have hb : ∀ (k : IntKind) (z : Int) (y : Nat) (code : BoundsCode), 0 ≤ z → z ≤ y → (Instr.sliceBound (.int k z) y code).run P w = .ok z.toNat w := by
    intro k z y code h1 h2
    simp only [Instr.sliceBound, asIntOf, Sem.run_bind, Sem.run_pure, Result.andThen_ok, Sem.run_ite]
    rw [if_pos ⟨h1, h2⟩]
  simp only [Instr.sliceBounds, Sem.run_bind, Sem.run_pure, Result.andThen_ok]
  rw [hb _ _ _ _ (by omega) h3]
  simp only [Result.andThen_ok]
  rw [hb _ _ _ _ (by omega) (by omega)]
  rcases hl with ⟨rfl, rfl⟩ | ⟨k', rfl⟩
  · simp
  · simp only [Result.andThen_ok, Sem.run_bind]
    rw [hb _ _ _ _ h0 (by omega)]
    rfl
def optRep (E : Ev) (β : Map) : Option V → Option Value → Prop
  | none, none => True
  | some x, some v => x.rep E β v
  | _, _ => False
theorem bound0 {o : Option V} {d : T} {ov : Option Value} (h : boundT o d = some (.num (.ofNat 0))) (ho : optRep (T.den Φ ρ) β o ov) : (o = none ∧ ov = none ∧ d = .num (.ofNat 0)) ∨ ∃ k, ov = some (.int k 0) := by
  rcases boundT_ok (ov := ov) h (by cases o <;> cases ov <;> exact ho) with ⟨h1, h2, h3⟩ | ⟨k, hk⟩
  · exact .inl ⟨h3, h1, h2.symm⟩
  · exact .inr ⟨k, by rw [hk]; rfl⟩
theorem slice_ok {t : TypeId} {x : V} {lo hi mx : Option V} {xv : Value} {lov hiv mxv : Option Value} (h : (opSlice P t bs nb x lo hi mx).val (T.den Φ ρ) = some res) (hx : x.rep (T.den Φ ρ) β xv)
    (hlo : optRep (T.den Φ ρ) β lo lov) (hhi : optRep (T.den Φ ρ) β hi hiv) (hmx : optRep (T.den Φ ρ) β mx mxv) (hm : memRep (T.den Φ ρ) β w (look bs)) :
    Did (T.den Φ ρ) (look bs) β w nb res ((do pure (.value (← Instr.sliceAt t xv lov hiv mxv)) : Sem Next).run P w) := by
  unfold opSlice at h
  split at h
  · rename_i e hu
    split at h
    · cases h
    · rename_i sz hsz
      split at h
      · rename_i j st r o len
        split at h
        · rename_i hst
          have hst := Nat.eq_of_beq_eq_true hst
          subst hst
          split at h
          · cases mxv with
            | some _ => exact hmx.elim
            | none =>
              split at h
              · rename_i hT lT hhT hlT
                obtain ⟨h1, h⟩ := chkT_some hEb h
                obtain ⟨h2, h⟩ := chkT_some hEb h
                obtain ⟨h3, h⟩ := chkT_some hEb h
                replace h1 := le_chk h1
                replace h2 := le_chk h2
                replace h3 := le_chk h3
                simp only [T.den, D.int_i] at h1
                rw [rv_some h]
                simp only [V.rep, W.rep, C.rep] at hx
                obtain ⟨pl, hpl, a, l, c, rfl, hl, hlc, ho, hfit, ha⟩ := hx
                have bh : (hiv = none ∧ (hT.den Φ ρ).int = (l : Int)) ∨ ∃ k, hiv = some (.int k (hT.den Φ ρ).int) := by
                  rcases boundT_ok (ov := hiv) hhT (by cases hi <;> cases hiv <;> exact hhi) with ⟨q1, q2, _⟩ | q
                  · exact .inl ⟨q1, by rw [q2]; exact hl.symm⟩
                  · exact .inr q
                have bl : (lov = none ∧ (lT.den Φ ρ).int = 0) ∨ ∃ k, lov = some (.int k (lT.den Φ ρ).int) := by
                  rcases boundT_ok (ov := lov) hlT (by cases lo <;> cases lov <;> exact hlo) with ⟨q1, q2, _⟩ | q
                  · exact .inl ⟨q1, by rw [q2]; rfl⟩
                  · exact .inr q
                have hsb := sliceBounds_ok (P := P) true l c bh bl h1 h2 (by omega) w
                refine Did.same (v := .slice (if c = (lT.den Φ ρ).int.toNat then a else a.map (·.add ((lT.den Φ ρ).int.toNat * sz))) ((hT.den Φ ρ).int.toNat - (lT.den Φ ρ).int.toNat) (c - (lT.den Φ ρ).int.toNat)) ?_ ?_
                · simp only [Instr.sliceAt, Instr.slice, Sem.run_bind, run_underlying hu w, Result.andThen_ok, hsb, sizeT_ok hsz w, Sem.run_pure]
                · refine ⟨pl, hpl, _, _, _, rfl, ?_, by omega, ?_, ?_, ?_⟩
                  · rw [den_sub]; omega
                  · rw [den_add]; omega
                  · rw [den_add]
                    have e1 : ((o.den Φ ρ).int + (lT.den Φ ρ).int).toNat + (c - (lT.den Φ ρ).int.toNat) = (o.den Φ ρ).int.toNat + c := by omega
                    rw [e1]; exact hfit
                  · intro hc
                    rw [if_neg (by omega), ha (by omega), den_add]
                    have e1 : ((o.den Φ ρ).int + (lT.den Φ ρ).int).toNat = (o.den Φ ρ).int.toNat + (lT.den Φ ρ).int.toNat := by omega
                    simp only [Option.map_some, Addr.add_mid, e1, Nat.add_mul]
                    congr 2
                    omega
              · cases h
          · rename_i m
            split at h
            · rename_i hm0 hh0 hl0
              simp only [V.rep, W.rep, C.rep] at hx
              obtain ⟨pl, hpl, a, l, c, rfl, hl, hlc, ho, hfit, ha⟩ := hx
              rw [rv_some h]
              rcases bound0 hm0 hmx with ⟨q, _⟩ | ⟨km, rfl⟩
              · cases q
              · have hh : ∃ k, hiv = some (.int k 0) := by
                  rcases bound0 hh0 hhi with ⟨_, _, q⟩ | q
                  · exact absurd q (fun e => by injection e with e; cases e)
                  · exact q
                have hl' : lov = none ∨ ∃ k, lov = some (.int k 0) := by
                  rcases bound0 hl0 hlo with ⟨_, q, _⟩ | q
                  · exact .inl q
                  · exact .inr q
                have hsb := sliceBounds3_ok (P := P) (k := km) l c hh hl' w
                refine Did.same (v := .slice a 0 0) ?_ ⟨a, rfl⟩
                simp only [Instr.sliceAt, Instr.slice, Sem.run_bind, run_underlying hu w, Result.andThen_ok, hsb, sizeT_ok hsz w, Sem.run_pure]
                rfl
            · rename_i mT hT lT _ hmT hhT hlT
              split at h
              · rename_i hsome
                obtain ⟨h1, h⟩ := chkT_some hEb h
                obtain ⟨h2, h⟩ := chkT_some hEb h
                obtain ⟨h3, h⟩ := chkT_some hEb h
                obtain ⟨h4, h⟩ := chkT_some hEb h
                replace h1 := le_chk h1
                replace h2 := le_chk h2
                replace h3 := le_chk h3
                replace h4 := le_chk h4
                simp only [T.den, D.int_i] at h1
                rw [rv_some h]
                simp only [V.rep, W.rep, C.rep] at hx
                obtain ⟨pl, hpl, a, l, c, rfl, hl, hlc, ho, hfit, ha⟩ := hx
                obtain ⟨kh, rfl⟩ : ∃ k, hiv = some (.int k (hT.den Φ ρ).int) := by
                  rcases boundT_ok (ov := hiv) hhT (by cases hi <;> cases hiv <;> exact hhi) with ⟨_, _, q⟩ | q
                  · rw [q] at hsome; cases hsome
                  · exact q
                obtain ⟨km, rfl⟩ : ∃ k, mxv = some (.int k (mT.den Φ ρ).int) := by
                  rcases boundT_ok (ov := mxv) hmT (by cases mxv <;> exact hmx) with ⟨_, _, q⟩ | q
                  · cases q
                  · exact q
                have bl : (lov = none ∧ (lT.den Φ ρ).int = 0) ∨ ∃ k, lov = some (.int k (lT.den Φ ρ).int) := by
                  rcases boundT_ok (ov := lov) hlT (by cases lo <;> cases lov <;> exact hlo) with ⟨q1, q2, _⟩ | q
                  · exact .inl ⟨q1, by rw [q2]; rfl⟩
                  · exact .inr q
                have hsb := sliceBoundsM_ok (P := P) (kh := kh) (km := km) l c bl h1 h2 h3 (by omega) w
                refine Did.same (v := .slice (if (mT.den Φ ρ).int.toNat = (lT.den Φ ρ).int.toNat then a else a.map (·.add ((lT.den Φ ρ).int.toNat * sz))) ((hT.den Φ ρ).int.toNat - (lT.den Φ ρ).int.toNat) ((mT.den Φ ρ).int.toNat - (lT.den Φ ρ).int.toNat)) ?_ ?_
                · simp only [Instr.sliceAt, Instr.slice, Sem.run_bind, run_underlying hu w, Result.andThen_ok, hsb, sizeT_ok hsz w, Sem.run_pure]
                · refine ⟨pl, hpl, _, _, _, rfl, ?_, by omega, ?_, ?_, ?_⟩
                  · rw [den_sub]; omega
                  · rw [den_add]; omega
                  · rw [den_add]
                    have e1 : ((o.den Φ ρ).int + (lT.den Φ ρ).int).toNat + ((mT.den Φ ρ).int.toNat - (lT.den Φ ρ).int.toNat) ≤ (o.den Φ ρ).int.toNat + c := by omega
                    have := Nat.mul_le_mul_right sz e1
                    omega
                  · intro hc
                    rw [if_neg (by omega), ha (by omega), den_add]
                    have e1 : ((o.den Φ ρ).int + (lT.den Φ ρ).int).toNat = (o.den Φ ρ).int.toNat + (lT.den Φ ρ).int.toNat := by omega
                    simp only [Option.map_some, Addr.add_mid, e1, Nat.add_mul]
                    congr 2
                    omega
              · cases h
            · cases h
        · cases h
      · simp only [V.rep, W.rep, C.rep] at hx
        subst hx
        split at h
        · cases mxv with
          | some _ => exact hmx.elim
          | none =>
            split at h
            · rename_i hh0 hl0
              rw [rv_some h]
              have hh : (hiv = none ∧ (0 : Int) = (0 : Nat)) ∨ ∃ k, hiv = some (.int k 0) := by
                rcases bound0 hh0 hhi with ⟨_, q, _⟩ | q
                · exact .inl ⟨q, rfl⟩
                · exact .inr q
              have hl' : (lov = none ∧ (0 : Int) = 0) ∨ ∃ k, lov = some (.int k 0) := by
                rcases bound0 hl0 hlo with ⟨_, q, _⟩ | q
                · exact .inl ⟨q, rfl⟩
                · exact .inr q
              have hsb := sliceBounds_ok (P := P) true 0 0 hh hl' (Int.le_refl _) (Int.le_refl _) (Int.le_refl _) w
              refine Did.same (v := .slice none 0 0) ?_ rfl
              simp only [Instr.sliceAt, Instr.slice, Sem.run_bind, run_underlying hu w, Result.andThen_ok, hsb, sizeT_ok hsz w, Sem.run_pure]
              rfl
            · cases h
        · split at h
          · rename_i hm0 hh0 hl0
            rw [rv_some h]
            rcases bound0 hm0 hmx with ⟨q, _⟩ | ⟨km, rfl⟩
            · cases q
            · have hh : ∃ k, hiv = some (.int k 0) := by
                rcases bound0 hh0 hhi with ⟨_, _, q⟩ | q
                · exact absurd q (fun e => by injection e with e; cases e)
                · exact q
              have hl' : lov = none ∨ ∃ k, lov = some (.int k 0) := by
                rcases bound0 hl0 hlo with ⟨_, q, _⟩ | q
                · exact .inl q
                · exact .inr q
              have hsb := sliceBounds3_ok (P := P) (k := km) 0 0 hh hl' w
              refine Did.same (v := .slice none 0 0) ?_ ⟨none, rfl⟩
              simp only [Instr.sliceAt, Instr.slice, Sem.run_bind, run_underlying hu w, Result.andThen_ok, hsb, sizeT_ok hsz w, Sem.run_pure]
              rfl
          · cases h
      · cases h
  · rename_i n e hu
    split at h
    · cases h
    · rename_i sz hsz
      split at h
      · rename_i j pe st r
        split at h
        · rename_i base rwf xs hbase hj
          split at h
          · rename_i hxs
            cases mxv with
            | some _ => exact hmx.elim
            | none =>
              split at h
              · rename_i hT lT hhT hlT
                obtain ⟨h1, h⟩ := chkT_some hEb h
                obtain ⟨h2, h⟩ := chkT_some hEb h
                obtain ⟨h3, h⟩ := chkT_some hEb h
                replace h1 := le_chk h1
                replace h2 := le_chk h2
                replace h3 := le_chk h3
                simp only [T.den, D.int_i, Int.ofNat_eq_natCast] at h1 h3
                rw [rv_some h]
                simp only [V.rep, W.rep, C.rep] at hx
                obtain ⟨pl, hpl, rfl⟩ := hx
                obtain ⟨pl', hpl', hrep⟩ := hm.1 j _ hj
                rw [hpl] at hpl'
                injection hpl' with hpl'
                subst hpl'
                have hsz' : xs.length ≤ pl.sz := hrep.1.1
                have hb := baseOf_ok (Φ := Φ) (ρ := ρ) hbase
                have bh : (hiv = none ∧ (hT.den Φ ρ).int = (n : Int)) ∨ ∃ k, hiv = some (.int k (hT.den Φ ρ).int) := by
                  rcases boundT_ok (ov := hiv) hhT (by cases hi <;> cases hiv <;> exact hhi) with ⟨q1, q2, _⟩ | q
                  · exact .inl ⟨q1, by rw [q2]; rfl⟩
                  · exact .inr q
                have bl : (lov = none ∧ (lT.den Φ ρ).int = 0) ∨ ∃ k, lov = some (.int k (lT.den Φ ρ).int) := by
                  rcases boundT_ok (ov := lov) hlT (by cases lo <;> cases lov <;> exact hlo) with ⟨q1, q2, _⟩ | q
                  · exact .inl ⟨q1, by rw [q2]; rfl⟩
                  · exact .inr q
                have hsb := sliceBounds_ok (P := P) false n n bh bl h1 h2 (by omega) w
                refine Did.same (v := .slice (some (if n = (lT.den Φ ρ).int.toNat then ⟨pl.b, pl.o + (r + (pe.den Φ ρ).int.toNat * st), none⟩ else Addr.add ⟨pl.b, pl.o + (r + (pe.den Φ ρ).int.toNat * st), none⟩ ((lT.den Φ ρ).int.toNat * sz))) ((hT.den Φ ρ).int.toNat - (lT.den Φ ρ).int.toNat) (n - (lT.den Φ ρ).int.toNat)) ?_ ?_
                · simp only [Instr.sliceAt, Instr.sureAddr, Sem.run_bind, run_underlying hu w, Result.andThen_ok, hsb, sizeT_ok hsz w, Sem.run_pure]
                · refine ⟨pl, hpl, _, _, _, rfl, ?_, by omega, h1, ?_, ?_⟩
                  · rw [den_sub]; omega
                  · have e1 : (lT.den Φ ρ).int.toNat + (n - (lT.den Φ ρ).int.toNat) = n := by omega
                    rw [e1]; omega
                  · intro hc
                    rw [if_neg (by omega), hb, Addr.add_mid]
                    congr 2
                    omega
              · cases h
          · cases h
        · cases h
      · cases h
  · cases h
end
end Go.Proofs.Ytlgiibchnnaceaa.Sx
