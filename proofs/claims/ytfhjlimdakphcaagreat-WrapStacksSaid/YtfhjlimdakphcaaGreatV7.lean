/- Sx: texts of this claim put together: Lm. Conditions: none. -/
import Derived.Test.YtfhjlimdakphcaaGreatV6
import Derived.ChangeArms
import Derived.OpenShut
import Derived.DataReads
/- Sx laws, part 3: slices of structs of whole numbers (and Bools) that came in. Conditions: none. -/
set_option linter.unusedVariables false
set_option linter.unusedSimpArgs false
namespace Go.Proofs.YtfhjlimdakphcaaGreat.Sx
open Go Go.RowKit Go.WideShapes Go.ChangeShapes
/-! Kinds of a flat type's cells; none: a Bool. -/
def flatS (K : TypeId → Option (List (Option IntKind))) (sz : TypeId → Nat) : List Field → Nat → Option (List (Option IntKind))
  | [], _ => some []
  | f :: fs, o => match K f.type with
    | some ks => if f.offset = o ∧ ks.length = sz f.type then (flatS K sz fs (o + ks.length)).map (ks ++ ·) else none
    | none => none
def repK (ks : List (Option IntKind)) : Nat → List (Option IntKind)
  | 0 => []
  | n + 1 => repK ks n ++ ks
def kflat (P : Program) : Nat → TypeId → Option (List (Option IntKind))
  | 0, _ => none
  | n + 1, t => match P.underlying t with
    | some .bool => some [none]
    | some (.int k) => some [some k]
    | some (.struct fs) => match flatS (kflat P n) P.cellsOf fs.toList 0 with
      | some ks => if ks.length = P.cellsOf t then some ks else none
      | none => none
    | some (.array m e) => match kflat P n e with
      | some ks => if ks.length = P.cellsOf e ∧ m * ks.length = P.cellsOf t then some (repK ks m) else none
      | none => none
    | _ => none
def fitC : Option IntKind → Value → Prop
  | none, v => ∃ b, v = .bool b
  | some k, v => ∃ n, v = .int k n ∧ (kmin k ≤ n ∧ n ≤ kmax k)
def fitsL : List (Option IntKind) → List Value → Prop
  | [], [] => True
  | k :: ks, v :: vs => fitC k v ∧ fitsL ks vs
  | _, _ => False
theorem fits_app : ∀ {a b : List (Option IntKind)} {x y : List Value}, fitsL a x → fitsL b y → fitsL (a ++ b) (x ++ y)
  | [], _, [], _, _, h => h
  | [], _, _ :: _, _, h, _ => h.elim
  | _ :: _, _, [], _, h, _ => h.elim
  | _ :: _, _, _ :: _, _, h, k => ⟨h.1, fits_app h.2 k⟩
theorem fits_len : ∀ {a : List (Option IntKind)} {x : List Value}, fitsL a x → a.length = x.length
  | [], [], _ => rfl
  | [], _ :: _, h => h.elim
  | _ :: _, [], h => h.elim
  | _ :: _, _ :: _, h => by simp [fits_len h.2]
theorem fits_get : ∀ {a : List (Option IntKind)} {x : List Value}, fitsL a x → ∀ {i : Nat} {k : Option IntKind}, a[i]? = some k → ∃ v, x[i]? = some v ∧ fitC k v
  | [], [], _, i, k, h => by simp at h
  | [], _ :: _, h, _, _, _ => h.elim
  | _ :: _, [], h, _, _, _ => h.elim
  | k :: a, v :: x, h, 0, k', e => by
    simp only [List.getElem?_cons_zero, Option.some.injEq] at e
    subst e; exact ⟨v, rfl, h.1⟩
  | k :: a, v :: x, h, i + 1, k', e => by
    simp only [List.getElem?_cons_succ] at e ⊢
    exact fits_get h.2 e
section
variable {H : Type} {enc : TypeId × Value → H} {P : Program} {W : World} {base : Nat} {spare : Nat → Bool} {held : Bool}
theorem flatS_fits {K : TypeId → Option (List (Option IntKind))} {sz : TypeId → Nat} {m : Nat} {cs : List Value} (ih : ∀ {t : TypeId} {ks : List (Option IntKind)}, K t = some ks → ∀ {cs : List Value} {x : DataW H × List MemPlace}, DataW.trod enc P W base spare held m t cs = some x → fitsL ks cs) :
    ∀ (l : List Field) (o : Nat) (ks : List (Option IntKind)), flatS K sz l o = some ks → (∀ f ∈ l, ∃ x, DataW.trod enc P W base spare held m f.type ((cs.drop f.offset).take (sz f.type)) = some x) → fitsL ks ((cs.drop o).take ks.length)
  | [], o, ks, h, _ => by
    simp only [flatS, Option.some.injEq] at h
    subst h; simp [fitsL]
  | f :: fs, o, ks, h, hx => by
    simp only [flatS] at h
    split at h
    · rename_i k1 hk1
      split at h
      · rename_i hc
        obtain ⟨k2, hk2, rfl⟩ := Option.map_eq_some_iff.mp h
        obtain ⟨x, hx1⟩ := hx f (List.mem_cons_self ..)
        have h1 := ih hk1 hx1
        rw [hc.1, ← hc.2] at h1
        have h2 := flatS_fits ih fs _ _ hk2 (fun g hg => hx g (List.mem_cons_of_mem _ hg))
        rw [List.length_append, List.take_add, List.drop_drop]
        exact fits_app h1 h2
      · cases h
    · cases h
theorem flat_trod : ∀ (F : Nat) {t : TypeId} {ks : List (Option IntKind)}, kflat P F t = some ks → ∀ {fuel : Nat} {cs : List Value} {x : DataW H × List MemPlace}, DataW.trod enc P W base spare held fuel t cs = some x → fitsL ks cs
  | 0, t, ks, h, _, _, _, _ => by cases h
  | F + 1, t, ks, h, fuel, cs, x, hx => by
    simp only [kflat] at h
    split at h
    · rename_i hu
      injection h with h; subst h
      obtain ⟨b, rfl, _⟩ := DataW.trod_bool hu hx
      exact ⟨⟨b, rfl⟩, trivial⟩
    · rename_i k hu
      injection h with h; subst h
      obtain ⟨n, rfl, _, hw⟩ := DataW.trod_int hu hx
      exact ⟨⟨n, rfl, wf_bounds hw⟩, trivial⟩
    · rename_i fs hu
      split at h
      · rename_i k1 hk1
        split at h
        · rename_i hc
          injection h with h; subst h
          obtain ⟨xs, n, rfl, _, hl, hxl, hf⟩ := DataW.trod_struct hu hx
          have := flatS_fits (m := n) (cs := cs) (fun hk => fun {cs x} hx => flat_trod F hk hx) fs.toList 0 k1 hk1 (fun f hf' => by
            obtain ⟨i, hi⟩ := List.getElem?_of_mem hf'
            have hi' : fs[i]? = some f := by rw [← Array.getElem?_toList]; exact hi
            have hlt : i < xs.length := by rw [hxl]; exact (Array.getElem?_eq_some_iff.1 hi').1
            exact ⟨xs[i], by rw [hf i f hi', List.getElem?_eq_getElem hlt]⟩)
          rw [List.drop_zero, List.take_of_length_le (by omega)] at this
          exact this
        · cases h
      · cases h
    · rename_i m e hu
      split at h
      · rename_i k1 hk1
        split at h
        · rename_i hc
          injection h with h; subst h
          obtain ⟨xs, n, rfl, _, hl, hxl, hf⟩ := DataW.trod_array hu hx
          have each : ∀ j, j ≤ m → fitsL (repK k1 j) (cs.take (j * k1.length)) := by
            intro j
            induction j with
            | zero => intro _; simp [repK, fitsL]
            | succ j ihj =>
              intro hj
              rw [Nat.succ_mul, List.take_add]
              refine fits_app (ihj (by omega)) ?_
              have := hf j (by omega)
              rw [List.getElem?_eq_getElem (by omega), ← hc.1] at this
              exact flat_trod F hk1 this
          have := each m (Nat.le_refl _)
          rw [List.take_of_length_le (by omega)] at this
          exact this
        · cases h
      · cases h
    · cases h
end
/-! A row of such elements. -/
def encV : Value → Int
  | .int _ n => n
  | .bool b => if b then 1 else 0
  | _ => 0
def kAtM (mix : Bool) (ks : List IntKind) (i : Nat) : Option IntKind := if mix ∧ i = 0 then none else some (ks.getD i .u8)
structure RowS (mix : Bool) (ks : List IntKind) (w : World) (a : Option Addr) (len cap : Nat) (l : List Int) (pl : Place) : Prop where
  heap : pl.sz ≠ 0 → pl.b < w.heap.size
  row : (mix = false → rowRep w pl ks l) ∧ (mix = true → mixRep w pl ks l)
  long : l.length = len * ks.length
  le : len ≤ cap
  fit : cap * ks.length ≤ pl.sz
  at_ : 0 < cap → a = some ⟨pl.b, pl.o, none⟩
  kin : inKinds ks 0 l = true
theorem addr_add2 (b o i j : Nat) : ((⟨b, o, none⟩ : Addr).add i).add j = ⟨b, o + i + j, none⟩ := by
  simp only [Addr.add]
  by_cases hi : i = 0
  · subst hi
    by_cases hj : j = 0
    · subst hj; rfl
    · simp [hj]
  · by_cases hj : j = 0
    · subst hj; simp [hi]
    · simp [hi, hj]
theorem cell_spot {w : World} {x : Addr} {v : Value} (h : w.cell? x = some v) (hv : ∃ k, fitC k v) : x.spot = none := by
  cases hs : x.spot with
  | none => rfl
  | some s =>
    exfalso
    unfold World.cell? at h
    rw [hs] at h
    obtain ⟨k, hk⟩ := hv
    cases k with
    | none => obtain ⟨b, rfl⟩ := hk; revert h; split <;> simp
    | some k => obtain ⟨n, rfl, _⟩ := hk; revert h; split <;> simp
theorem rows_of {H : Type} {enc : TypeId × Value → H} {P : Program} {W : World} {base : Nat} {spare : Nat → Bool} {held : Bool} {t e F : Nat} {ks : List IntKind} {mix : Bool} {ko : List (Option IntKind)} {a : Option Addr} {len cap : Nat} {d : DataW H} {ps : List MemPlace} (hsp : ∀ b, spare b = true)
    (hu : P.underlying t = some (.slice e)) (hk : kflat P F e = some ko) (hko : ko = (List.range ks.length).map (kAtM mix ks)) (hc : P.cellsOf e = ks.length) (hpos : 0 < ks.length) (hm0 : mix = true → ks.getD 0 .u8 = .u8) (h : DataW.Trod enc P W base spare held t (.slice a len cap) d ps) :
    ∃ l pl, RowS mix ks W a len cap l pl := by
  obtain ⟨fuel, hf⟩ := h
  rcases DataW.trod_slice hu hf with ⟨hcs, _⟩ | ⟨x, len', cap', elems, rest, n, _, hcs, _, _, hl, hm, hlen, hel, hre, _⟩
  · simp [Value.cells] at hcs
    obtain ⟨rfl, rfl, rfl⟩ := hcs
    exact ⟨[], ⟨0, 0, 0⟩, fun h => absurd rfl h, ⟨fun _ => ⟨hpos, by simp, fun i z hz => by simp at hz⟩, fun _ => ⟨hpos, by simp, fun i z hz => by simp at hz⟩⟩, by simp, Nat.le_refl _, by simp, fun h => absurd h (by omega), by simp [inKinds]⟩
  · simp [Value.cells] at hcs
    obtain ⟨rfl, rfl, rfl⟩ := hcs
    have each : ∀ i, i < cap → ∃ cs, (∀ j, j < ks.length → W.cell? ((x.add (i * ks.length)).add j) = cs[j]?) ∧ fitsL ko cs := by
      intro i hi
      have : ∃ y, (W.cells? base (x.add (i * P.cellsOf e)) (P.cellsOf e)).bind (DataW.trod enc P W base spare held n e) = some y := by
        by_cases hil : i < len
        · exact ⟨elems[i]'(by omega), by rw [hel i hil, List.getElem?_eq_getElem (by omega)]⟩
        · obtain ⟨hrl, hr⟩ := hre (hsp _)
          have := hr (i - len) (by omega)
          rw [show len + (i - len) = i by omega] at this
          exact ⟨rest[i - len]'(by omega), by rw [this, List.getElem?_eq_getElem (by omega)]⟩
      obtain ⟨y, hy⟩ := this
      rw [Option.bind_eq_some_iff] at hy
      obtain ⟨cs, h1, h2⟩ := hy
      rw [hc] at h1
      exact ⟨cs, (World.cells?_some h1).2.2, flat_trod F hk h2⟩
    by_cases h0 : cap = 0
    · have : len = 0 := by omega
      subst this
      exact ⟨[], ⟨0, 0, 0⟩, fun h => absurd rfl h, ⟨fun _ => ⟨hpos, by simp, fun i z hz => by simp at hz⟩, fun _ => ⟨hpos, by simp, fun i z hz => by simp at hz⟩⟩, by simp, hl, by simp [h0], fun h => absurd h (by omega), by simp [inKinds]⟩
    · have hkol : ko.length = ks.length := by rw [hko]; simp
      have first : ∀ i, i < cap → ∀ j, j < ks.length → ∃ v, W.cell? ((x.add (i * ks.length)).add j) = some v ∧ fitC (kAtM mix ks j) v := by
        intro i hi j hj
        obtain ⟨cs, h1, h2⟩ := each i hi
        obtain ⟨v, hv, hfit⟩ := fits_get h2 (i := j) (k := kAtM mix ks j) (by rw [hko, List.getElem?_map, List.getElem?_range hj]; rfl)
        exact ⟨v, by rw [h1 j hj, hv], hfit⟩
      have hx : x.spot = none := by
        obtain ⟨v, hv, hfit⟩ := first 0 (by omega) 0 hpos
        have := cell_spot hv ⟨_, hfit⟩
        rw [Nat.zero_mul] at this
        cases x with
        | mk b o s =>
          cases s with
          | none => rfl
          | some s => simp [Addr.add] at this
      have ha : ∀ i j, (x.add i).add j = ⟨x.block, x.off + i + j, none⟩ := fun i j => by
        have e : x = ⟨x.block, x.off, none⟩ := by cases x; cases hx; rfl
        rw [e]; exact addr_add2 _ _ i j
      have cell : ∀ p, p < cap * ks.length → ∃ v, W.cell? ⟨x.block, x.off + p, none⟩ = some v ∧ fitC (kAtM mix ks (p % ks.length)) v := by
        intro p hp
        have h1 : p / ks.length < cap := (Nat.div_lt_iff_lt_mul hpos).mpr hp
        obtain ⟨v, hv, hfit⟩ := first (p / ks.length) h1 (p % ks.length) (Nat.mod_lt _ hpos)
        rw [ha] at hv
        refine ⟨v, ?_, hfit⟩
        rw [← hv]
        congr 2
        have := Nat.div_add_mod' p ks.length
        omega
      obtain ⟨l, hl'⟩ : ∃ l : List Int, l = (List.range (len * ks.length)).map fun p => encV ((W.cell? ⟨x.block, x.off + p, none⟩).getD undef) := ⟨_, rfl⟩
      have hll : l.length = len * ks.length := by rw [hl']; simp
      have get : ∀ p z, l[p]? = some z → ∃ v, W.cell? ⟨x.block, x.off + p, none⟩ = some v ∧ fitC (kAtM mix ks (p % ks.length)) v ∧ z = encV v := by
        intro p z hz
        have hp : p < len * ks.length := by rw [← hll]; exact (List.getElem?_eq_some_iff.1 hz).1
        obtain ⟨v, hv, hfit⟩ := cell p (Nat.lt_of_lt_of_le hp (Nat.mul_le_mul_right _ hl))
        rw [hl', List.getElem?_map, List.getElem?_range hp, Option.map_some, hv] at hz
        exact ⟨v, hv, hfit, by simpa using hz.symm⟩
      have hsz : len * ks.length ≤ cap * ks.length := Nat.mul_le_mul_right _ hl
      refine ⟨l, ⟨x.block, x.off, cap * ks.length⟩, fun _ => ?_, ⟨fun hm => ⟨hpos, by rw [hll]; exact hsz, fun i z hz => ?_⟩, fun hm => ⟨hpos, by rw [hll]; exact hsz, fun i z hz => ?_⟩⟩, hll, hl, Nat.le_refl _, fun _ => by rw [← hx], ?_⟩
      · obtain ⟨v, hv, _⟩ := cell 0 (Nat.mul_pos (by omega) hpos)
        exact cell_heap hv
      · obtain ⟨v, hv, hfit, rfl⟩ := get i z hz
        rw [hm] at hfit
        obtain ⟨n, rfl, _⟩ := hfit
        exact hv
      · obtain ⟨v, hv, hfit, rfl⟩ := get i z hz
        unfold mixV
        split
        · rename_i e
          rw [hm, e] at hfit
          obtain ⟨b, rfl⟩ := hfit
          rw [hv]; cases b <;> rfl
        · rename_i e
          have : kAtM mix ks (i % ks.length) = some (ks.getD (i % ks.length) .u8) := by simp [kAtM, e]
          rw [this] at hfit
          obtain ⟨n, rfl, _⟩ := hfit
          exact hv
      · rw [inKinds_iff]
        intro j z hz
        obtain ⟨v, hv, hfit, rfl⟩ := get j z hz
        rw [Nat.zero_add, kAt]
        by_cases e : mix = true ∧ j % ks.length = 0
        · have : kAtM mix ks (j % ks.length) = none := by simp [kAtM, e]
          rw [this] at hfit
          obtain ⟨b, rfl⟩ := hfit
          rw [e.2, hm0 e.1]
          cases b <;> decide
        · have : kAtM mix ks (j % ks.length) = some (ks.getD (j % ks.length) .u8) := by simp only [kAtM]; rw [if_neg e]
          rw [this] at hfit
          obtain ⟨n, rfl, hb⟩ := hfit
          exact hb
theorem rows_sized {H : Type} {enc : TypeId × Value → H} {P : Program} {W : World} {base : Nat} {spare : Nat → Bool} {held : Bool} {t e : TypeId} {a : Option Addr} {len cap : Nat} {d : DataW H} {ps : List MemPlace} {ts : List TypeId} {ds : List (DataW H)} {j : Nat}
    (hsz : (DataW.weightsEach P ts ds).all (· ≤ reachBytes) = true) (ht : ts[j]? = some t) (hd : ds[j]? = some d) (hu : P.underlying t = some (.slice e)) {B : Nat} (hB : P.bytesOf e = B) (hb1 : 1 ≤ B)
    (h : DataW.Trod enc P W base spare held t (.slice a len cap) d ps) : len ≤ 140737488351232 ∧ len * B ≤ 140737488351232 := by
  obtain ⟨fuel, hf⟩ := h
  rcases DataW.trod_slice hu hf with ⟨hcs, _⟩ | ⟨x, len', cap', elems, rest, n, _, hcs, hd', _, hl, hm, hlen, _, _, _⟩
  · simp [Value.cells] at hcs
    obtain ⟨rfl, rfl, rfl⟩ := hcs
    simp
  · simp [Value.cells] at hcs
    obtain ⟨rfl, rfl, rfl⟩ := hcs
    obtain ⟨hx, _⟩ := Prod.mk.inj hd'
    subst hx
    have z := sized_slice hsz ht hd hu
    rw [hB, List.length_map, List.length_map, hlen] at z
    have h1 : len * 1 ≤ (len + rest.length) * B := Nat.mul_le_mul (Nat.le_add_right _ _) hb1
    have h2 : len * B ≤ (len + rest.length) * B := Nat.mul_le_mul (Nat.le_add_right _ _) (Nat.le_refl _)
    have : (len + rest.length) * B ≤ 140737488351232 := z
    exact ⟨by omega, by omega⟩
section
variable {Φ : Sig} {ρ : Env} {β : Map} {w : World}
theorem slcS_rep {j v st : Nat} {a : Option Addr} {len cap : Nat} {l : List Int} {pl : Place} {ks : List IntKind} {mix : Bool} (hj : β j = some pl) (hst : ks.length = st) (hn : ρ v = .i len) (h : RowS mix ks w a len cap l pl) : (V.c (.s j st 0 (.num 0) (.var v))).rep (T.den Φ ρ) β (.slice a len cap) := by
  refine ⟨pl, hj, a, len, cap, rfl, ?_, h.le, by simp [T.den], ?_, fun hc => ?_⟩
  · simp [T.den, hn]
  · have := h.fit
    rw [hst] at this
    simp [T.den]; omega
  · have := h.at_ hc
    simpa [T.den] using this
theorem rowS_mem {v : Nat} {a : Option Addr} {len cap : Nat} {l : List Int} {pl : Place} {ks : List IntKind} (hv : ρ v = .l l) (h : RowS false ks w a len cap l pl) : (MB.mk false (.row ks (.var v))).rep (T.den Φ ρ) β w pl := by
  refine ⟨?_, fun h => by cases h⟩
  have := h.row.1 rfl
  simpa [Blk.rep, T.den, hv] using this
theorem mixS_mem {v : Nat} {a : Option Addr} {len cap : Nat} {l : List Int} {pl : Place} {ks : List IntKind} (hv : ρ v = .l l) (h : RowS true ks w a len cap l pl) : (MB.mk false (.mix ks (.var v))).rep (T.den Φ ρ) β w pl := by
  refine ⟨?_, fun h => by cases h⟩
  have := h.row.2 rfl
  simpa [Blk.rep, T.den, hv] using this
theorem bulk_val {n B : Nat} {len : Nat} {x : O Res} {res : Res} (hn : ρ n = .i len) (h : len * B ≤ 140737488351232) (hx : x.val (T.den Φ ρ) = some res) : (O.chk (.c2 .le (.c2 .mul (.var n) (.num (B : Int))) (.num 140737488355328)) x).val (T.den Φ ρ) = some res := by
  have h1 : (len : Int) * (B : Int) ≤ 140737488355328 := by have : ((len * B : Nat) : Int) ≤ 140737488351232 := by omega
                                                            rw [Int.natCast_mul] at this; omega
  simp only [O.val, T.den, O2.den, hn, D.int_i, D.bool_b, h1, decide_true, if_true]
  exact hx
/-- What a contract asks of such a slice. -/
theorem rowS_val {n v st : Nat} {a : Option Addr} {len cap : Nat} {l : List Int} {pl : Place} {ks : List IntKind} {mix : Bool} {x : O Res} {res : Res} (hn : ρ n = .i len) (hv : ρ v = .l l) (hst : ks.length = st) (h : RowS mix ks w a len cap l pl) (hs : len ≤ 140737488351232) (hx : x.val (T.den Φ ρ) = some res) :
    (O.chk (.c2 .le (.num 0) (.var n)) (.chk (.c2 .le (.var n) (.num 140737488351232)) (.chk (.c2 .eq (.c1 .len (.var v)) (.c2 .mul (.var n) (.num (st : Int)))) (.chk (.c1 (.kin ks) (.var v)) x)))).val (T.den Φ ρ) = some res := by
  have h1 : (0 : Int) ≤ len := Int.natCast_nonneg _
  have h2 : (len : Int) ≤ 140737488351232 := by omega
  have h3 : (l.length : Int) = (len : Int) * (st : Int) := by rw [h.long, hst]; exact Int.natCast_mul _ _
  simp only [O.val, T.den, O2.den, U1.den, hn, hv, D.int_i, D.list_l, D.bool_b, h1, h2, h3, h.kin, decide_true, beq_self_eq_true, if_true]
  exact hx
end
end Go.Proofs.YtfhjlimdakphcaaGreat.Sx
