/- Sx laws, part 2: from what a row lets in to a contract's patterns. Conditions: none. -/
import Derived.Test.YtlgiibchnnaceaaCom
import Derived.ProofKit
import Derived.OpenShut
import Derived.ShutString
import Derived.ChangeOld
import Derived.ChangeSlices
import Derived.SizedLaws
import Derived.WideShapes
set_option linter.unusedVariables false
set_option linter.unusedSimpArgs false
namespace Go.Proofs.Ytlgiibchnnaceaa.Sx
open Go Go.RowKit Go.WideShapes Go.ChangeShapes

/-- What a contract of 'true' says of a call. -/
theorem true_calls {P : Program} {Φ : Sig} {f : FuncId} {t : Tmpl} (ht : TmplOk P Φ f t) {ρ : Env} {nb : Nat} (hres : t.res.val (T.den Φ ρ) = some ⟨.c (.b (.bol true)), [], nb⟩) {args : List Value} {β : Map} {w : World}
    (hargs : repVs (T.den Φ ρ) β t.vs args) (hin : inHeap β w) (hm : memRep (T.den Φ ρ) β w (look t.bs)) (hfree : ∀ j, lenN t.bs ≤ j → β j = none) :
    Calls P f args.toArray w fun e w' => e = .returned (.bool true) ∧ Below w.heap.size w w' := by
  refine (ht ρ _ hres args β w hargs hin hm hfree).mono ?_
  rintro e w' ⟨v, β', rfl, hv, hs⟩
  refine ⟨?_, hs.os, hs.tape, hs.output, hs.size, fun k hk => hs.kept k hk (fun j pl hj => by cases hj)⟩
  have : v = .bool true := hv
  rw [this]
def envL (l : List D) : Env := fun i => nthD l i
def mapP (l : List Place) : Map := fun j => l[j]?
/-- A slice of whole numbers that came in: its cells and those behind them. -/
def IsRow (k : IntKind) (w : World) (a : Option Addr) (len cap : Nat) (zs : List Int) : Prop :=
  (a = none ∧ len = 0 ∧ cap = 0 ∧ zs = []) ∨
  ∃ x, a = some x ∧ len ≤ cap ∧ cap ≤ maxLen ∧ zs.length = cap ∧ (∀ i, i < zs.length → w.cell? (x.add i) = some (.int k (zs.getD i 0))) ∧ ∀ n ∈ zs, (Lit.int k n).wf = true
structure RowIn (k : IntKind) (w : World) (a : Option Addr) (len cap : Nat) (l : List Int) (pl : Place) : Prop where
  heap : pl.sz ≠ 0 → pl.b < w.heap.size
  row : rowRep w pl [k] l
  long : l.length = len
  le : len ≤ cap
  fit : cap ≤ pl.sz
  at_ : 0 < cap → a = some ⟨pl.b, pl.o, none⟩
  wf : ∀ z ∈ l, (Lit.int k z).wf = true
theorem cell_heap {w : World} {b o : Nat} {v : Value} (h : w.cell? ⟨b, o, none⟩ = some v) : b < w.heap.size := by
  unfold World.cell? at h
  by_cases hb : b < w.heap.size
  · exact hb
  · rw [Array.getElem?_eq_none (by simpa using hb)] at h; cases h
theorem row_in {k : IntKind} {w : World} {a : Option Addr} {len cap : Nat} {zs : List Int} (h : IsRow k w a len cap zs) : ∃ l pl, RowIn k w a len cap l pl := by
  rcases h with ⟨rfl, rfl, rfl, rfl⟩ | ⟨x, rfl, hl, _, hz, hc, hw⟩
  · exact ⟨[], ⟨0, 0, 0⟩, fun h => absurd rfl h, ⟨by simp, by simp, fun i z hz => by simp at hz⟩, rfl, Nat.le_refl _, Nat.le_refl _, fun h => absurd h (by omega), fun z hz => by cases hz⟩
  · by_cases h0 : cap = 0
    · have : zs = [] := List.eq_nil_of_length_eq_zero (by omega)
      subst this
      exact ⟨[], ⟨0, 0, 0⟩, fun h => absurd rfl h, ⟨by simp, by simp, fun i z hz => by simp at hz⟩, by simp; omega, hl, by simp [h0], fun h => absurd h (by omega), fun z hz => by cases hz⟩
    · have hx : x.spot = none := by
        have := hc 0 (by omega)
        unfold World.cell? at this
        cases hs : x.spot with
        | none => rfl
        | some s => rw [show (x.add 0).spot = x.spot from rfl, hs] at this; revert this; split <;> simp
      have ha : ∀ i, x.add i = ⟨x.block, x.off + i, none⟩ := fun i => by cases x; cases hx; simp [Addr.add]
      have hcell : ∀ i, i < cap → w.cell? ⟨x.block, x.off + i, none⟩ = some (.int k (zs.getD i 0)) := fun i hi => by rw [← ha]; exact hc i (by omega)
      refine ⟨zs.take len, ⟨x.block, x.off, cap⟩, fun _ => cell_heap (hcell 0 (by omega)), ⟨by simp, by simp; omega, fun i z hi => ?_⟩, by simp; omega, hl, Nat.le_refl _, fun _ => by rw [← hx], fun z hm => hw z (List.mem_of_mem_take hm)⟩
      have hi' : i < len ∧ zs[i]? = some z := by
        rw [List.getElem?_take] at hi
        split at hi
        · exact ⟨by assumption, hi⟩
        · cases hi
      rw [hcell i (by omega), List.getD_eq_getElem?_getD, hi'.2]
      simp [Nat.mod_one]
section
variable {Φ : Sig} {ρ : Env} {β : Map} {w : World}
theorem slc_rep {j v : Nat} {a : Option Addr} {len cap : Nat} {l : List Int} {pl : Place} {k : IntKind} (hj : β j = some pl) (hv : ρ v = .l l) (h : RowIn k w a len cap l pl) : (slc j v).rep (T.den Φ ρ) β (.slice a len cap) := by
  refine ⟨pl, hj, a, len, cap, rfl, ?_, h.le, ?_, ?_, fun hc => ?_⟩
  · simp [T.den, U1.den, hv, h.long]
  · simp [T.den]
  · have := h.fit
    simp [T.den]; omega
  · have := h.at_ hc
    simpa [T.den] using this
theorem row_mem {v : Nat} {a : Option Addr} {len cap : Nat} {l : List Int} {pl : Place} {k : IntKind} (hv : ρ v = .l l) (h : RowIn k w a len cap l pl) : (MB.mk false (.row [k] (.var v))).rep (T.den Φ ρ) β w pl := by
  refine ⟨?_, fun h => by cases h⟩
  have := h.row
  simpa [Blk.rep, T.den, hv] using this
/-- Blocks that are not the run's own. -/
theorem mem_in {bs : Bs} (h : ∀ j m, look bs j = some m → m.rw = false ∧ ∃ pl, β j = some pl ∧ m.rep (T.den Φ ρ) β w pl) : memRep (T.den Φ ρ) β w (look bs) :=
  ⟨fun j m hj => (h j m hj).2, fun j j' m m' pl pl' _ hj _ hrw => by rw [(h j m hj).1] at hrw; cases hrw⟩
theorem look_one {j : Nat} {m0 : MB} {bs : Bs} {Q : MB → Nat → Prop} (h0 : Q m0 j) (h : ∀ i m, look bs i = some m → Q m i) : ∀ i m, look ((j, m0) :: bs) i = some m → Q m i := by
  intro i m hm
  simp only [look] at hm
  split at hm
  · rename_i e; injection hm with hm; subst hm; rw [← Nat.eq_of_beq_eq_true e]; exact h0
  · exact h i m hm
theorem look_nil {Q : MB → Nat → Prop} : ∀ i m, look ([] : Bs) i = some m → Q m i := fun i m h => by cases h
theorem in_cons {pl : Place} {pls : List Place} (h : pl.sz ≠ 0 → pl.b < w.heap.size) (hs : inHeap (mapP pls) w) : inHeap (mapP (pl :: pls)) w := by
  intro j p hj hz
  cases j with
  | zero => simp only [mapP, List.getElem?_cons_zero, Option.some.injEq] at hj; subst hj; exact h hz
  | succ j => exact hs j p (by simpa [mapP] using hj) hz
theorem in_nil : inHeap (mapP []) w := fun j p hj => by simp [mapP] at hj
theorem mapP_free {pls : List Place} {n : Nat} (hn : pls.length = n) : ∀ j, n ≤ j → mapP pls j = none := fun j hj => List.getElem?_eq_none (by omega)
/-! Whole numbers in fields. -/
def GoodInts (ks : List IntKind) (xs : List Int) : Prop := ks.length = xs.length ∧ ∀ (i : Nat) k z, ks[i]? = some k → xs[i]? = some z → kmin k ≤ z ∧ z ≤ kmax k
theorem wf_bounds {k : IntKind} {z : Int} (h : (Lit.int k z).wf = true) : kmin k ≤ z ∧ z ≤ kmax k := by
  cases k <;> simp [Lit.wf, IntKind.has, IntKind.min, IntKind.max, IntKind.bits, IntKind.signed] at h <;> simp [kmin, kmax] <;> omega
theorem bounds_wf {k : IntKind} {z : Int} (h : kmin k ≤ z ∧ z ≤ kmax k) : (Lit.int k z).wf = true := by
  cases k <;> simp [kmin, kmax] at h <;> simp [Lit.wf, IntKind.has, IntKind.min, IntKind.max, IntKind.bits, IntKind.signed] <;> omega
theorem good_cons {k : IntKind} {ks : List IntKind} {z : Int} {xs : List Int} : GoodInts (k :: ks) (z :: xs) ↔ (kmin k ≤ z ∧ z ≤ kmax k) ∧ GoodInts ks xs := by
  constructor
  · rintro ⟨h1, h2⟩
    exact ⟨h2 0 k z rfl rfl, by simpa using h1, fun i k' z' a b => h2 (i + 1) k' z' (by simpa using a) (by simpa using b)⟩
  · rintro ⟨h0, h1, h2⟩
    refine ⟨by simpa using h1, fun i k' z' a b => ?_⟩
    cases i with
    | zero => simp at a b; subst a b; exact h0
    | succ i => exact h2 i k' z' (by simpa using a) (by simpa using b)
theorem good_nil : GoodInts [] [] := ⟨rfl, fun i k z h => by simp at h⟩
/-- The values at b, b + 1, .. -/
def AtEnv (ρ : Env) (b : Nat) (xs : List Int) : Prop := ∀ (i : Nat) z, xs[i]? = some z → ρ (b + i) = .i z
theorem cellsV_rep : ∀ {ks : List IntKind} {xs : List Int} {b : Nat}, ks.length = xs.length → AtEnv ρ b xs → repL (T.den Φ ρ) β (cellsV b ks) (ints ks xs)
  | [], [], _, _, _ => trivial
  | [], _ :: _, _, h, _ => by simp at h
  | _ :: _, [], _, h, _ => by simp at h
  | k :: ks, x :: xs, b, h, ha => by
    refine ⟨?_, cellsV_rep (by simpa using h) (fun i z hz => ?_)⟩
    · show Value.int k x = .int k (ρ b).int
      rw [show ρ b = .i x from ha 0 x rfl]; rfl
    · rw [show b + 1 + i = b + (i + 1) from by omega]; exact ha (i + 1) z (by simpa using hz)
theorem inKs_val {x : O Res} {res : Res} : ∀ {ks : List IntKind} {xs : List Int} {b : Nat}, GoodInts ks xs → AtEnv ρ b xs → x.val (T.den Φ ρ) = some res → (inKs b ks x).val (T.den Φ ρ) = some res
  | [], [], _, _, _, h => h
  | [], _ :: _, _, hg, _, _ => by simp [GoodInts] at hg
  | _ :: _, [], _, hg, _, _ => by simp [GoodInts] at hg
  | k :: ks, z :: xs, b, hg, ha, h => by
    obtain ⟨hz, hg⟩ := good_cons.mp hg
    have e : ρ b = .i z := ha 0 z rfl
    simp only [inKs, inR, O.val, T.den, O2.den, e, D.int_i, D.bool_b, hz.1, hz.2, decide_true, if_true]
    exact inKs_val hg (fun i y hy => by rw [show b + 1 + i = b + (i + 1) from by omega]; exact ha (i + 1) y (by simpa using hy)) h
theorem inR_val {v : Nat} {lo hi z : Int} {x : O Res} {res : Res} (e : ρ v = .i z) (h1 : lo ≤ z) (h2 : z ≤ hi) (h : x.val (T.den Φ ρ) = some res) : (inR v lo hi x).val (T.den Φ ρ) = some res := by
  simp only [inR, O.val, T.den, O2.den, e, D.int_i, D.bool_b, h1, h2, decide_true, if_true]; exact h
theorem short_val {v : Nat} {l : List Int} {x : O Res} {res : Res} (e : ρ v = .l l) (h1 : l.length ≤ 140737488351232) (h : x.val (T.den Φ ρ) = some res) : (short v x).val (T.den Φ ρ) = some res := by
  have : (l.length : Int) ≤ 140737488351232 := by omega
  simp only [short, O.val, T.den, O2.den, U1.den, e, D.int_i, D.bool_b, D.list_l, this, decide_true, if_true]; exact h
theorem kinds_val {ks : List IntKind} {v : Nat} {l : List Int} {x : O Res} {res : Res} (e : ρ v = .l l) (h1 : inKinds ks 0 l = true) (h : x.val (T.den Φ ρ) = some res) : (kinds ks v x).val (T.den Φ ρ) = some res := by
  simp only [kinds, O.val, T.den, O2.den, U1.den, e, D.int_i, D.bool_b, D.list_l, h1, if_true]; exact h
theorem bytes_val {v : Nat} {l : List Int} {x : O Res} {res : Res} (e : ρ v = .l l) (h1 : ∀ z ∈ l, (Lit.int .u8 z).wf = true) (h : x.val (T.den Φ ρ) = some res) : (bytes v x).val (T.den Φ ρ) = some res :=
  kinds_val e (bytes_iff.mpr fun z hz => by have := wf_bounds (h1 z hz); simp [kmin, kmax] at this; omega) h
end
theorem env_get {ds : List D} {i : Nat} {d : D} (h : ds[i]? = some d) : envL ds i = d := by
  have : ∀ (ds : List D) (i : Nat), ds[i]? = some d → nthD ds i = d := by
    intro ds
    induction ds with
    | nil => intro i h; simp at h
    | cons x ds ih => intro i h; cases i with
      | zero => simpa [nthD] using h
      | succ i => exact ih i (by simpa using h)
  exact this ds i h
theorem env_ints {pre post : List D} {xs : List Int} {b : Nat} (hb : pre.length = b) : AtEnv (envL (pre ++ (xs.map D.i ++ post))) b xs := by
  intro i z hz
  apply env_get
  have hi : i < xs.length := (List.getElem?_eq_some_iff.1 hz).1
  rw [List.getElem?_append_right (by omega), show b + i - pre.length = i from by omega, List.getElem?_append_left (by simpa using hi), List.getElem?_map, hz]
  rfl
theorem env_after {pre post : List D} {d : D} {b : Nat} (hb : pre.length = b) : envL (pre ++ (d :: post)) b = d := by
  apply env_get
  rw [List.getElem?_append_right (by omega), hb]; simp
/-! What a row lets in, opened. -/
theorem open_flat {P : Program} {w : World} {r : Reach} {base t : Nat} {v : Value} {ts : List TypeId} (ks : List IntKind) (hagg : (match P.underlying t with | some (.struct _) | some (.array _ _) => true | _ => false) = true)
    (hts : P.cellTypes P.depth t = some ts) (hn : P.cellsOf t = ts.length) (hks : ts.map (fun u => P.underlying u) = ks.map (fun k => some (TypeDesc.int k))) (h : Value.okWide P w r base t v) : ∃ xs, GoodInts ks xs ∧ v = .agg (ints ks xs).toArray := by
  have hl : ks.length = ts.length := by simpa using (congrArg List.length hks).symm
  have key : ∃ cs, v = .agg cs ∧ cs.size = P.cellsOf t ∧ Row.okWide P w r base t cs := by
    unfold Value.okWide at h
    split at h
    · exact h
    · exact h
    · rename_i h1 h2
      split at hagg
      · rename_i fs hu; exact absurd hu (h1 fs)
      · rename_i a b hu; exact absurd hu (h2 a b)
      · cases hagg
  obtain ⟨cs, rfl, hsz, ts', hts', _, hall⟩ := key
  rw [hts] at hts'
  obtain rfl := Option.some.inj hts'
  have each : ∀ (i : Nat) k c, ks[i]? = some k → cs.toList[i]? = some c → ∃ x : Int, c = .int k x ∧ (kmin k ≤ x ∧ x ≤ kmax k) := by
    intro i k c hk hc
    have hi : i < ts.length := by rw [← hl]; exact (List.getElem?_eq_some_iff.1 hk).1
    obtain ⟨u, hu, hok⟩ := hall i c (by rw [← Array.getElem?_toList]; exact hc)
    rw [Nat.mod_eq_of_lt hi] at hu
    have hun : P.underlying u = some (.int k) := by
      have := congrArg (fun l => l[i]?) hks
      simp only [List.getElem?_map, hu, hk, Option.map_some, Option.some.injEq] at this
      exact this
    have hv : Value.okWide P w r base u c := by
      unfold Value.okWide
      rw [hun]
      exact hok
    obtain ⟨x, rfl⟩ := okWide_int hun hv
    have hx : k.has x := by
      simp only [Value.okWide, hun, Cell.okWide, Cell.ok] at hv
      simpa using hv
    exact ⟨x, rfl, wf_bounds (by simpa [Lit.wf, IntKind.has] using hx)⟩
  have build : ∀ (ks : List IntKind) (cs : List Value), ks.length = cs.length → (∀ (i : Nat) k c, ks[i]? = some k → cs[i]? = some c → ∃ x : Int, c = .int k x ∧ (kmin k ≤ x ∧ x ≤ kmax k)) → ∃ xs, GoodInts ks xs ∧ cs = ints ks xs := by
    intro ks
    induction ks with
    | nil => intro cs h _; cases cs with | nil => exact ⟨[], good_nil, rfl⟩ | cons _ _ => simp at h
    | cons k ks ih =>
      intro cs h he
      cases cs with
      | nil => simp at h
      | cons c cs =>
        obtain ⟨x, rfl, hx⟩ := he 0 k c rfl rfl
        obtain ⟨xs, h1, rfl⟩ := ih cs (by simpa using h) (fun i k' c' a b => he (i + 1) k' c' (by simpa using a) (by simpa using b))
        exact ⟨x :: xs, good_cons.mpr ⟨hx, h1⟩, rfl⟩
  obtain ⟨xs, h1, h2⟩ := build ks cs.toList (by rw [hl, ← hn, ← hsz]; rfl) each
  exact ⟨xs, h1, by rw [← h2]⟩
/-- A slice of whole numbers is no longer than its weight allows. -/
theorem ints_sized {H : Type} {enc : TypeId × Value → H} {P : Program} {W : World} {base : Nat} {spare : Nat → Bool} {held : Bool} {t e : TypeId} {k : IntKind} {a : Option Addr} {len cap : Nat} {d : DataW H} {ps : List MemPlace} {ts : List TypeId} {ds : List (DataW H)} {j : Nat}
    (hsz : (DataW.weightsEach P ts ds).all (· ≤ reachBytes) = true) (ht : ts[j]? = some t) (hd : ds[j]? = some d) (hu : P.underlying t = some (.slice e)) (he : P.underlying e = some (.int k)) (hc : P.cellsOf e = 1) {B : Nat} (hB : P.bytesOf e = B)
    (h : DataW.Trod enc P W base spare held t (.slice a len cap) d ps) : len * B ≤ 140737488351232 := by
  obtain ⟨fuel, hf⟩ := h
  rcases open_ints hu he hc hf with ⟨hcs, _⟩ | ⟨x, l, c, zs, hcs, _, hl, _, hz, hx, _, _⟩
  · simp [Value.cells] at hcs
    obtain ⟨rfl, rfl, rfl⟩ := hcs
    simp
  · simp [Value.cells] at hcs
    obtain ⟨rfl, rfl, rfl⟩ := hcs
    obtain ⟨hx, _⟩ := Prod.mk.inj hx
    subst hx
    have z := sized_slice hsz ht hd hu
    rw [hB] at z
    have hl2 : len ≤ zs.length := by
      rw [hz]
      split
      · exact hl
      · exact Nat.le_refl _
    have h1 : (lits (H := H) k (zs.take len)).length + (lits (H := H) k (zs.drop len)).length = zs.length := by
      simp [lits]
      omega
    rw [h1] at z
    exact Nat.le_trans (Nat.mul_le_mul_right _ hl2) z
theorem row_of {H : Type} {enc : TypeId × Value → H} {P : Program} {W : World} {base : Nat} {spare : Nat → Bool} {held : Bool} {t e : TypeId} {k : IntKind} {a : Option Addr} {len cap : Nat} {d : DataW H} {ps : List MemPlace} (hsp : ∀ b, spare b = true)
    (hu : P.underlying t = some (.slice e)) (he : P.underlying e = some (.int k)) (hc : P.cellsOf e = 1) (h : DataW.Trod enc P W base spare held t (.slice a len cap) d ps) : ∃ l pl, RowIn k W a len cap l pl := by
  obtain ⟨fuel, hf⟩ := h
  rcases open_ints hu he hc hf with ⟨hcs, _⟩ | ⟨x, l, c, zs, hcs, _, hl, hm, hz, _, hcell, hwz⟩
  · simp [Value.cells] at hcs
    obtain ⟨rfl, rfl, rfl⟩ := hcs
    exact row_in (zs := []) (.inl ⟨rfl, rfl, rfl, rfl⟩)
  · simp [Value.cells] at hcs
    obtain ⟨rfl, rfl, rfl⟩ := hcs
    exact row_in (zs := zs) (.inr ⟨_, rfl, hl, hm, by simpa [hsp] using hz, hcell, hwz⟩)
end Go.Proofs.Ytlgiibchnnaceaa.Sx
