/- Sx laws, part 3: small facts for the mathematics of trees; '==' of bytes is told once. Conditions: none. -/
import Derived.Test.YtlgiibchnnaceaaLw
set_option linter.unusedVariables false
set_option linter.unusedSimpArgs false
namespace Go.Proofs.Ytlgiibchnnaceaa.Sx
open Go

theorem wrap_is {k : IntKind} {z : Int} (h1 : kmin k ≤ z) (h2 : z ≤ kmax k) : k.wrap z = z := by
  cases k <;> simp [kmin, kmax] at h1 h2 <;> simp [IntKind.wrap, IntKind.bits, IntKind.signed] <;> omega
theorem fdiv_pos (a : Int) {b : Int} (h : 0 ≤ b) : a.fdiv b = a / b := Int.fdiv_eq_ediv_of_nonneg a h
/-! Terms told as numbers, rows and conditions. -/
section
variable (Φ : Sig) (ρ : Env) (x y z : T)
@[simp] theorem den_var (i : Nat) : T.den Φ ρ (.var i) = ρ i := rfl
@[simp] theorem den_num (i : Int) : T.den Φ ρ (.num i) = .i i := rfl
@[simp] theorem den_bol (p : Bool) : T.den Φ ρ (.bol p) = .b p := rfl
@[simp] theorem int_add : (T.den Φ ρ (.c2 .add x y)).int = (T.den Φ ρ x).int + (T.den Φ ρ y).int := rfl
@[simp] theorem int_sub : (T.den Φ ρ (.c2 .sub x y)).int = (T.den Φ ρ x).int - (T.den Φ ρ y).int := rfl
@[simp] theorem int_mul : (T.den Φ ρ (.c2 .mul x y)).int = (T.den Φ ρ x).int * (T.den Φ ρ y).int := rfl
@[simp] theorem int_fdiv : (T.den Φ ρ (.c2 .fdiv x y)).int = (T.den Φ ρ x).int.fdiv (T.den Φ ρ y).int := rfl
@[simp] theorem int_rem : (T.den Φ ρ (.c2 .rem x y)).int = (T.den Φ ρ x).int.tmod (T.den Φ ρ y).int := rfl
@[simp] theorem int_len : (T.den Φ ρ (.c1 .len x)).int = ((T.den Φ ρ x).list.length : Int) := rfl
@[simp] theorem int_wr (k : IntKind) : (T.den Φ ρ (.wr k x)).int = k.wrap (T.den Φ ρ x).int := rfl
@[simp] theorem int_bits (o : Bo) (k : IntKind) : (T.den Φ ρ (.bits o k x y)).int = Go.bits o.op k (T.den Φ ρ x).int (T.den Φ ρ y).int := rfl
@[simp] theorem int_rd : (T.den Φ ρ (.c2 .rd x y)).int = (T.den Φ ρ x).list[(T.den Φ ρ y).int.toNat]?.getD 0 := rfl
@[simp] theorem den_fn (f : Nat) : T.den Φ ρ (.fn f x y z) = Φ f (T.den Φ ρ x) (T.den Φ ρ y) (T.den Φ ρ z) := rfl
@[simp] theorem list_nil : (T.den Φ ρ .nil).list = [] := rfl
@[simp] theorem list_cons : (T.den Φ ρ (.cons x y)).list = (T.den Φ ρ x).int :: (T.den Φ ρ y).list := rfl
@[simp] theorem list_take : (T.den Φ ρ (.c2 .take x y)).list = (T.den Φ ρ y).list.take (T.den Φ ρ x).int.toNat := rfl
@[simp] theorem list_drop : (T.den Φ ρ (.c2 .drop x y)).list = (T.den Φ ρ y).list.drop (T.den Φ ρ x).int.toNat := rfl
@[simp] theorem list_app : (T.den Φ ρ (.c2 .app x y)).list = (T.den Φ ρ x).list ++ (T.den Φ ρ y).list := rfl
@[simp] theorem list_set : (T.den Φ ρ (.set x y z)).list = (T.den Φ ρ x).list.set (T.den Φ ρ y).int.toNat (T.den Φ ρ z).int := rfl
@[simp] theorem le_t : (T.den Φ ρ (.c2 .le x y)).bool = true ↔ (T.den Φ ρ x).int ≤ (T.den Φ ρ y).int := decide_eq_true_iff
@[simp] theorem le_f : (T.den Φ ρ (.c2 .le x y)).bool = false ↔ (T.den Φ ρ y).int < (T.den Φ ρ x).int := by simp [T.den, O2.den]
@[simp] theorem lt_t : (T.den Φ ρ (.c2 .lt x y)).bool = true ↔ (T.den Φ ρ x).int < (T.den Φ ρ y).int := decide_eq_true_iff
@[simp] theorem lt_f : (T.den Φ ρ (.c2 .lt x y)).bool = false ↔ (T.den Φ ρ y).int ≤ (T.den Φ ρ x).int := by simp [T.den, O2.den]
@[simp] theorem eq_t : (T.den Φ ρ (.c2 .eq x y)).bool = true ↔ (T.den Φ ρ x).int = (T.den Φ ρ y).int := by simp [T.den, O2.den]
@[simp] theorem eq_f : (T.den Φ ρ (.c2 .eq x y)).bool = false ↔ ¬ (T.den Φ ρ x).int = (T.den Φ ρ y).int := by simp [T.den, O2.den]
@[simp] theorem leq_t : (T.den Φ ρ (.c2 .leq x y)).bool = true ↔ (T.den Φ ρ x).list = (T.den Φ ρ y).list := by simp [T.den, O2.den]
@[simp] theorem leq_f : (T.den Φ ρ (.c2 .leq x y)).bool = false ↔ ¬ (T.den Φ ρ x).list = (T.den Φ ρ y).list := by simp [T.den, O2.den]
@[simp] theorem not_t : (T.den Φ ρ (.c1 .not x)).bool = true ↔ (T.den Φ ρ x).bool = false := by simp [T.den, U1.den]
@[simp] theorem not_f : (T.den Φ ρ (.c1 .not x)).bool = false ↔ (T.den Φ ρ x).bool = true := by simp [T.den, U1.den]
@[simp] theorem and_t : (T.den Φ ρ (.c2 .and x y)).bool = true ↔ (T.den Φ ρ x).bool = true ∧ (T.den Φ ρ y).bool = true := by simp [T.den, O2.den]
@[simp] theorem and_f : (T.den Φ ρ (.c2 .and x y)).bool = false ↔ ((T.den Φ ρ x).bool = true → (T.den Φ ρ y).bool = false) := by
  cases h : (T.den Φ ρ x).bool <;> simp [T.den, O2.den, h]
@[simp] theorem bytes_t : (T.den Φ ρ (.c1 (.kin [.u8]) x)).bool = true ↔ Bytes (T.den Φ ρ x).list := bytes_iff
end
@[simp] theorem fdiv_lit (a : Int) (n : Nat) : a.fdiv (no_index (OfNat.ofNat n)) = a / (OfNat.ofNat n) := Int.fdiv_eq_ediv_of_nonneg a (Int.natCast_nonneg n)
/-- The leaf of a law: it is true. -/
theorem leaf_true {Φ : Sig} {ρ ρ' : Env} {nb n nv : Nat} {t : T} {tm : List (Nat × V)} {fa : Facts} (h : (t.den Φ ρ').bool = true) (hn : n ≤ nb) : Leaf Φ ρ ρ' ⟨.c (.b (.bol true)), [], nb⟩ (.w (.c (.b t)), ⟨tm, [], n, nv, fa⟩) :=
  ⟨h, trivial, hn⟩
theorem upd_at {ρ : Env} {b : Nat} {ds : List D} {i : Nat} (h : i < ds.length) : upd ρ b ds (b + i) = nthD ds i := by
  unfold upd; rw [if_pos (by omega), Nat.add_sub_cancel_left]
theorem byte_rd {l : List Int} (h : Bytes l) (i : Nat) : 0 ≤ l[i]?.getD 0 ∧ l[i]?.getD 0 ≤ 255 := by
  by_cases hi : i < l.length
  · rw [List.getElem?_eq_getElem hi]
    have := h _ (List.getElem_mem hi)
    simp; omega
  · rw [List.getElem?_eq_none (by omega)]; simp
theorem cons_take {l r : List Int} {x : Int} {k n : Nat} (hk : k < l.length) (hx : x = l[k]?.getD 0) (hr : r = (l.drop (k + 1)).take n) : x :: r = (l.drop k).take (n + 1) := by
  rw [List.drop_eq_getElem_cons hk, List.take_succ_cons, hr, hx, List.getElem?_eq_getElem hk]; rfl
theorem nil_take (l : List Int) (k : Nat) : ([] : List Int) = (l.drop k).take 0 := by simp
/-! '==' of rows, byte by byte. -/
def eqJ : Inv := ⟨fun _ ρ ds => ∃ i : Nat, ds = [.i i] ∧ i ≤ (ρ 0).list.length ∧ (ρ 0).list.length = (ρ 1).list.length ∧ (ρ 0).list.length ≤ 140737488351232 ∧ (ρ 0).list.take i = (ρ 1).list.take i, fun _ ρ ds => (ρ 0).list.length - (nthD ds 0).int.toNat⟩
theorem take_more {a b : List Int} {i : Nat} (h : a.take i = b.take i) (ha : i < a.length) (hb : i < b.length) (e : a.getD i 0 = b.getD i 0) : a.take (i + 1) = b.take (i + 1) := by
  rw [List.take_add_one, List.take_add_one, h]
  rw [List.getD_eq_getElem?_getD, List.getD_eq_getElem?_getD, List.getElem?_eq_getElem ha, List.getElem?_eq_getElem hb] at e
  simp only [Option.getD_some] at e
  rw [List.getElem?_eq_getElem ha, List.getElem?_eq_getElem hb, e]
/-- The tree of a loop that compares two rows (as the tool prints it). -/
def eqTree : M (V × St) :=
(.split (.c1 .not (.c2 .eq (.c1 .len (.var 0)) (.c1 .len (.var 1))))
 (.ret (.w (.c (.b (.bol false))), ⟨[], [], 2, 2, []⟩))
 (.loop 0 2 1 [(.num 0)] [((.c2 .le (.num 0) (.var 2)), true)]
  (.split (.c2 .lt (.var 2) (.c1 .len (.var 0)))
   (.chk (.c2 .lt (.var 2) (.c1 .len (.var 1)))
   (.split (.c1 .not (.c2 .eq (.c2 .rd (.var 0) (.var 2)) (.c2 .rd (.var 1) (.var 2))))
    (.ret (.w (.c (.b (.bol false))), ⟨[], [], 2, 3, []⟩))
    (.back 0 2 [(.wr .i64 (.c2 .add (.var 2) (.num 1)))])))
   (.ret (.w (.c (.b (.bol true))), ⟨[], [], 2, 3, []⟩)))))
theorem eq_ok {P : Program} {Φ : Sig} {A : Anns} {d : Nat} {f : FuncId} (hev : funTree (ctxN P A [] d) A f tEq.vs tEq.bs tEq.n (preF tEq.res) = eqTree) : TmplOk P Φ f tEq := by
  refine tmpl_of noCons hev (fun ρ res hres => ⟨eqJ, ?_⟩)
  obtain ⟨h0, hres⟩ := short_some hres
  obtain ⟨h1, hres⟩ := short_some hres
  obtain rfl := ret_some hres
  generalize ha : (ρ 0).list = a at h0
  generalize hb : (ρ 1).list = b at h1
  refine ⟨fun h => ?_, fun h => ?_⟩
  · simp only [T.den, U1.den, O2.den, D.bool_b, D.int_i, ha, hb] at h
    refine ⟨?_, trivial, Nat.le_refl _⟩
    show false = decide _
    simp only [T.den, ha, hb]
    rw [eq_comm, decide_eq_false_iff_not]
    intro e; rw [e] at h; simp at h
  · simp only [T.den, U1.den, O2.den, D.bool_b, D.int_i, ha, hb] at h
    have hl : a.length = b.length := by simp at h; omega
    refine ⟨⟨0, rfl, by simp, by rw [ha, hb]; exact hl, by rw [ha]; exact h0, by simp⟩, ?_⟩
    rintro ds hn ⟨i, rfl, hi, _, _, ht⟩
    have e2 : upd ρ 2 [D.i (i : Int)] 2 = .i i := rfl
    have e0 : upd ρ 2 [D.i (i : Int)] 0 = ρ 0 := rfl
    have e1 : upd ρ 2 [D.i (i : Int)] 1 = ρ 1 := rfl
    refine ⟨?_, fun h2 => ⟨?_, fun h3 => ?_, fun h3 => ?_⟩, fun h2 => ?_⟩
    · intro t p hm
      simp only [List.mem_singleton, Prod.mk.injEq] at hm
      obtain ⟨rfl, rfl⟩ := hm
      simp [T.den, O2.den, e2]
    · simp [T.den, O2.den, U1.den, e0, e1, e2, ha, hb] at h2 ⊢
      omega
    · simp [T.den, O2.den, U1.den, e0, e1, e2, ha, hb] at h2 h3
      refine ⟨?_, trivial, Nat.le_refl _⟩
      show false = decide _
      simp only [T.den, ha, hb]
      rw [eq_comm, decide_eq_false_iff_not]
      intro e; rw [e] at h3; exact h3 rfl
    · simp [T.den, O2.den, U1.den, e0, e1, e2, ha, hb] at h2 h3
      rw [ha] at hi ht
      rw [hb] at ht
      have hw : IntKind.i64.wrap ((i : Int) + 1) = ((i + 1 : Nat) : Int) := by rw [wrap64_id (by omega) (by omega)]; rfl
      have hsub : [(T.wr .i64 (.c2 .add (.var 2) (.num 1)))].map (T.den Φ (upd ρ 2 [D.i (i : Int)])) = [D.i ((i + 1 : Nat) : Int)] := by
        simp only [List.map, T.den, O2.den, e2, D.int_i, hw]
      show BK.at_ _ 2 _ 2 _
      rw [hsub]
      simp only [BK.at_, if_true]
      refine ⟨⟨i + 1, rfl, by rw [ha]; omega, by rw [ha, hb]; exact hl, by rw [ha]; exact h0, ?_⟩, ?_⟩
      · rw [ha, hb]; exact take_more ht h2 (by omega) h3
      · simp only [eqJ, nthD, D.int_i, ha]; omega
    · simp [T.den, O2.den, U1.den, e0, e1, e2, ha, hb] at h2
      rw [ha] at hi ht
      rw [hb] at ht
      have : i = a.length := by omega
      subst this
      refine ⟨?_, trivial, Nat.le_refl _⟩
      show true = decide _
      simp only [T.den, ha, hb]
      rw [eq_comm, decide_eq_true_iff]
      rw [List.take_length, List.take_of_length_le (by omega)] at ht
      exact ht
end Go.Proofs.Ytlgiibchnnaceaa.Sx
