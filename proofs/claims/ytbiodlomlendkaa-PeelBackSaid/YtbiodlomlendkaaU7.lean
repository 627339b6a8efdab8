/- Sx: texts of this claim put together: PcB. Conditions: none. -/
import Derived.Test.YtbiodlomlendkaaU6
/- Sx laws of peeling: headers that are put on are told again: the tree's leaves are true. Conditions: none. -/
set_option linter.unusedVariables false
set_option linter.unusedSimpArgs false
namespace Go.Proofs.Ytbiodlomlendkaa.Sx
open Go
/-! Told lists; where a kind stands. -/
theorem told_at : ∀ {hs : List (List Int)} {k : Int} {i : Nat} {x : List Int}, toldL k hs → hs[i]? = some x → (nextK x ≠ 0 ↔ i + 1 < hs.length) ∧ ∀ y, hs[i + 1]? = some y → g y 0 = nextK x
  | [], _, _, _, h, _ => h.elim
  | [h], k, 0, x, ht, hx => by
    simp only [List.getElem?_cons_zero, Option.some.injEq] at hx
    subst hx
    exact ⟨⟨fun h0 => absurd ht.2 h0, fun h1 => by simp at h1⟩, fun y hy => by simp at hy⟩
  | [h], k, i + 1, x, ht, hx => by simp at hx
  | h :: h' :: t, k, 0, x, ht, hx => by
    simp only [List.getElem?_cons_zero, Option.some.injEq] at hx
    subst hx
    refine ⟨⟨fun _ => by simp, fun _ => ht.2.1⟩, fun y hy => ?_⟩
    simp only [List.getElem?_cons_succ, List.getElem?_cons_zero, Option.some.injEq] at hy
    subst hy
    have := ht.2.2
    cases t with
    | nil => exact this.1
    | cons _ _ => exact this.1
  | h :: h' :: t, k, i + 1, x, ht, hx => by
    obtain ⟨h1, h2⟩ := told_at ht.2.2 (i := i) (by simpa using hx)
    refine ⟨h1.trans ?_, fun y hy => h2 y (by simpa using hy)⟩
    simp
theorem wh_skip {rows : List Int} {k : Int} {m : Nat} : ∀ {f : Nat}, f ≤ m → (∀ j, j < f → ¬ rows[73 * j]?.getD 0 = k) → whGo rows k m 0 0 = whGo rows k (m - f) f (szSum rows f)
  | 0, _, _ => rfl
  | f + 1, hf, h => by
    rw [wh_skip (f := f) (by omega) (fun j hj => h j (by omega)), show m - f = (m - (f + 1)) + 1 from by omega, whGo, if_neg (h f (by omega)), szSum]
theorem first_of {P : Nat → Prop} [DecidablePred P] : ∀ {n : Nat}, P n → ∃ f, f ≤ n ∧ P f ∧ ∀ j, j < f → ¬ P j
  | 0, h => ⟨0, Nat.le_refl _, h, fun j hj => by omega⟩
  | n + 1, h => by
    by_cases he : ∃ j, j ≤ n ∧ P j
    · obtain ⟨j, hj, hp⟩ := he
      obtain ⟨f, h1, h2, h3⟩ := first_of (n := j) hp
      exact ⟨f, by omega, h2, h3⟩
    · exact ⟨n + 1, Nat.le_refl _, h, fun j hj hp => he ⟨j, by omega, hp⟩⟩
theorem wh_at {p : List Int} {m i : Nat} (hp : (peelOf p).2.2 = 0) (hd : Peeled p (peelOf p).1 (peelOf p).2.1 m) (hi : i < m) : ∃ f, f ≤ i ∧ (peelOf p).1[73 * f]?.getD 0 = (peelOf p).1[73 * i]?.getD 0 ∧ (∀ j, j < f → ¬ (peelOf p).1[73 * j]?.getD 0 = (peelOf p).1[73 * i]?.getD 0) ∧
    whOf p ((peelOf p).1[73 * i]?.getD 0) = ⟨szSum (peelOf p).1 f, hdSize ((peelOf p).1[73 * i]?.getD 0).toNat, true, 0⟩ := by
  have hk := hd.kind i hi
  obtain ⟨f, h1, h2, h3⟩ := first_of (P := fun j => (peelOf p).1[73 * j]?.getD 0 = (peelOf p).1[73 * i]?.getD 0) (n := i) rfl
  exact ⟨f, h1, h2, h3, wh_yes hk.1 hk.2 hp hd.len (by omega) (wh_skip (by omega) h3) h2⟩
/-! The loop. -/
def kapT : T := .c2 .rd (.var 86) (.c2 .mul (.var 76) (.num 73))
def szT : T := .c2 .rd (.cons (.num 0) (.cons (.num 14) (.cons (.num 4) (.cons (.num 20) (.cons (.num 40) (.cons (.num 20) (.cons (.num 8) .nil))))))) kapT
def nxT : T := .wr .u8 (.fn 54 (cellT (.var 86) (.c2 .mul (.var 76) (.num 73)) 0 73) .nil .nil)
def i1T : T := .wr .i64 (.c2 .add (.var 76) (.num 1))
def seenT : Nat → Nat → T
  | _, 0 => .bol false
  | c, n + 1 => .ite (.c2 .eq kapT (.num (.ofNat c))) (.var (78 + c)) (seenT (c + 1) n)
def seen1 (c : Nat) : T := .ite (.c2 .eq kapT (.num (.ofNat c))) (.bol true) (.var (78 + c))
def bkB : List T := [i1T, .c2 .add (.var 77) szT, seen1 0, seen1 1, seen1 2, seen1 3, seen1 4, seen1 5, seen1 6, .var 85, .var 86, .var 87, .var 88, .var 89, .var 90]
def falseM (n : Nat) : M (V × St) := .ret (.w (.c (.b (.bol false))), ⟨[], [], n, 91, []⟩)
def nextM (n2 : Nat) : M (V × St) :=
  .split (.c1 .not (.c2 .beq (.c1 .not (.c2 .eq nxT (.num 0))) (.c2 .lt i1T (.var 85)))) (falseM n2)
    (.split (.c1 .not (.c2 .eq nxT (.num 0)))
      (.chk (.c2 .le (.num 0) i1T) (.chk (.c2 .lt i1T (.var 85)) (.chk (.c2 .le (.c2 .add (.c2 .mul i1T (.num 73)) (.num 1)) (.c1 .len (.var 86)))
        (.split (.c1 .not (.c2 .eq nxT (.c2 .rd (.var 86) (.c2 .mul i1T (.num 73))))) (falseM n2) (.back 0 76 bkB)))))
      (.back 0 76 bkB))
def bkFs : Facts := [(.c2 .le (.num 0) (.var 76), true), (.c2 .le (.num 0) (.var 77), true), (.c2 .le (.var 77) (.num 400), true), (.c2 .le (.num 1) (.var 85), true), (.c2 .le (.var 85) (.num 8), true), (.c2 .eq (.c1 .len (.var 86)) (.c2 .mul (.var 85) (.num 73)), true), (.c1 (.kin kHead) (.var 86), true),
  (.c2 .le (.num 0) (.var 87), true), (.c2 .le (.var 87) (.num 2048), true), (.c2 .eq (.c1 .len (.var 88)) (.var 87), true), (.c1 (.kin [.u8]) (.var 88), true), (.c2 .eq (.var 89) (.var 85), true), (.c2 .eq (.c1 .len (.var 90)) (.c2 .mul (.var 89) (.num 73)), true), (.c1 (.kin kHead) (.var 90), true)]
def bkLoop (σ : List T) (n1 n2 n3 : Nat) (fin : T) : M (V × St) :=
  .loop 0 76 15 σ bkFs
    (.split (.c2 .lt (.var 76) (.var 85))
      (.chk (.c2 .le (.c2 .add (.c2 .mul (.var 76) (.num 73)) (.num 1)) (.c1 .len (.var 86))) (.chk (.c2 .lt (.var 76) (.var 89)) (.chk (.c2 .le (.c2 .add (.c2 .mul (.var 76) (.num 73)) (.num 73)) (.c1 .len (.var 90))) (.chk (.c2 .le (.c2 .add (.c2 .mul (.var 76) (.num 73)) (.num 73)) (.c1 .len (.var 86)))
        (.split (.c1 .not (eqsT (.var 90) (.var 86) (.c2 .mul (.var 76) (.num 73)) 0 72)) (falseM n1)
          (.split (.c1 .not (.c2 .eq (.fn 57 (.var 88) kapT .nil) (.num 0))) (falseM n1)
            (.split (.c1 .not (.fn 56 (.var 88) kapT .nil)) (falseM n1)
              (.chk (.c2 .lt kapT (.num 7))
                (.split (.c1 .not (seenT 0 7))
                  (.split (.c1 .not (.c2 .and (.c2 .eq (.fn 55 (.var 88) kapT .nil) (.var 77)) (.c2 .eq (.fn 58 (.var 88) kapT .nil) szT))) (falseM n1) (nextM n2))
                  (nextM n2))))))))))
      (.ret (.w (.c (.b fin)), ⟨[], [], n3, 91, []⟩)))
structure BkKnow (q : List Int) (hs : List (List Int)) (m : Nat) : Prop where
  peel : (peelOf q).2.2 = 0
  rows : (peelOf q).1 = hs.flatten
  peeled : Peeled q hs.flatten (peelOf q).2.1 m
  num : hs.length = m
  most : m ≤ 8
  one : 1 ≤ m
  good : ∀ x ∈ hs, GoodInts kHead x
  told : toldL 1 hs
  bytes : Bytes q
  short : q.length ≤ 2048
def bkJ (q : List Int) (hs : List (List Int)) (m : Nat) : Inv := ⟨fun _ ρ ds => ∃ i : Nat, (nthD ds 0).int = i ∧ i ≤ m ∧ (nthD ds 1).int = szSum hs.flatten i ∧ (∀ j, j < 7 → ((nthD ds (2 + j)).bool = true ↔ ∃ i', i' < i ∧ hs.flatten[73 * i']?.getD 0 = (j : Int))) ∧
    (nthD ds 9).int = m ∧ (nthD ds 10).list = hs.flatten ∧ (nthD ds 11).int = q.length ∧ (nthD ds 12).list = q ∧ (nthD ds 13).int = m ∧ (nthD ds 14).list = hs.flatten, fun _ ρ ds => m - (nthD ds 0).int.toNat⟩
section
variable {ρ : Env}
theorem seen_den {z : Nat} (hz : (T.den ΦP ρ kapT).int = z) : ∀ (n c : Nat), c ≤ z → z < c + n → (T.den ΦP ρ (seenT c n)).bool = (ρ (78 + z)).bool
  | 0, c, h1, h2 => by omega
  | n + 1, c, h1, h2 => by
    show (if (T.den ΦP ρ (.c2 .eq kapT (.num (.ofNat c)))).bool = true then T.den ΦP ρ (.var (78 + c)) else T.den ΦP ρ (seenT (c + 1) n)).bool = _
    by_cases e : c = z
    · rw [if_pos (by rw [eq_t, hz, e]; rfl), e]; rfl
    · rw [if_neg (by rw [eq_t, hz]; intro h; have h : (z : Int) = c := h; omega)]
      exact seen_den hz n (c + 1) (by omega) (by omega)
theorem seen1_den {z c : Nat} (hz : (T.den ΦP ρ kapT).int = z) : (T.den ΦP ρ (seen1 c)).bool = true ↔ z = c ∨ (ρ (78 + c)).bool = true := by
  show (if (T.den ΦP ρ (.c2 .eq kapT (.num (.ofNat c)))).bool = true then T.den ΦP ρ (.bol true) else T.den ΦP ρ (.var (78 + c))).bool = true ↔ _
  by_cases e : z = c
  · rw [if_pos (by rw [eq_t, hz, e]; rfl)]; exact ⟨fun _ => .inl e, fun _ => rfl⟩
  · rw [if_neg (by rw [eq_t, hz]; intro h; have h : (z : Int) = c := h; omega)]
    exact ⟨fun h => .inr h, fun h => h.resolve_left e⟩
end
set_option maxRecDepth 100000 in
theorem bkLoop_ok {ρ : Env} {B : BK} {q : List Int} {hs : List (List Int)} {m n1 n2 n3 : Nat} {σ : List T} {fin : T} (hn : n1 ≤ 100000 ∧ n2 ≤ 100000 ∧ n3 ≤ 100000) (K : BkKnow q hs m)
    (h0 : (bkJ q hs m).I 0 ρ (σ.map (T.den ΦP ρ))) (hfin : ∀ ρ', Same75 ρ ρ' → ρ' 75 = ρ 75 → (ρ' 77).int = szSum hs.flatten m → (ρ' 87).int = q.length → (T.den ΦP ρ' fin).bool = true) :
    (bkLoop σ n1 n2 n3 fin).ok ΦP (bkJ q hs m) B ρ (fun _ ρ' r => Leaf ΦP ρ ρ' ⟨.c (.b (.bol true)), [], 100000⟩ r) := by
  have hlen : hs.flatten.length = 73 * m := K.peeled.len
  have h73 : ∀ x ∈ hs, x.length = 73 := fun x hx => (K.good x hx).1.symm
  refine ⟨h0, ?_⟩
  rintro ds hds ⟨i, i0, him, i1, ib, i9, i10, i11, i12, i13, i14⟩
  have sm : Same75 ρ (upd ρ 76 ds) := fun i h => upd_lo ds (by omega)
  have e75 : upd ρ 76 ds 75 = ρ 75 := upd_lo ds (by decide)
  have eb : ∀ j, j < 15 → upd ρ 76 ds (76 + j) = nthD ds j := fun j hj => upd_at (i := j) (by omega)
  generalize upd ρ 76 ds = ρ' at *
  have v76 : (ρ' 76).int = i := by rw [eb 0 (by decide)]; exact i0
  have v77 : (ρ' 77).int = szSum hs.flatten i := by rw [eb 1 (by decide)]; exact i1
  have v85 : (ρ' 85).int = m := by rw [eb 9 (by decide)]; exact i9
  have v86 : (ρ' 86).list = hs.flatten := by rw [eb 10 (by decide)]; exact i10
  have v87 : (ρ' 87).int = q.length := by rw [eb 11 (by decide)]; exact i11
  have v88 : (ρ' 88).list = q := by rw [eb 12 (by decide)]; exact i12
  have v89 : (ρ' 89).int = m := by rw [eb 13 (by decide)]; exact i13
  have v90 : (ρ' 90).list = hs.flatten := by rw [eb 14 (by decide)]; exact i14
  have hb : ∀ j, j < 7 → ((ρ' (78 + j)).bool = true ↔ ∃ i', i' < i ∧ hs.flatten[73 * i']?.getD 0 = (j : Int)) := fun j hj => by
    rw [show 78 + j = 76 + (2 + j) from by omega, eb (2 + j) (by omega)]; exact ib j hj
  have hsz := szSum_le hs.flatten i
  have hmost := K.most
  have hkin : inKinds kHead 0 hs.flatten = true := K.peeled.kin
  have hshort := K.short
  have hone := K.one
  refine ⟨?_, fun c => ?_, fun c => ?_⟩
  · intro t p hm
    simp only [bkFs, List.mem_cons, Prod.mk.injEq, List.not_mem_nil, or_false] at hm
    rcases hm with ⟨rfl, rfl⟩ | ⟨rfl, rfl⟩ | ⟨rfl, rfl⟩ | ⟨rfl, rfl⟩ | ⟨rfl, rfl⟩ | ⟨rfl, rfl⟩ | ⟨rfl, rfl⟩ | ⟨rfl, rfl⟩ | ⟨rfl, rfl⟩ | ⟨rfl, rfl⟩ | ⟨rfl, rfl⟩ | ⟨rfl, rfl⟩ | ⟨rfl, rfl⟩ | ⟨rfl, rfl⟩
    · rw [le_t, den_var, v76]; exact Int.natCast_nonneg _
    · rw [le_t, den_var, v77]; exact Int.natCast_nonneg _
    · rw [le_t, den_var, v77]; show (_ : Int) ≤ 400; omega
    · rw [le_t, den_var, v85]; show (1 : Int) ≤ m; omega
    · rw [le_t, den_var, v85]; show (m : Int) ≤ 8; omega
    · rw [eq_t, int_len, int_mul, den_var, den_var, v85, v86, hlen]; show ((73 * m : Nat) : Int) = m * 73; omega
    · show inKinds kHead 0 (ρ' 86).list = true; rw [v86]; exact hkin
    · rw [le_t, den_var, v87]; exact Int.natCast_nonneg _
    · rw [le_t, den_var, v87]; show (_ : Int) ≤ 2048; omega
    · rw [eq_t, int_len, den_var, den_var, v87, v88]
    · rw [bytes_t, den_var, v88]; exact K.bytes
    · rw [eq_t, den_var, den_var, v85, v89]
    · rw [eq_t, int_len, int_mul, den_var, den_var, v89, v90, hlen]; show ((73 * m : Nat) : Int) = m * 73; omega
    · show inKinds kHead 0 (ρ' 90).list = true; rw [v90]; exact hkin
  · rw [lt_t, den_var, den_var, v76, v85] at c
    have hi : i < m := by omega
    have hM : (T.den ΦP ρ' (.c2 .mul (.var 76) (.num 73))).int = ((73 * i : Nat) : Int) := by rw [int_mul, den_var, v76]; show (i : Int) * 73 = _; omega
    have hkap : (T.den ΦP ρ' kapT).int = hs.flatten[73 * i]?.getD 0 := by rw [kapT, int_rd, den_var, v86, hM, Int.toNat_natCast]
    have hk := K.peeled.kind i hi
    obtain ⟨z, hz⟩ := Int.eq_ofNat_of_zero_le (show 0 ≤ hs.flatten[73 * i]?.getD 0 by omega)
    have hkz : (T.den ΦP ρ' kapT).int = z := hkap.trans hz
    have hx : hs[i]? = some (hdAt hs.flatten i) := (hdAt_flat h73 (by rw [K.num]; exact hi)).symm
    have hcell : (T.den ΦP ρ' (cellT (.var 86) (.c2 .mul (.var 76) (.num 73)) 0 73)).list = hdAt hs.flatten i := den_hdAt v86 v76 hlen hi
    have hnx : (T.den ΦP ρ' nxT).int = nextK (hdAt hs.flatten i) := by
      rw [nxT, int_wr]
      show IntKind.u8.wrap (nextK (T.den ΦP ρ' (cellT (.var 86) (.c2 .mul (.var 76) (.num 73)) 0 73)).list) = _
      rw [hcell, wrap_next]
    have hi1 : (T.den ΦP ρ' i1T).int = ((i + 1 : Nat) : Int) := by
      rw [i1T, int_wr, int_add, den_var, v76]
      exact wrap_is (by simp only [kmin]; show _ ≤ (i : Int) + 1; omega) (by simp only [kmax]; show (i : Int) + 1 ≤ _; omega)
    obtain ⟨t1, t2⟩ := told_at K.told hx
    rw [K.num] at t1
    have hd' : Peeled q (peelOf q).1 (peelOf q).2.1 m := by rw [K.rows]; exact K.peeled
    obtain ⟨f, f1, f2, f3, f4⟩ := wh_at K.peel hd' hi
    rw [K.rows] at f2 f3 f4
    have hwh : whOf (ρ' 88).list (T.den ΦP ρ' kapT).int = ⟨szSum hs.flatten f, hdSize z, true, 0⟩ := by rw [v88, hkap, f4, hz, Int.toNat_natCast]
    have hszT : (T.den ΦP ρ' szT).int = hdSize z := by
      rw [szT, int_rd, hkz]
      exact sizes_rd (k := z) (by omega)
    have hback : (bkJ q hs m).I 0 ρ (bkB.map (T.den ΦP ρ')) ∧ (bkJ q hs m).μ 0 ρ (bkB.map (T.den ΦP ρ')) < (bkJ q hs m).μ 0 ρ ds := by
      refine ⟨⟨i + 1, hi1, by omega, ?_, fun j hj => ?_, v85, v86, v87, v88, v89, v90⟩, ?_⟩
      · show (T.den ΦP ρ' (.c2 .add (.var 77) szT)).int = _
        rw [int_add, den_var, v77, hszT, szSum, hz, Int.toNat_natCast]; omega
      · have hs1 : (T.den ΦP ρ' (seen1 j)).bool = true ↔ ∃ i', i' < i + 1 ∧ hs.flatten[73 * i']?.getD 0 = (j : Int) := by
          rw [seen1_den hkz, hb j hj]
          constructor
          · rintro (e | ⟨i', a, b⟩)
            · exact ⟨i, by omega, by rw [hz, e]⟩
            · exact ⟨i', by omega, b⟩
          · rintro ⟨i', a, b⟩
            by_cases e : i' = i
            · left; rw [e, hz] at b; have b : (z : Int) = j := b; omega
            · exact .inr ⟨i', by omega, b⟩
        have hd : nthD (bkB.map (T.den ΦP ρ')) (2 + j) = T.den ΦP ρ' (seen1 j) := by
          have : j = 0 ∨ j = 1 ∨ j = 2 ∨ j = 3 ∨ j = 4 ∨ j = 5 ∨ j = 6 := by omega
          rcases this with rfl | rfl | rfl | rfl | rfl | rfl | rfl <;> rfl
        rw [hd]; exact hs1
      · show m - (T.den ΦP ρ' i1T).int.toNat < m - (nthD ds 0).int.toNat
        rw [hi1, i0]; omega
    have hnext : ∀ {B' : BK}, (∀ l, (bkJ q hs m).I 0 ρ l ∧ (bkJ q hs m).μ 0 ρ l < (bkJ q hs m).μ 0 ρ ds → B' 76 l) → (nextM n2).ok ΦP (bkJ q hs m) B' ρ' (fun _ ρ' r => Leaf ΦP ρ ρ' ⟨.c (.b (.bol true)), [], 100000⟩ r) := by
      intro B' hB
      refine ⟨fun d => ?_, fun d => ⟨fun e => ?_, fun e => hB _ hback⟩⟩
      · exfalso
        rw [not_t] at d
        have d : ((T.den ΦP ρ' (.c1 .not (.c2 .eq nxT (.num 0)))).bool == (T.den ΦP ρ' (.c2 .lt i1T (.var 85))).bool) = false := d
        have a1 : (T.den ΦP ρ' (.c1 .not (.c2 .eq nxT (.num 0)))).bool = true ↔ nextK (hdAt hs.flatten i) ≠ 0 := by rw [not_t, eq_f, hnx]; exact Iff.rfl
        have a2 : (T.den ΦP ρ' (.c2 .lt i1T (.var 85))).bool = true ↔ i + 1 < m := by rw [lt_t, hi1, den_var, v85]; omega
        have a3 : (T.den ΦP ρ' (.c1 .not (.c2 .eq nxT (.num 0)))).bool = (T.den ΦP ρ' (.c2 .lt i1T (.var 85))).bool := Bool.eq_iff_iff.mpr (a1.trans (t1.trans a2.symm))
        rw [a3] at d
        simp at d
      · rw [not_t, eq_f, hnx] at e
        have him1 : i + 1 < m := t1.mp e
        refine ⟨by rw [le_t, hi1]; exact Int.natCast_nonneg _, by rw [lt_t, hi1, den_var, v85]; omega, ?_, fun s => ?_, fun s => hB _ hback⟩
        · rw [le_t, int_add, int_mul, hi1, int_len, den_var, v86, hlen]; show ((i + 1 : Nat) : Int) * 73 + 1 ≤ _; omega
        · exfalso
          rw [not_t, eq_f, hnx, int_rd, den_var, v86, int_mul, hi1] at s
          apply s
          have hy : hs[i + 1]? = some (hdAt hs.flatten (i + 1)) := (hdAt_flat h73 (by rw [K.num]; exact him1)).symm
          have := t2 _ hy
          rw [← this, show (((i + 1 : Nat) : Int) * (T.den ΦP ρ' (.num 73)).int).toNat = 73 * (i + 1) from by show (((i + 1 : Nat) : Int) * 73).toNat = _; omega]
          rw [g, hdAt, List.getElem?_take, if_pos (by decide), List.getElem?_drop]; rfl
    refine ⟨?_, ?_, ?_, ?_, fun d => ?_, fun d => ⟨fun e => ?_, fun e => ⟨fun s => ?_, fun s => ⟨?_, fun u => ⟨fun x => ?_, fun x => hnext (fun l hl => ?_)⟩, fun u => hnext (fun l hl => ?_)⟩⟩⟩⟩
    · rw [le_t, int_add, hM, int_len, den_var, v86, hlen]; show ((73 * i : Nat) : Int) + 1 ≤ _; omega
    · rw [lt_t, den_var, den_var, v76, v89]; exact c
    · rw [le_t, int_add, hM, int_len, den_var, v90, hlen]; show ((73 * i : Nat) : Int) + 73 ≤ _; omega
    · rw [le_t, int_add, hM, int_len, den_var, v86, hlen]; show ((73 * i : Nat) : Int) + 73 ≤ _; omega
    · exfalso
      rw [not_t] at d
      rw [(eqs_iff hM 72 0).mpr (fun j _ _ => by rw [den_var, den_var, v86, v90])] at d
      cases d
    · exfalso
      rw [not_t, eq_f] at e
      apply e
      show (whOf (ρ' 88).list (T.den ΦP ρ' kapT).int).e = 0
      rw [hwh]
    · exfalso
      rw [not_t] at s
      have s : (whOf (ρ' 88).list (T.den ΦP ρ' kapT).int).b = false := s
      rw [hwh] at s; cases s
    · rw [lt_t, hkz]; show (z : Int) < 7; omega
    · exfalso
      rw [not_t, seen_den hkz 7 0 (by omega) (by omega)] at u
      have hns : ¬ (ρ' (78 + z)).bool = true := by rw [u]; decide
      rw [hb z (by omega)] at hns
      have hfi : f = i := by
        by_cases e : f = i
        · exact e
        · exact absurd ⟨f, by omega, by rw [f2, hz]⟩ hns
      rw [not_t, and_f] at x
      have x1 : (T.den ΦP ρ' (.c2 .eq (.fn 55 (.var 88) kapT .nil) (.var 77))).bool = true := by
        rw [eq_t]
        show (whOf (ρ' 88).list (T.den ΦP ρ' kapT).int).a = _
        rw [hwh, den_var, v77, hfi]
      have x2 := x x1
      rw [eq_f, hszT] at x2
      apply x2
      show (whOf (ρ' 88).list (T.den ΦP ρ' kapT).int).n = _
      rw [hwh]
    · show (if 76 = 76 then _ else _); rw [if_pos rfl]; exact hl
    · show (if 76 = 76 then _ else _); rw [if_pos rfl]; exact hl
  · rw [lt_f, den_var, den_var, v76, v85] at c
    have hie : i = m := by omega
    exact leaf_true (hfin ρ' sm e75 (by rw [v77, hie]) v87) hn.2.2
/-! The whole. -/
def chT : T := .cons (.var 0) (.cons (.fn 66 (.var 1) (.num 3) .nil) (.cons (.fn 66 (.var 2) (.num 3) .nil) (varsT 3 72)))
def pkT (P : T) : T := .fn 63 (.fn 64 chT .nil .nil) P .nil
def bkσ (P : T) : List T := [.num 0, .num 0, .bol false, .bol false, .bol false, .bol false, .bol false, .bol false, .bol false, .fn 65 chT .nil .nil, .fn 64 chT .nil .nil, .c1 .len (pkT P), pkT P, .fn 52 (pkT P) .nil .nil, .fn 50 (pkT P) .nil .nil]
def false76 (n : Nat) : M (V × St) := .ret (.w (.c (.b (.bol false))), ⟨[], [], n, 76, []⟩)
def bkTop (P fin : T) (n0 n1 n2 n3 n4 n5 : Nat) : M (V × St) :=
  .chk (.c2 .le (.num (-9223372036854775808)) (.var 1)) (.chk (.c2 .le (.var 1) (.num 9223372036854775807)) (.chk (.c2 .le (.num 0) (.fn 66 (.var 1) (.num 3) .nil)) (.chk (.c2 .lt (.fn 66 (.var 1) (.num 3) .nil) (.num 3))
  (.chk (.c2 .le (.num (-9223372036854775808)) (.var 2)) (.chk (.c2 .le (.var 2) (.num 9223372036854775807)) (.chk (.c2 .le (.num 0) (.fn 66 (.var 2) (.num 3) .nil)) (.chk (.c2 .lt (.fn 66 (.var 2) (.num 3) .nil) (.num 3))
  (.chk (.c1 (.kin kChain) chT) (.chk (.c2 .le (.num 1) (.fn 65 chT .nil .nil)) (.chk (.c2 .le (.fn 65 chT .nil .nil) (.num 8)) (.chk (.c2 .eq (.c1 .len (.fn 64 chT .nil .nil)) (.c2 .mul (.fn 65 chT .nil .nil) (.num 73))) (.chk (.c1 (.kin kHead) (.fn 64 chT .nil .nil))
  (.chk (.c1 (.kin [.u8]) P)
  (.split (.c2 .eq (.fn 62 (.fn 64 chT .nil .nil) P .nil) (.num 0))
    (.chk (.c1 (.kin [.u8]) (pkT P)) (.chk (.c2 .le (.c1 .len (pkT P)) (.num 140737488351232))
      (.split (.c2 .eq (.fn 51 (pkT P) .nil .nil) (.num 0))
        (.chk (.c2 .le (.num 1) (.fn 52 (pkT P) .nil .nil)) (.chk (.c2 .le (.fn 52 (pkT P) .nil .nil) (.num 8)) (.chk (.c2 .eq (.c1 .len (.fn 50 (pkT P) .nil .nil)) (.c2 .mul (.fn 52 (pkT P) .nil .nil) (.num 73))) (.chk (.c1 (.kin kHead) (.fn 50 (pkT P) .nil .nil)) (.chk (.c1 (.kin [.u8]) (.fn 53 (pkT P) .nil .nil)) (.chk (.c2 .le (.c1 .len (.fn 53 (pkT P) .nil .nil)) (.c1 .len (pkT P)))
          (.split (.c1 .not (.c2 .eq (.fn 52 (pkT P) .nil .nil) (.fn 65 chT .nil .nil))) (false76 n1)
            (.split (.c1 .not (.c2 .leq (.fn 53 (pkT P) .nil .nil) P)) (false76 n2)
              (bkLoop (bkσ P) n3 n4 n5 fin)))))))))
        (false76 n1))))
    (false76 n0)))))))))))))))
/-- The chain that is put on. -/
def chainB (ρ : Env) : List Int := (T.den ΦP ρ chT).list
theorem chainB_good {ρ : Env} (hk : ∀ i k, kChain[i]? = some k → kmin k ≤ (ρ (0 + i)).int ∧ (ρ (0 + i)).int ≤ kmax k) : GoodInts kChain (chainB ρ) := by
  have b1 := bring_range (ρ 1).int (n := 3) (by decide)
  have b2 := bring_range (ρ 2).int (n := 3) (by decide)
  have e : chainB ρ = (ρ 0).int :: bringI (ρ 1).int 3 :: bringI (ρ 2).int 3 :: (T.den ΦP ρ (varsT 3 72)).list := rfl
  rw [e]
  refine good_cons.mpr ⟨?_, good_cons.mpr ⟨?_, good_cons.mpr ⟨?_, ?_⟩⟩⟩
  · have := hk 0 .i64 rfl; rwa [Nat.zero_add] at this
  · simp only [kmin, kmax]; omega
  · simp only [kmin, kmax]; omega
  · refine ⟨(vars_len ΦP ρ _ _).symm, fun i k z h1 h2 => ?_⟩
    have hi : i < 72 := (List.getElem?_eq_some_iff.1 h1).1
    rw [vars_nth ΦP ρ _ 3 i hi] at h2
    injection h2 with h2
    subst h2
    have := hk (3 + i) k (by rw [← h1]; show (IntKind.i64 :: IntKind.i64 :: IntKind.i64 :: (kLink ++ (kTag ++ (kNet4 ++ (kNet6 ++ (kSeg ++ kDgram))))))[3 + i]? = _; rw [show 3 + i = i + 1 + 1 + 1 from by omega]; rfl)
    rwa [Nat.zero_add] at this
set_option maxRecDepth 100000 in
theorem bkTop_ok {ρ : Env} {B : BK} {P fin : T} {n0 n1 n2 n3 n4 n5 : Nat} {p : List Int} (hn : n3 ≤ 100000 ∧ n4 ≤ 100000 ∧ n5 ≤ 100000) (hk : ∀ i k, kChain[i]? = some k → kmin k ≤ (ρ (0 + i)).int ∧ (ρ (0 + i)).int ≤ kmax k) (hP : (T.den ΦP ρ P).list = p) (hp : Bytes p) (hl : p.length ≤ 1800)
    (hfin : ∀ ρ', Same75 ρ ρ' → ρ' 75 = ρ 75 → (ρ' 87).int = (ρ' 77).int + p.length → (T.den ΦP ρ' fin).bool = true) :
    (bkTop P fin n0 n1 n2 n3 n4 n5).ok ΦP (bkJ (putH pushErr (chainHeads (chainB ρ)) p).2 (chainHeads (chainB ρ)) (chainHeads (chainB ρ)).length) B ρ (fun _ ρ' r => Leaf ΦP ρ ρ' ⟨.c (.b (.bol true)), [], 100000⟩ r) := by
  have hc := chainB_good hk
  have b1 := bring_range (ρ 1).int (n := 3) (by decide)
  have b2 := bring_range (ρ 2).int (n := 3) (by decide)
  have k1 := hk 1 .i64 rfl
  have k2 := hk 2 .i64 rfl
  generalize hC : chainB ρ = C at hc
  have hC' : (T.den ΦP ρ chT).list = C := hC
  obtain ⟨c1, c2, c3⟩ := chain_num (c := C)
  have hfit := chain_fit hc
  have hgood : ∀ x ∈ chainHeads C, GoodInts kHead x := fun x hx => fit_good (hfit x hx)
  have hput := put_fits hp hfit (by omega)
  have hok := put_ok hp hgood hput.1
  have hpeel := peelOf_put hp hgood hput.1 (chain_told hc) c2
  have hsame : putH headErr (chainHeads C) p = putH pushErr (chainHeads C) p := put_same (fun x hx => fit_is (hfit x hx))
  have h73 : ∀ x ∈ chainHeads C, x.length = 73 := fun x hx => (hgood x hx).1.symm
  have hrows := rows_flat h73
  have hfl := flat_len h73
  generalize hq : (putH pushErr (chainHeads C) p).2 = q at *
  generalize hhs : chainHeads C = hs at *
  have h64 : (T.den ΦP ρ (.fn 64 chT .nil .nil)).list = hs.flatten := by show (chainHeads (T.den ΦP ρ chT).list).flatten = _; rw [hC', hhs]
  have h65 : (T.den ΦP ρ (.fn 65 chT .nil .nil)).int = hs.length := by show ((chainHeads (T.den ΦP ρ chT).list).length : Int) = _; rw [hC', hhs]
  have h62 : (T.den ΦP ρ (.fn 62 (.fn 64 chT .nil .nil) P .nil)).int = 0 := by
    show (putH headErr (rowsOf (T.den ΦP ρ (.fn 64 chT .nil .nil)).list) (T.den ΦP ρ P).list).1 = 0
    rw [h64, hP, hrows, hsame]; exact hput.1
  have h63 : (T.den ΦP ρ (pkT P)).list = q := by
    show (putH headErr (rowsOf (T.den ΦP ρ (.fn 64 chT .nil .nil)).list) (T.den ΦP ρ P).list).2 = q
    rw [h64, hP, hrows, hsame]; exact hq
  have h50 : (T.den ΦP ρ (.fn 50 (pkT P) .nil .nil)).list = hs.flatten := by show (peelOf (T.den ΦP ρ (pkT P)).list).1 = _; rw [h63, hpeel]
  have h51 : (T.den ΦP ρ (.fn 51 (pkT P) .nil .nil)).int = 0 := by show (peelOf (T.den ΦP ρ (pkT P)).list).2.2 = _; rw [h63, hpeel]
  have h52 : (T.den ΦP ρ (.fn 52 (pkT P) .nil .nil)).int = hs.length := by
    show (((peelOf (T.den ΦP ρ (pkT P)).list).1.length / 73 : Nat) : Int) = _
    rw [h63, hpeel]; show ((hs.flatten.length / 73 : Nat) : Int) = _; rw [hfl]; omega
  have h53 : (T.den ΦP ρ (.fn 53 (pkT P) .nil .nil)).list = p := by
    show (T.den ΦP ρ (pkT P)).list.drop (peelOf (T.den ΦP ρ (pkT P)).list).2.1 = p
    rw [h63, hpeel]; exact hok.ends
  have hqs : q.length ≤ 2048 := by rw [hput.2]; omega
  have hkin : inKinds kHead 0 hs.flatten = true := by
    obtain ⟨m, m1, m2, m3⟩ := peelOf_spec (p := q) (by rw [hpeel])
    have := m3.kin; rwa [hpeel] at this
  have hK : BkKnow q hs hs.length := by
    obtain ⟨m, m1, m2, m3⟩ := peelOf_spec (p := q) (by rw [hpeel])
    have hm : m = hs.length := by have := m3.len; rw [hpeel] at this; have this : hs.flatten.length = 73 * m := this; omega
    subst hm
    exact ⟨by rw [hpeel], by rw [hpeel], by rw [hpeel] at m3 ⊢; exact m3, rfl, c2, c1, hgood, by rw [← hhs]; exact chain_told hc, hok.bytes, hqs⟩
  have hsum : szSum hs.flatten hs.length = q.length - p.length := by have := hK.peeled.sum; rw [hpeel] at this; exact this
  have hkc : inKinds kChain 0 C = true := by
    rw [inKinds_iff]
    intro j z hj
    have hl75 : C.length = 75 := hc.1.symm
    have hlt : j < 75 := by have := (List.getElem?_eq_some_iff.1 hj).1; omega
    obtain ⟨k, hk'⟩ : ∃ k, kChain[j]? = some k := ⟨_, List.getElem?_eq_getElem (show j < kChain.length from hlt)⟩
    have : kAt kChain (0 + j) = k := by rw [Nat.zero_add, kAt, show kChain.length = 75 from rfl, Nat.mod_eq_of_lt hlt, List.getD_eq_getElem?_getD, hk']; rfl
    rw [this]; exact hc.2 j k z hk' hj
  have f1 : (T.den ΦP ρ (.fn 66 (.var 1) (.num 3) .nil)).int = bringI (ρ 1).int 3 := rfl
  have f2 : (T.den ΦP ρ (.fn 66 (.var 2) (.num 3) .nil)).int = bringI (ρ 2).int 3 := rfl
  refine ⟨by rw [le_t, den_var, den_num]; exact k1.1, by rw [le_t, den_var, den_num]; exact k1.2, by rw [le_t, f1, den_num]; exact b1.1, by rw [lt_t, f1, den_num]; exact b1.2, by rw [le_t, den_var, den_num]; exact k2.1, by rw [le_t, den_var, den_num]; exact k2.2, by rw [le_t, f2, den_num]; exact b2.1, by rw [lt_t, f2, den_num]; exact b2.2,
    (by show inKinds kChain 0 (T.den ΦP ρ chT).list = true; rw [hC']; exact hkc), by rw [le_t, h65, den_num]; show (1 : Int) ≤ _; omega, by rw [le_t, h65, den_num]; show _ ≤ (8 : Int); omega, by rw [eq_t, int_len, int_mul, h64, h65, den_num, hfl]; show ((73 * hs.length : Nat) : Int) = hs.length * 73; omega,
    (by show inKinds kHead 0 (T.den ΦP ρ (.fn 64 chT .nil .nil)).list = true; rw [h64]; exact hkin), by rw [bytes_t, hP]; exact hp, fun c => ⟨by rw [bytes_t, h63]; exact hok.bytes, by rw [le_t, int_len, h63, den_num]; show _ ≤ (140737488351232 : Int); omega, fun d => ⟨by rw [le_t, h52, den_num]; show (1 : Int) ≤ _; omega, by rw [le_t, h52, den_num]; show _ ≤ (8 : Int); omega,
      by rw [eq_t, int_len, int_mul, h50, h52, den_num, hfl]; show ((73 * hs.length : Nat) : Int) = hs.length * 73; omega, (by show inKinds kHead 0 (T.den ΦP ρ (.fn 50 (pkT P) .nil .nil)).list = true; rw [h50]; exact hkin), by rw [bytes_t, h53]; exact hp, by rw [le_t, int_len, int_len, h53, h63]; have := hok.long; omega,
      fun e => ?_, fun e => ⟨fun s => ?_, fun s => ?_⟩⟩, fun d => ?_⟩, fun c => ?_⟩
  · exfalso
    rw [not_t, eq_f, h52, h65] at e
    exact e rfl
  · exfalso
    rw [not_t, leq_f, h53, hP] at s
    exact s rfl
  · refine bkLoop_ok hn hK ⟨0, rfl, Nat.zero_le _, rfl, fun j hj => ?_, h65, h64, ?_, h63, h52, h50⟩ (fun ρ' s1 s2 s3 s4 => hfin ρ' s1 s2 ?_)
    · have : j = 0 ∨ j = 1 ∨ j = 2 ∨ j = 3 ∨ j = 4 ∨ j = 5 ∨ j = 6 := by omega
      rcases this with rfl | rfl | rfl | rfl | rfl | rfl | rfl <;> exact ⟨fun h => (by cases h), fun ⟨i', h, _⟩ => (by omega)⟩
    · show (T.den ΦP ρ (.c1 .len (pkT P))).int = _; rw [int_len, h63]
    · rw [s3, s4, hsum]; have := hok.long; omega
  · exfalso
    rw [eq_f, h51] at d
    exact d rfl
  · exfalso
    rw [eq_f, h62] at c
    exact c rfl
set_option maxRecDepth 100000 in
theorem pbBack_ok : TmplOk Go.Proofs.Try.prog ΦP 5 tBack := by
  refine tmpl_of (moreCons (con_ok bring_ok) (moreCons (con_ok heads_ok) (moreCons (con_ok whole_ok) (moreCons (con_ok where_ok) (moreCons (con_ok whereR_ok) consPl_ok))))) treePbBack_is (fun ρ res hres => ?_)
  have hres : (inKs 0 kChain (short 75 (bytes 75 (truth 100000)))).val (T.den ΦP ρ) = some res := by simpa only [tBack, O.val, den_bol, D.bool_b, if_true] using hres
  obtain ⟨hk, hres⟩ := inKs_some hres
  obtain ⟨h0, hres⟩ := short_some hres
  obtain ⟨hb, hres⟩ := bytes_some hres
  obtain rfl := ret_some hres
  have hb : Bytes (ρ 75).list := hb
  by_cases hl : 1800 < (ρ 75).list.length
  · refine ⟨bkJ (putH pushErr (chainHeads (chainB ρ)) ((ρ 75).list.take 1800)).2 (chainHeads (chainB ρ)) (chainHeads (chainB ρ)).length, fun c => ?_, fun c => ?_⟩
    · refine bkTop_ok (P := .c2 .take (.num 1800) (.var 75)) (fin := .c2 .eq (.c2 .add (.var 77) (.num 1800)) (.var 87)) (n0 := 5806) (n1 := 6006) (n2 := 6008) (n3 := 6414) (n4 := 6434) (n5 := 6013) (by decide) hk (p := (ρ 75).list.take 1800) rfl (bytes_take hb _) (by rw [List.length_take]; omega) (fun ρ' s1 s2 s3 => ?_)
      rw [eq_t, int_add, den_var, den_var, s3, List.length_take]
      show (ρ' 77).int + 1800 = _; omega
    · exfalso
      rw [lt_f, int_len, den_var] at c
      have c : ((ρ 75).list.length : Int) ≤ 1800 := c
      omega
  · refine ⟨bkJ (putH pushErr (chainHeads (chainB ρ)) (ρ 75).list).2 (chainHeads (chainB ρ)) (chainHeads (chainB ρ)).length, fun c => ?_, fun c => ?_⟩
    · exfalso
      rw [lt_t, int_len, den_var] at c
      have c : (1800 : Int) < (ρ 75).list.length := c
      omega
    · refine bkTop_ok (P := .var 75) (fin := .c2 .eq (.c2 .add (.var 77) (.c1 .len (.var 75))) (.var 87)) (n0 := 5806) (n1 := 6006) (n2 := 6008) (n3 := 6414) (n4 := 6434) (n5 := 6013) (by decide) hk (p := (ρ 75).list) rfl hb (by omega) (fun ρ' s1 s2 s3 => ?_)
      rw [eq_t, int_add, int_len, den_var, den_var, den_var, s2, s3]
end Go.Proofs.Ytbiodlomlendkaa.Sx
