/- Sx laws of sums: a field that is updated keeps the sum: the trees' leaves are true. Conditions: none. -/
import Derived.Test.YtlgiibchnnaceaaSmK
import Derived.Test.YtlgiibchnnaceaaSuA
import Derived.Test.YtlgiibchnnaceaaTSuBring
import Derived.Test.YtlgiibchnnaceaaTSuSame
import Derived.Test.YtlgiibchnnaceaaTSuUpdate
import Derived.Test.YtlgiibchnnaceaaTSuAwake
import Derived.Test.YtlgiibchnnaceaaTSuUpd
set_option linter.unusedVariables false
set_option linter.unusedSimpArgs false
namespace Go.Proofs.Ytlgiibchnnaceaa.Sx
open Go
def brI (x y : Int) : Int := if x.tmod y < 0 then x.tmod y + y else x.tmod y
theorem brI_range (x : Int) {y : Int} (h : 0 < y) : 0 ≤ brI x y ∧ brI x y < y := by
  have h1 := Int.tmod_lt_of_pos x h
  have h2 := Int.lt_tmod_of_pos x h
  unfold brI; split <;> omega
def updI (f o n : Int) : Int := 65535 - ocs (ocs (65535 - f + (65535 - o)) + n)
def ΦS : Sig := fun f x y z => match f with
  | 1 => .i (ocs (wsum x.list))
  | 2 => .i (ocs x.int)
  | 3 => .i (brI x.int y.int)
  | 4 => .b (decide (x.int % 65535 = y.int % 65535))
  | 5 => .i (updI x.int y.int z.int)
  | _ => .i 0
theorem sigS : SumSig ΦS := ⟨fun _ _ _ => rfl, fun _ _ _ => rfl⟩
theorem bring_ok : TmplOk Go.Proofs.Try.prog ΦS 33 tBring := by
  refine tmpl_of noCons treeSuBring_is (fun ρ res hres => ⟨eqJ, ?_⟩)
  obtain ⟨h0, h1, hres⟩ := inR_some hres
  obtain ⟨h2, h3, hres⟩ := inR_some hres
  obtain ⟨_, hres⟩ := chk_some hres
  obtain ⟨_, hres⟩ := chk_some hres
  obtain rfl := ret_some hres
  have hr := brI_range (ρ 0).int (y := (ρ 1).int) (by omega)
  have hv : (T.den ΦS ρ (brT (.var 0) (.var 1))).int = brI (ρ 0).int (ρ 1).int := rfl
  refine ⟨fun c => ?_, fun c => ?_⟩
  · simp at c
    have e : brI (ρ 0).int (ρ 1).int = (ρ 0).int.tmod (ρ 1).int + (ρ 1).int := by unfold brI; rw [if_pos c]
    refine ⟨⟨rfl, ?_⟩, trivial, Nat.le_refl _⟩
    rw [hv, e]
    simp
    rw [← e]
    exact wrap_is (by simp [kmin]; omega) (by simp [kmax]; omega)
  · simp at c
    refine ⟨⟨rfl, ?_⟩, trivial, Nat.le_refl _⟩
    rw [hv]
    simp [brI]
    omega
theorem same_ok : TmplOk Go.Proofs.Try.prog ΦS 26 tSame := by
  refine tmpl_of noCons treeSuSame_is (fun ρ res hres => ⟨eqJ, ?_⟩)
  obtain ⟨h0, h1, hres⟩ := inR_some hres
  obtain ⟨h2, h3, hres⟩ := inR_some hres
  obtain rfl := ret_some hres
  have hv : (T.den ΦS ρ (.fn 4 (.var 0) (.var 1) .nil)).bool = decide ((ρ 0).int % 65535 = (ρ 1).int % 65535) := rfl
  refine ⟨fun c => ⟨?_, trivial, Nat.le_refl _⟩, fun c => ⟨?_, trivial, Nat.le_refl _⟩⟩
  · simp at c
    show true = (T.den ΦS ρ (.fn 4 (.var 0) (.var 1) .nil)).bool
    rw [hv, c]; simp
  · show (T.den ΦS ρ (.c2 .eq _ _)).bool = (T.den ΦS ρ (.fn 4 (.var 0) (.var 1) .nil)).bool
    rw [hv, Bool.eq_iff_iff, decide_eq_true_iff]
    simp
    omega
theorem update_ok : TmplOk Go.Proofs.Try.prog ΦS 28 tUpdate := by
  refine tmpl_of (moreCons (con_ok (sum_ok sigS)) (moreCons (con_ok (fold_ok sigS)) noCons)) treeSuUpdate_is (fun ρ res hres => ⟨eqJ, ?_⟩)
  obtain ⟨h0, h1, hres⟩ := inR_some hres
  obtain ⟨h2, h3, hres⟩ := inR_some hres
  obtain ⟨h4, h5, hres⟩ := inR_some hres
  obtain rfl := ret_some hres
  refine ⟨⟨rfl, ?_⟩, trivial, Nat.le_refl _⟩
  have hv : (T.den ΦS ρ (.wr .u16 (.fn 5 (.var 0) (.var 1) (.var 2)))).int = IntKind.u16.wrap (updI (ρ 0).int (ρ 1).int (ρ 2).int) := rfl
  have hr := ocs_range (ocs (65535 - (ρ 0).int + (65535 - (ρ 1).int)) + (ρ 2).int)
  have hw : IntKind.u16.wrap (updI (ρ 0).int (ρ 1).int (ρ 2).int) = updI (ρ 0).int (ρ 1).int (ρ 2).int := wrap_is (by simp [kmin, updI]; omega) (by simp [kmax, updI]; omega)
  rw [hv, hw]
  simp [sigS.ocs, wrap_ocs, updI]
theorem consSu0_ok : ConsOk Go.Proofs.Try.prog ΦS consSu0 := moreCons (con_ok (sum_ok sigS)) (moreCons (con_ok (fold_ok sigS)) noCons)
theorem consSu_ok : ConsOk Go.Proofs.Try.prog ΦS consSu := moreCons (con_ok same_ok) (moreCons (con_ok update_ok) (moreCons (con_ok bring_ok) consSu0_ok))
theorem suAwake_ok : TmplOk Go.Proofs.Try.prog ΦS 21 tTrue := by
  refine tmpl_of consSu_ok treeSuAwake_is (fun ρ res hres => ⟨eqJ, ?_⟩)
  obtain rfl := ret_some hres
  refine ⟨fun _ => ⟨fun _ => ⟨fun _ => ⟨fun _ => ⟨fun _ => ⟨fun _ => leaf_true ?_ (by decide), fun c => ?_⟩, fun c => ?_⟩, fun c => ?_⟩, fun c => ?_⟩, fun c => ?_⟩, fun c => ?_⟩
  · simp [ΦS, updI, ocs, IntKind.wrap, IntKind.bits, IntKind.signed]
  all_goals
    exfalso
    simp [ΦS, ocs, wsum, IntKind.wrap, IntKind.bits, IntKind.signed] at c
theorem wsum_put : ∀ (k : Nat) (l : List Int) (x y : Int), 2 * k + 1 < l.length → wsum ((l.set (2 * k) x).set (2 * k + 1) y) = wsum l - (l[2 * k]?.getD 0 * 256 + l[2 * k + 1]?.getD 0) + (x * 256 + y)
  | 0, l, x, y, h => by
    match l, h with
    | a :: b :: r, _ => simp [wsum]; omega
  | k + 1, l, x, y, h => by
    match l, h with
    | a :: b :: r, h =>
      have := wsum_put k r x y (by simp at h; omega)
      rw [show 2 * (k + 1) = 2 * k + 1 + 1 from by omega]
      simp only [List.set_cons_succ, wsum, List.getElem?_cons_succ, show 2 * k + 1 + 1 + 1 = (2 * k + 1) + 1 + 1 from rfl, this]
      omega
theorem ocs_mod {n : Int} (h : 0 ≤ n) : ocs n % 65535 = n % 65535 := by unfold ocs; split <;> omega
/-- Two fields put in: the sum is what it was. -/
theorem put_two {l : List Int} {k m : Nat} {v : Int} (hk : 2 * k + 1 < l.length) (hm : 2 * m + 1 < l.length) (hne : k ≠ m) (hb : Bytes l) (hv : 0 ≤ v ∧ v ≤ 65535) {u : Int} (hu : u = updI (l[2 * m]?.getD 0 * 256 + l[2 * m + 1]?.getD 0) (l[2 * k]?.getD 0 * 256 + l[2 * k + 1]?.getD 0) v) :
    0 ≤ u ∧ u ≤ 65535 ∧ wsum ((((l.set (2 * k) (v / 256)).set (2 * k + 1) (v % 256)).set (2 * m) (u / 256)).set (2 * m + 1) (u % 256)) % 65535 = wsum l % 65535 ∧
    0 ≤ wsum ((((l.set (2 * k) (v / 256)).set (2 * k + 1) (v % 256)).set (2 * m) (u / 256)).set (2 * m + 1) (u % 256)) ∧ 0 ≤ wsum l := by
  have b1 := byte_rd hb (2 * k)
  have b2 := byte_rd hb (2 * k + 1)
  have b3 := byte_rd hb (2 * m)
  have b4 := byte_rd hb (2 * m + 1)
  have p1 := wsum_put m ((l.set (2 * k) (v / 256)).set (2 * k + 1) (v % 256)) (u / 256) (u % 256) (by simpa using hm)
  have p2 := wsum_put k l (v / 256) (v % 256) hk
  rw [List.getElem?_set_ne (by omega), List.getElem?_set_ne (by omega), List.getElem?_set_ne (by omega), List.getElem?_set_ne (by omega), p2] at p1
  generalize hff : l[2 * m]?.getD 0 * 256 + l[2 * m + 1]?.getD 0 = f at *
  generalize hfo : l[2 * k]?.getD 0 * 256 + l[2 * k + 1]?.getD 0 = o at *
  have hr := ocs_range (ocs (65535 - f + (65535 - o)) + v)
  have hr1 := ocs_range (65535 - f + (65535 - o))
  have hl := (wsum_range hb).1
  have hu01 : 0 ≤ u ∧ u ≤ 65535 := by rw [hu]; unfold updI; omega
  have hbs : Bytes ((((l.set (2 * k) (v / 256)).set (2 * k + 1) (v % 256)).set (2 * m) (u / 256)).set (2 * m + 1) (u % 256)) := by
    have key : ∀ (l : List Int) (i : Nat) (x : Int), Bytes l → 0 ≤ x ∧ x < 256 → Bytes (l.set i x) := by
      intro l i x h hx z hz
      rcases List.mem_or_eq_of_mem_set hz with h1 | h1
      · exact h z h1
      · rw [h1]; exact hx
    have tb : ∀ x : Int, 0 ≤ x → x ≤ 65535 → (0 ≤ x / 256 ∧ x / 256 < 256) ∧ (0 ≤ x % 256 ∧ x % 256 < 256) := fun x _ _ => by omega
    have tu := tb u hu01.1 hu01.2
    have tv := tb v hv.1 hv.2
    exact key _ _ _ (key _ _ _ (key _ _ _ (key _ _ _ hb tv.1) tv.2) tu.1) tu.2
  have hl2 := (wsum_range hbs).1
  refine ⟨hu01.1, hu01.2, ?_, hl2, hl⟩
  rw [p1]
  have m1 : ocs (65535 - f + (65535 - o)) % 65535 = (65535 - f + (65535 - o)) % 65535 := by unfold ocs; split <;> omega
  have m2 : ocs (ocs (65535 - f + (65535 - o)) + v) % 65535 = (ocs (65535 - f + (65535 - o)) + v) % 65535 := ocs_mod (by omega)
  unfold updI at hu
  omega
theorem su_ok : TmplOk Go.Proofs.Try.prog ΦS 8 tSu := by
  refine tmpl_of (moreCons (con_ok suAwake_ok) consSu_ok) treeSuUpd_is (fun ρ res hres => ⟨eqJ, ?_⟩)
  obtain ⟨h0, hres⟩ := short_some hres
  obtain ⟨hb, hres⟩ := bytes_some hres
  obtain ⟨hk, hres⟩ := inKs_some hres
  obtain ⟨n0, n1, hres⟩ := inR_some hres
  obtain rfl := ret_some hres
  generalize hl : (ρ 0).list = l at *
  refine ⟨fun c => leaf_true rfl (by decide), fun c => ?_⟩
  simp [hl] at c
  have hWW : (T.den ΦS ρ (.c2 .fdiv (.c1 .len (.var 0)) (.num 2))).int = (l.length : Int) / 2 := by simp [hl]
  have hAT : (T.den ΦS ρ (.fn 3 (.var 1) (.c2 .fdiv (.c1 .len (.var 0)) (.num 2)) .nil)).int = brI (ρ 1).int ((l.length : Int) / 2) := by rw [← hWW]; rfl
  have hFD : (T.den ΦS ρ (.fn 3 (.var 2) (.c2 .fdiv (.c1 .len (.var 0)) (.num 2)) .nil)).int = brI (ρ 2).int ((l.length : Int) / 2) := by rw [← hWW]; rfl
  have r1 := brI_range (ρ 1).int (y := (l.length : Int) / 2) (by omega)
  have r2 := brI_range (ρ 2).int (y := (l.length : Int) / 2) (by omega)
  obtain ⟨k, hk'⟩ := Int.eq_ofNat_of_zero_le r1.1
  obtain ⟨m, hm'⟩ := Int.eq_ofNat_of_zero_le r2.1
  rw [hk'] at r1 hAT
  rw [hm'] at r2 hFD
  have hw : ∀ z : Int, 0 ≤ z → z ≤ 9223372036854775807 → IntKind.i64.wrap z = z := fun z a b => wrap_is (by simp [kmin]; omega) (by simp [kmax]; omega)
  have hA2 : (T.den ΦS ρ (.wr .i64 (.c2 .mul (.fn 3 (.var 1) (.c2 .fdiv (.c1 .len (.var 0)) (.num 2)) .nil) (.num 2)))).int = ((2 * k : Nat) : Int) := by
    rw [int_wr, int_mul, hAT]; simp only [den_num, D.int_i]; rw [hw _ (by omega) (by omega)]; omega
  have hF2 : (T.den ΦS ρ (.wr .i64 (.c2 .mul (.fn 3 (.var 2) (.c2 .fdiv (.c1 .len (.var 0)) (.num 2)) .nil) (.num 2)))).int = ((2 * m : Nat) : Int) := by
    rw [int_wr, int_mul, hFD]; simp only [den_num, D.int_i]; rw [hw _ (by omega) (by omega)]; omega
  have hA3 : (T.den ΦS ρ (.wr .i64 (.c2 .add (.wr .i64 (.c2 .mul (.fn 3 (.var 1) (.c2 .fdiv (.c1 .len (.var 0)) (.num 2)) .nil) (.num 2))) (.num 1)))).int = ((2 * k + 1 : Nat) : Int) := by
    rw [int_wr, int_add, hA2]; simp only [den_num, D.int_i]; rw [hw _ (by omega) (by omega)]; omega
  have hF3 : (T.den ΦS ρ (.wr .i64 (.c2 .add (.wr .i64 (.c2 .mul (.fn 3 (.var 2) (.c2 .fdiv (.c1 .len (.var 0)) (.num 2)) .nil) (.num 2))) (.num 1)))).int = ((2 * m + 1 : Nat) : Int) := by
    rw [int_wr, int_add, hF2]; simp only [den_num, D.int_i]; rw [hw _ (by omega) (by omega)]; omega
  have hWW2 : (T.den ΦS ρ (.c2 .mul (.c2 .fdiv (.c1 .len (.var 0)) (.num 2)) (.num 2))).int = (l.length : Int) / 2 * 2 := by rw [int_mul, hWW]; rfl
  generalize (T.c2 .mul (.c2 .fdiv (.c1 .len (.var 0)) (.num 2)) (.num 2)) = tW2 at *
  generalize (T.wr .i64 (.c2 .add (.wr .i64 (.c2 .mul (.fn 3 (.var 1) (.c2 .fdiv (.c1 .len (.var 0)) (.num 2)) .nil) (.num 2))) (.num 1))) = tA3 at *
  generalize (T.wr .i64 (.c2 .add (.wr .i64 (.c2 .mul (.fn 3 (.var 2) (.c2 .fdiv (.c1 .len (.var 0)) (.num 2)) .nil) (.num 2))) (.num 1))) = tF3 at *
  generalize (T.wr .i64 (.c2 .mul (.fn 3 (.var 1) (.c2 .fdiv (.c1 .len (.var 0)) (.num 2)) .nil) (.num 2))) = tA2 at *
  generalize (T.wr .i64 (.c2 .mul (.fn 3 (.var 2) (.c2 .fdiv (.c1 .len (.var 0)) (.num 2)) .nil) (.num 2))) = tF2 at *
  generalize hU : (T.wr .u16 (.fn 5 (.c2 .add (.c2 .mul (.c2 .rd (.var 0) tF2) (.num 256)) (.c2 .rd (.var 0) tF3)) (.c2 .add (.c2 .mul (.c2 .rd (.var 0) tA2) (.num 256)) (.c2 .rd (.var 0) tA3)) (.var 3))) = tU
  generalize hWt : (T.c2 .fdiv (.c1 .len (.var 0)) (.num 2)) = tW at *
  have hlen : ((T.den ΦS ρ (.c1 .len (.var 0))).int) = l.length := by simp [hl]
  refine ⟨?_, ?_, ?_, ?_, fun d => leaf_true rfl (by decide), fun d => ⟨?_, ?_, ?_, ?_, ?_, ?_, ?_, ?_, ?_, fun e => ?_, fun e => ?_⟩⟩
  · rw [le_t, hAT]; simp
  · rw [lt_t, hAT, hWW]; omega
  · rw [le_t, hFD]; simp
  · rw [lt_t, hFD, hWW]; omega
  · rw [le_t, hF2]; exact Int.natCast_nonneg _
  · rw [lt_t, hF2, hlen]; omega
  · rw [le_t, hF3]; exact Int.natCast_nonneg _
  · rw [lt_t, hF3, hlen]; omega
  · rw [le_t, hA2]; exact Int.natCast_nonneg _
  · rw [lt_t, hA2, hlen]; omega
  · rw [le_t, hA3]; exact Int.natCast_nonneg _
  · rw [lt_t, hA3, hlen]; omega
  · rw [le_t, hWW2, hlen]; omega
  · exfalso
    rw [eq_t, int_sub, int_mul, int_fdiv, hWW2] at e
    simp at e
  · rw [eq_f, hA2, hF2] at d
    have hne : k ≠ m := fun e => d (by rw [e])
    have hUd : (T.den ΦS ρ tU).int = IntKind.u16.wrap (updI (l[2 * m]?.getD 0 * 256 + l[2 * m + 1]?.getD 0) (l[2 * k]?.getD 0 * 256 + l[2 * k + 1]?.getD 0) (ρ 3).int) := by
      rw [← hU, int_wr, den_fn]
      show IntKind.u16.wrap (updI _ _ _) = _
      simp only [int_add, int_mul, int_rd, den_var, den_num, D.int_i, hA2, hA3, hF2, hF3, hl, Int.toNat_natCast]
    obtain ⟨u0, u1, hs, hs0, hs1⟩ := put_two (l := l) (k := k) (m := m) (v := (ρ 3).int) (by omega) (by omega) hne hb ⟨n0, n1⟩ rfl
    have hwu : (T.den ΦS ρ tU).int = updI (l[2 * m]?.getD 0 * 256 + l[2 * m + 1]?.getD 0) (l[2 * k]?.getD 0 * 256 + l[2 * k + 1]?.getD 0) (ρ 3).int := by
      rw [hUd]; exact wrap_is (by simpa [kmin] using u0) (by simpa [kmax] using u1)
    generalize hu : updI (l[2 * m]?.getD 0 * 256 + l[2 * m + 1]?.getD 0) (l[2 * k]?.getD 0 * 256 + l[2 * k + 1]?.getD 0) (ρ 3).int = u at *
    have m1 : ∀ x : Int, x - x / 256 * 256 = x % 256 := fun x => by omega
    have hset : (T.den ΦS ρ (.set (.set (.set (.set (.var 0) tA2 (.c2 .fdiv (.var 3) (.num 256))) tA3 (.c2 .sub (.var 3) (.c2 .mul (.c2 .fdiv (.var 3) (.num 256)) (.num 256)))) tF2 (.c2 .fdiv tU (.num 256))) tF3 (.c2 .sub tU (.c2 .mul (.c2 .fdiv tU (.num 256)) (.num 256))))).list = (((l.set (2 * k) ((ρ 3).int / 256)).set (2 * k + 1) ((ρ 3).int % 256)).set (2 * m) (u / 256)).set (2 * m + 1) (u % 256) := by
      simp only [list_set, den_var, hl, hA2, hA3, hF2, hF3, Int.toNat_natCast, int_fdiv, int_sub, int_mul, den_num, D.int_i, fdiv_lit, hwu, m1]
    generalize hN : (T.set (.set (.set (.set (.var 0) tA2 (.c2 .fdiv (.var 3) (.num 256))) tA3 (.c2 .sub (.var 3) (.c2 .mul (.c2 .fdiv (.var 3) (.num 256)) (.num 256)))) tF2 (.c2 .fdiv tU (.num 256))) tF3 (.c2 .sub tU (.c2 .mul (.c2 .fdiv tU (.num 256)) (.num 256)))) = tN at *
    refine ⟨fun f => ?_, fun f => ?_⟩
    · refine leaf_true ?_ (by decide)
      have ht : (l.length : Int) / 2 * 2 = ((2 * (l.length / 2) : Nat) : Int) := by omega
      generalize hP : l.length / 2 = P at *
      have hbt : Bytes (l.take (2 * P)) := fun z hz => hb z (List.mem_of_mem_take hz)
      have g : ∀ i, i < 2 * P → (l.take (2 * P))[i]? = l[i]? := fun i hi => by rw [List.getElem?_take, if_pos hi]
      have hkP : k < P := by omega
      have hmP : m < P := by omega
      obtain ⟨_, _, hs', hs0', hs1'⟩ := put_two (l := l.take (2 * P)) (k := k) (m := m) (v := (ρ 3).int) (u := u) (by rw [List.length_take]; omega) (by rw [List.length_take]; omega) hne hbt ⟨n0, n1⟩ (by
        rw [g _ (by omega), g _ (by omega), g _ (by omega), g _ (by omega)]; exact hu.symm)
      have hv : ∀ a b, (T.den ΦS ρ (.fn 4 a b .nil)).bool = decide ((T.den ΦS ρ a).int % 65535 = (T.den ΦS ρ b).int % 65535) := fun _ _ => rfl
      have h2 : ∀ a, (T.den ΦS ρ (.wr .u16 (.fn 2 a .nil .nil))).int = ocs (T.den ΦS ρ a).int := fun a => wrap_ocs _
      have h1 : ∀ a, (T.den ΦS ρ (.wr .u16 (.fn 1 a .nil .nil))).int = ocs (wsum (T.den ΦS ρ a).list) := fun a => wrap_ocs _
      rw [hv, decide_eq_true_iff, h2, int_add, int_sub, h1, h1, list_take, list_take, hWW2, hset, den_var, hl, ht, Int.toNat_natCast, List.take_set, List.take_set, List.take_set, List.take_set]
      have o1 := ocs_mod hs0'
      have o2 := ocs_mod hs1'
      have q1 := ocs_range (wsum ((((((l.take (2 * P)).set (2 * k) ((ρ 3).int / 256)).set (2 * k + 1) ((ρ 3).int % 256)).set (2 * m) (u / 256)).set (2 * m + 1) (u % 256))))
      have q2 := ocs_range (wsum (l.take (2 * P)))
      generalize ocs (wsum ((((((l.take (2 * P)).set (2 * k) ((ρ 3).int / 256)).set (2 * k + 1) ((ρ 3).int % 256)).set (2 * m) (u / 256)).set (2 * m + 1) (u % 256)))) = x at *
      generalize ocs (wsum (l.take (2 * P))) = y at *
      have o3 := ocs_mod (n := x + (65535 - y)) (by omega)
      simp only [den_num, D.int_i]
      rw [o3]
      omega
    · exfalso
      have hv : ∀ a b, (T.den ΦS ρ (.fn 4 a b .nil)).bool = decide ((T.den ΦS ρ a).int % 65535 = (T.den ΦS ρ b).int % 65535) := fun _ _ => rfl
      have h1 : ∀ a, (T.den ΦS ρ (.wr .u16 (.fn 1 a .nil .nil))).int = ocs (wsum (T.den ΦS ρ a).list) := fun a => wrap_ocs _
      rw [hv, h1, h1, hset, den_var, hl, decide_eq_false_iff_not] at f
      have o1 := ocs_mod hs0
      have o2 := ocs_mod hs1
      omega
end Go.Proofs.Ytlgiibchnnaceaa.Sx
