/- Sx laws of sums: the contracts hold. Conditions: none. -/
import Derived.Test.YtlgiibchnnaceaaSmM
import Derived.Test.YtlgiibchnnaceaaTSmFold
import Derived.Test.YtlgiibchnnaceaaTSmSum
import Derived.Test.YtlgiibchnnaceaaTSmRef
set_option linter.unusedVariables false
set_option linter.unusedSimpArgs false
namespace Go.Proofs.Ytlgiibchnnaceaa.Sx
open Go
section
variable {Φ : Sig}
theorem upd_env {ρ : Env} {b : Nat} {ds : List D} : (∀ i, i < b → upd ρ b ds i = ρ i) ∧ ∀ i, i < ds.length → upd ρ b ds (b + i) = nthD ds i := ⟨fun i h => upd_lo ds h, fun i h => upd_at h⟩
def foldJ : Inv := ⟨fun _ ρ ds => 0 ≤ (nthD ds 0).int ∧ (nthD ds 0).int ≤ 18446744073709551615 ∧ ocs (nthD ds 0).int = ocs (ρ 0).int, fun _ ρ ds => (nthD ds 0).int.toNat⟩
theorem fold_ok (hΦ : SumSig Φ) : TmplOk Go.Proofs.Try.prog Φ 45 tFold := by
  refine tmpl_of noCons treeSmFold_is (fun ρ res hres => ⟨foldJ, ?_⟩)
  obtain ⟨h0, h1, hres⟩ := inR_some hres
  obtain rfl := ret_some hres
  refine ⟨⟨h0, h1, rfl⟩, ?_⟩
  rintro ds hlen ⟨i0, i1, i2⟩
  have e0 : upd ρ 1 ds 0 = ρ 0 := upd_lo ds (by decide)
  have e1 : upd ρ 1 ds 1 = nthD ds 0 := upd_at (i := 0) (by omega)
  generalize hn : (nthD ds 0).int = n at *
  refine ⟨?_, fun c => ?_, fun c => ?_⟩
  · intro t p hm
    simp only [List.mem_cons, Prod.mk.injEq, List.not_mem_nil, or_false] at hm
    rcases hm with ⟨rfl, rfl⟩ | ⟨rfl, rfl⟩ <;> simp [e1, hn] <;> omega
  · simp [e1, hn] at c
    show BK.at_ _ 1 _ 1 _
    simp only [BK.at_, if_true, foldJ, List.map, nthD, int_add, int_sub, int_mul, int_fdiv, den_var, den_num, D.int_i, fdiv_lit, e1, hn]
    refine ⟨⟨by omega, by omega, ?_⟩, by omega⟩
    rw [← i2]; exact ocs_fold c
  · simp [e1, hn] at c
    refine ⟨⟨rfl, ?_⟩, trivial, Nat.le_refl _⟩
    show (T.den Φ (upd ρ 1 ds) (.var 1)).int = (T.den Φ ρ (ocsT (.var 0))).int
    simp only [ocsT, den_var, int_wr, den_fn, hΦ.ocs, D.int_i, e1, hn, wrap_ocs, ← i2]
    exact (ocs_id i0 c).symm
def sumJ : Inv := ⟨fun _ ρ ds => ∃ i : Nat, (nthD ds 1).int = i ∧ 2 * i ≤ (ρ 0).list.length ∧ (nthD ds 0).int = wsum ((ρ 0).list.take (2 * i)), fun _ ρ ds => (ρ 0).list.length - (nthD ds 1).int.toNat⟩
theorem sum_ok (hΦ : SumSig Φ) : TmplOk Go.Proofs.Try.prog Φ 16 tSum := by
  refine tmpl_of (moreCons (con_ok (fold_ok hΦ)) noCons) treeSmSum_is (fun ρ res hres => ⟨sumJ, ?_⟩)
  obtain ⟨h0, hres⟩ := short_some hres
  obtain ⟨hb, hres⟩ := bytes_some hres
  obtain rfl := ret_some hres
  refine ⟨⟨0, rfl, by simp, by simp [wsum, nthD]⟩, ?_⟩
  rintro ds hlen ⟨i, hi, hil, hs⟩
  have e0 : upd ρ 1 ds 0 = ρ 0 := upd_lo ds (by decide)
  have e1 : upd ρ 1 ds 1 = nthD ds 0 := upd_at (i := 0) (by omega)
  have e2 : upd ρ 1 ds 2 = nthD ds 1 := upd_at (i := 1) (by omega)
  generalize hl : (ρ 0).list = l at *
  have hbt : Bytes (l.take (2 * i)) := fun z hz => hb z (List.mem_of_mem_take hz)
  have hr := wsum_range hbt
  rw [List.length_take, Nat.min_eq_left hil] at hr
  have hw : ∀ z : Int, 0 ≤ z → z ≤ 9223372036854775807 → IntKind.i64.wrap z = z := fun z a b => wrap_is (by simp [kmin]; omega) (by simp [kmax]; omega)
  refine ⟨?_, fun c => ?_, fun c => ?_⟩
  · intro t p hm
    simp only [List.mem_cons, Prod.mk.injEq, List.not_mem_nil, or_false] at hm
    rcases hm with ⟨rfl, rfl⟩ | ⟨rfl, rfl⟩ | ⟨rfl, rfl⟩ <;> simp [e1, e2, hs, hi] <;> omega
  · simp [e0, e2, hi, hl] at c
    have w1 : IntKind.i64.wrap ((i : Int) * 2) = (i : Int) * 2 := hw _ (by omega) (by omega)
    have w2 : IntKind.i64.wrap ((i : Int) * 2 + 1) = (i : Int) * 2 + 1 := hw _ (by omega) (by omega)
    have w3 : IntKind.i64.wrap ((i : Int) + 1) = (i : Int) + 1 := hw _ (by omega) (by omega)
    have t1 : ((i : Int) * 2).toNat = 2 * i := by omega
    have t2 : ((i : Int) * 2 + 1).toNat = 2 * i + 1 := by omega
    refine ⟨?_, ?_, ?_, ?_, ?_⟩
    · simp [e2, hi, w1]; omega
    · simp [e0, e2, hi, w1, hl]; omega
    · simp [e2, hi, w1, w2]; omega
    · simp [e0, e2, hi, w1, w2, hl]; omega
    · show BK.at_ _ 1 _ 1 _
      simp only [BK.at_, if_true, sumJ, List.map, nthD, int_add, int_sub, int_mul, int_fdiv, int_wr, int_rd, den_var, den_num, D.int_i, e0, e1, e2, hs, hi, w1, w2, w3, t1, t2, hl]
      refine ⟨⟨i + 1, by omega, by omega, ?_⟩, by omega⟩
      rw [show 2 * (i + 1) = 2 * i + 2 from by omega, wsum_two i l (by omega)]
  · simp [e0, e2, hi, hl] at c
    refine ⟨fun d => ?_, fun d => ?_⟩
    · simp [e0, hl] at d
      refine ⟨⟨rfl, ?_⟩, trivial, Nat.le_refl _⟩
      have hx : ((l.length : Int) - 1).toNat = 2 * i := by omega
      show (T.den Φ (upd ρ 1 ds) (ocsT (.c2 .add (.var 1) (.c2 .mul (.c2 .rd (.var 0) (.c2 .sub (.c1 .len (.var 0)) (.num 1))) (.num 256))))).int = (T.den Φ ρ (sumT (.var 0))).int
      simp only [ocsT, sumT, den_var, int_wr, den_fn, hΦ.ocs, hΦ.sum, D.int_i, int_add, int_mul, int_rd, int_sub, int_len, den_num, e0, e1, hs, hl, wrap_ocs, hx]
      rw [wsum_last i l (by omega)]
    · simp [e0, hl] at d
      refine ⟨⟨rfl, ?_⟩, trivial, Nat.le_refl _⟩
      show (T.den Φ (upd ρ 1 ds) (ocsT (.var 1))).int = (T.den Φ ρ (sumT (.var 0))).int
      simp only [ocsT, sumT, den_var, int_wr, den_fn, hΦ.ocs, hΦ.sum, D.int_i, e1, hs, hl, wrap_ocs]
      rw [List.take_of_length_le (by omega)]
def refJ : Inv := ⟨fun _ ρ ds => ∃ i : Nat, (nthD ds 1).int = i ∧ i ≤ (ρ 0).list.length ∧ (nthD ds 0).int = ocs (wsum ((ρ 0).list.take i)), fun _ ρ ds => (ρ 0).list.length - (nthD ds 1).int.toNat⟩
theorem ocs_more {n a : Int} (hn : 0 ≤ n) (ha : 0 ≤ a) (h : ocs n + a ≤ 65535) : ocs n + a = ocs (n + a) := by unfold ocs at *; split at h <;> split <;> omega
theorem ocs_over {n a : Int} (hn : 0 ≤ n) (ha : 0 ≤ a) (h1 : a ≤ 65535) (h : 65535 < ocs n + a) : ocs n + a - 65535 = ocs (n + a) := by unfold ocs at *; split at h <;> split <;> omega
theorem sumRef_ok (hΦ : SumSig Φ) : TmplOk Go.Proofs.Try.prog Φ 17 tSum := by
  refine tmpl_of noCons treeSmRef_is (fun ρ res hres => ⟨refJ, ?_⟩)
  obtain ⟨h0, hres⟩ := short_some hres
  obtain ⟨hb, hres⟩ := bytes_some hres
  obtain rfl := ret_some hres
  refine ⟨⟨0, rfl, by simp, by simp [wsum, nthD, ocs]⟩, ?_⟩
  rintro ds hlen ⟨i, hi, hil, hs⟩
  have e0 : upd ρ 1 ds 0 = ρ 0 := upd_lo ds (by decide)
  have e1 : upd ρ 1 ds 1 = nthD ds 0 := upd_at (i := 0) (by omega)
  have e2 : upd ρ 1 ds 2 = nthD ds 1 := upd_at (i := 1) (by omega)
  generalize hl : (ρ 0).list = l at *
  have hbt : Bytes (l.take i) := fun z hz => hb z (List.mem_of_mem_take hz)
  have hr := wsum_range hbt
  have ho := ocs_range (wsum (l.take i))
  have hbi := byte_rd hb i
  refine ⟨?_, fun c => ?_, fun c => ?_⟩
  · intro t p hm
    simp only [List.mem_cons, Prod.mk.injEq, List.not_mem_nil, or_false] at hm
    rcases hm with ⟨rfl, rfl⟩ | ⟨rfl, rfl⟩ | ⟨rfl, rfl⟩ <;> simp [e1, e2, hs, hi] <;> omega
  · simp [e0, e2, hi, hl] at c
    have w3 : IntKind.i64.wrap ((i : Int) + 1) = (i : Int) + 1 := wrap_is (by simp [kmin]; omega) (by simp [kmax]; omega)
    have one := wsum_one i l c
    have back : ∀ (t : T), (T.den Φ (upd ρ 1 ds) t).int = ocs (wsum (l.take (i + 1))) → ∀ B : BK, M.ok (α := V × St) Φ refJ (.back 0 1 [t, (.wr .i64 (.c2 .add (.var 2) (.num 1)))]) (B.at_ 1 fun ds' => refJ.I 0 ρ ds' ∧ refJ.μ 0 ρ ds' < refJ.μ 0 ρ ds) (upd ρ 1 ds) (fun _ ρ' r => Leaf Φ ρ ρ' ⟨.c (.i .u16 (sumT (.var 0))), [], 1⟩ r) := by
      intro t ht B
      show BK.at_ _ 1 _ 1 _
      simp only [BK.at_, if_true, refJ, List.map, nthD, ht, int_wr, int_add, den_var, den_num, D.int_i, e2, hi, hl, w3]
      exact ⟨⟨i + 1, by omega, by omega, rfl⟩, by omega⟩
    refine ⟨fun d => ⟨fun f => back _ ?_ _, fun f => back _ ?_ _⟩, fun d => ⟨fun f => back _ ?_ _, fun f => back _ ?_ _⟩⟩
    all_goals
      simp [e0, e1, e2, hs, hi, hl] at d f ⊢
    · rw [if_pos (by omega)] at one
      rw [one]; exact ocs_over hr.1 (by omega) (by omega) f
    · rw [if_pos (by omega)] at one
      rw [one]; exact ocs_more hr.1 (by omega) (by omega)
    · rw [if_neg (by omega)] at one
      rw [one]; exact ocs_over hr.1 (by omega) (by omega) f
    · rw [if_neg (by omega)] at one
      rw [one]; exact ocs_more hr.1 (by omega) (by omega)
  · simp [e0, e2, hi, hl] at c
    refine ⟨⟨rfl, ?_⟩, trivial, Nat.le_refl _⟩
    show (T.den Φ (upd ρ 1 ds) (.var 1)).int = (T.den Φ ρ (sumT (.var 0))).int
    simp only [sumT, den_var, int_wr, den_fn, hΦ.sum, D.int_i, e1, hs, hl, wrap_ocs]
    rw [List.take_of_length_le (by omega)]
end
end Go.Proofs.Ytlgiibchnnaceaa.Sx
