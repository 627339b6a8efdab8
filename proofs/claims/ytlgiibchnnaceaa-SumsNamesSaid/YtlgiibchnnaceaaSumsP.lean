/- What the functions over sums tell, each for enough rounds: the printed functions' own values. -/
import Derived.Test.YtlgiibchnnaceaaPx0
import Derived.Test.YtlgiibchnnaceaaPx2
import Derived.Test.YtlgiibchnnaceaaPx3
import Derived.Test.YtlgiibchnnaceaaPx4
import Derived.Test.YtlgiibchnnaceaaPx5
import Derived.Test.YtlgiibchnnaceaaPx6
import Derived.Test.YtlgiibchnnaceaaPx7
import Derived.Test.YtlgiibchnnaceaaBase
namespace Go.Proofs.Ytlgiibchnnaceaa.M
open Go Go.RowKit Go.Proofs.YtlgiibchnnaceaaW.PrintWords Go.Proofs.Ytlgiibchnnaceaa.P

/-! fold -/
theorem fold0 (k : Nat) {n : Int} (h0 : 0 ≤ n) (h1 : n ≤ 65535) : sums_fold.l0 (k + 1) n = some (oc n) := by
  simp only [sums_fold.l0]
  rw [if_neg (by omega), wrap_u16 h0 h1, oc_small h0 h1]
theorem fold_step (k : Nat) {n : Int} (h0 : 65535 < n) (h1 : n < 18446744073709551616) : sums_fold.l0 (k + 1) n = sums_fold.l0 k (n / 65536 + n % 65536) := by
  simp only [sums_fold.l0]
  rw [if_pos h0, and_low64 (by omega) h1, wrap_u64 (by omega) (by omega)]
theorem fold_more {B C : Int} {j : Nat} (hC : C ≤ 18446744073709551616) (hB : ∀ (k : Nat) (n : Int), 0 ≤ n → n < B → sums_fold.l0 (k + j) n = some (oc n)) (hBC : ∀ n : Int, 65535 < n → n < C → n / 65536 + n % 65536 < B) :
    ∀ (k : Nat) (n : Int), 0 ≤ n → n < C → sums_fold.l0 (k + j + 1) n = some (oc n) := by
  intro k n h0 h1
  by_cases h : n ≤ 65535
  · exact fold0 _ h0 h
  · rw [fold_step _ (by omega) (by omega), hB k _ (by omega) (hBC n (by omega) h1), oc_fold (by omega)]
theorem fold_tells {n : Int} (h0 : 0 ≤ n) (h1 : n < 4611686018427387904) (k : Nat) (hk : 5 ≤ k) : sums_fold.f k n = some (oc n) := by
  obtain ⟨m, rfl⟩ : ∃ m, k = m + 5 := ⟨k - 5, by omega⟩
  unfold sums_fold.f
  have l0 : ∀ (k : Nat) (n : Int), 0 ≤ n → n < 65536 → sums_fold.l0 (k + 1) n = some (oc n) := fun k n a b => fold0 k a (by omega)
  have l1 := fold_more (j := 1) (B := 65536) (C := 131071) (by omega) l0 (fun n a b => by omega)
  have l2 := fold_more (j := 2) (B := 131071) (C := 4294967296) (by omega) l1 (fun n a b => by omega)
  have l3 := fold_more (j := 3) (B := 4294967296) (C := 140737488355328) (by omega) l2 (fun n a b => by omega)
  have l4 := fold_more (j := 4) (B := 140737488355328) (C := 4611686018427387904) (by omega) l3 (fun n a b => by omega)
  exact l4 m n h0 h1

/-! Sum -/
theorem sum_loop {l : List Int} (hl : Bytes l) (hn : l.length ≤ 140737488355328) (k : Nat) (hk : 6 ≤ k) : ∀ (d i : Nat), i + d = l.length / 2 →
    sums_Sum.l0 (k + d) l (S (l.take (2 * i))) ((l.length : Int) / 2) (i : Int) = some (oc (S l)) := by
  have hS : 0 ≤ S l ∧ S l < 4611686018427387904 := by have := S_nonneg hl; have := S_le hl; omega
  intro d
  induction d with
  | zero =>
    intro i hi
    obtain ⟨k, rfl⟩ : ∃ m, k = m + 1 := ⟨k - 1, by omega⟩
    simp only [sums_Sum.l0]
    rw [if_neg (by omega)]
    by_cases ho : (l.length : Int) % 2 = 1
    · rw [if_pos ho, wrap_i64 (by omega) (by omega), if_pos (by omega), if_pos (by omega)]
      have hb := rd_byte hl ((l.length : Int) - 1)
      have e : S l = S (l.take (2 * i)) + rd l ((l.length : Int) - 1) * 256 := by
        have e1 := take_rd l (2 * i) (by omega)
        have e2 : l.take (2 * i + 1) = l := List.take_of_length_le (by omega)
        have e3 : (((2 * i : Nat)) : Int) = (l.length : Int) - 1 := by omega
        rw [e2, e3] at e1
        have e4 := S_snoc (l.take (2 * i)) (rd l ((l.length : Int) - 1))
        rw [← e1, if_pos (by rw [List.length_take]; omega)] at e4
        exact e4
      have h0 := S_nonneg (bytes_take hl (2 * i))
      rw [wrap_u64 (x := rd l _) (by omega) (by omega), wrap_u64 (x := _ * 256) (by omega) (by omega), wrap_u64 (by omega) (by omega), ← e, fold_tells hS.1 hS.2 k (by omega)]
      rfl
    · rw [if_neg ho]
      have e : l.take (2 * i) = l := List.take_of_length_le (by omega)
      rw [e, fold_tells hS.1 hS.2 k (by omega)]
      rfl
  | succ d ih =>
    intro i hi
    have h2 := ih (i + 1) (by omega)
    rw [← Nat.add_assoc]
    simp only [sums_Sum.l0]
    have ha := rd_byte hl (2 * (i : Int)); have hb := rd_byte hl (2 * (i : Int) + 1)
    have e : S (l.take (2 * (i + 1))) = S (l.take (2 * i)) + rd l (2 * (i : Int)) * 256 + rd l (2 * (i : Int) + 1) := by
      have e1 := take_rd l (2 * i) (by omega); have e2 := take_rd l (2 * i + 1) (by omega)
      rw [show 2 * (i + 1) = 2 * i + 1 + 1 from by omega, e2, S_snoc, e1, S_snoc, List.length_append, List.length_take, List.length_singleton, if_pos (by omega), if_neg (by omega)]
      rw [show ((2 * i : Nat) : Int) = 2 * (i : Int) from by omega, show ((2 * i + 1 : Nat) : Int) = 2 * (i : Int) + 1 from by omega]
    have h0 := S_nonneg (bytes_take hl (2 * i)); have h1 := S_le (bytes_take hl (2 * i))
    have hlen : (l.take (2 * i)).length ≤ 140737488355328 := by rw [List.length_take]; omega
    rw [if_pos (by omega), wrap_i64 (x := 2 * (i : Int)) (by omega) (by omega), wrap_i64 (x := 2 * (i : Int) + 1) (by omega) (by omega), if_pos (by omega), if_pos (by omega), if_pos (by omega), if_pos (by omega)]
    rw [wrap_u64 (x := rd l (2 * (i : Int))) (by omega) (by omega), wrap_u64 (x := rd l (2 * (i : Int) + 1)) (by omega) (by omega), wrap_u64 (x := _ * 256) (by omega) (by omega), or_byte64 ha.1 ha.2 hb.1 hb.2, wrap_u64 (by omega) (by omega), wrap_i64 (by omega) (by omega)]
    rw [← h2, e]
    congr 1
    omega
theorem sum_tells {l : List Int} (hl : Bytes l) (hn : l.length ≤ 140737488355328) (k : Nat) (hk : l.length + 6 ≤ k) : sums_Sum.f k l = some (oc (S l)) := by
  have h := sum_loop hl hn (k - l.length / 2) (by omega) (l.length / 2) 0 (by omega)
  unfold sums_Sum.f
  rw [show k - l.length / 2 + l.length / 2 = k from by omega] at h
  rw [wrap_i64 (by omega) (by omega)]
  simpa [S] using h
theorem field_tells {l : List Int} (hl : Bytes l) (hn : l.length ≤ 140737488355328) (k : Nat) (hk : l.length + 6 ≤ k) : sums_Field.f k l = some (65535 - oc (S l)) := by
  unfold sums_Field.f
  rw [sum_tells hl hn k hk]
  simp only [Option.bind_some]
  rw [not16 (oc_range _).1 (oc_range _).2]
theorem add_tells {a b : Int} (ha : 0 ≤ a ∧ a ≤ 65535) (hb : 0 ≤ b ∧ b ≤ 65535) (k : Nat) (hk : 5 ≤ k) : sums_Add.f k a b = some (oc (a + b)) := by
  unfold sums_Add.f
  rw [wrap_u64 (x := a) (by omega) (by omega), wrap_u64 (x := b) (by omega) (by omega), wrap_u64 (by omega) (by omega), fold_tells (by omega) (by omega) k hk]
  rfl
theorem sub_tells {a b : Int} (ha : 0 ≤ a ∧ a ≤ 65535) (hb : 0 ≤ b ∧ b ≤ 65535) (k : Nat) (hk : 5 ≤ k) : sums_Sub.f k a b = some (oc (a + (65535 - b))) := by
  unfold sums_Sub.f
  rw [not16 hb.1 hb.2, add_tells ha (by omega) k hk]
  rfl
theorem tmod_pos {a : Int} (ha : 0 ≤ a) : Int.tmod a 65535 = a % 65535 := Int.tmod_eq_emod_of_nonneg ha
theorem same_tells {a b : Int} (ha : 0 ≤ a) (hb : 0 ≤ b) : sums_Same.f a b = some (decide (a % 65535 = b % 65535)) := by
  unfold sums_Same.f
  rw [tmod_pos ha, tmod_pos hb]
  by_cases h : a = b
  · rw [if_pos h, h]; simp
  · rw [if_neg h]; rfl
theorem update_tells {f o n : Int} (hf : 0 ≤ f ∧ f ≤ 65535) (ho : 0 ≤ o ∧ o ≤ 65535) (hn : 0 ≤ n ∧ n ≤ 65535) (k : Nat) (hk : 5 ≤ k) : sums_Update.f k f o n = some (65535 - oc (oc (65535 - f + (65535 - o)) + n)) := by
  unfold sums_Update.f
  rw [not16 hf.1 hf.2, not16 ho.1 ho.2, add_tells (by omega) (by omega) k hk]
  simp only [Option.bind_some]
  rw [add_tells (oc_range _) hn k hk]
  simp only [Option.bind_some]
  rw [not16 (oc_range _).1 (oc_range _).2]
theorem diff_tells {a b : List Int} (ha : Bytes a) (hb : Bytes b) (na : a.length ≤ 140737488355328) (nb : b.length ≤ 140737488355328) (k : Nat) (ka : a.length + 8 ≤ k) (kb : b.length + 8 ≤ k) :
    sums_Diff.f k a b = some (if a.length = b.length ∧ a.length % 2 = 0 then (oc (oc (S b) + (65535 - oc (S a))), 0) else (0, 2)) := by
  obtain ⟨k, rfl⟩ : ∃ m, k = m + 1 := ⟨k - 1, by omega⟩
  have j : ∀ c : Bool, sums_Diff.j0 (k + 1) a b c = if c = true then some (0, 2) else some (oc (oc (S b) + (65535 - oc (S a))), 0) := by
    intro c
    simp only [sums_Diff.j0]
    by_cases hc : c = true
    · rw [if_pos hc, if_pos hc]
    · rw [if_neg hc, if_neg hc, sum_tells hb nb k (by omega), sum_tells ha na k (by omega)]
      simp only [Option.bind_some]
      rw [sub_tells (oc_range _) (oc_range _) k (by omega)]
      rfl
  unfold sums_Diff.f
  by_cases h : (a.length : Int) = (b.length : Int)
  · rw [if_pos h, j]
    by_cases e : a.length % 2 = 0
    · rw [if_neg (by simp only [beq_iff_eq]; omega), if_pos ⟨by omega, e⟩]
    · rw [if_pos (by simp only [beq_iff_eq]; omega), if_neg (fun h => e h.2)]
  · rw [if_neg h, j, if_pos rfl, if_neg (fun h' => h (by omega))]

/-! The references -/
end Go.Proofs.Ytlgiibchnnaceaa.M
