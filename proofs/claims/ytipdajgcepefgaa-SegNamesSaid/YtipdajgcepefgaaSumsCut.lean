/- What the functions over sums tell, each for enough rounds: the printed functions' own values. -/
import Derived.Test.YtipdajgcepefgaaPx0
import Derived.Test.YtipdajgcepefgaaPx3
import Derived.Test.YtipdajgcepefgaaPx4
import Derived.Test.YtipdajgcepefgaaPx6
import Derived.Test.YtipdajgcepefgaaBase
namespace Go.Proofs.Ytipdajgcepefgaa.M
open Go Go.RowKit Go.Proofs.YtipdajgcepefgaaW.PrintWords Go.Proofs.Ytipdajgcepefgaa.P

/-! fold -/
theorem fold0 (k : Nat) {n : Int} (h0 : 0 ≤ n) (h1 : n ≤ 65535) : sums_fold.l0 (k + 1) n = some (oc n) := by
  simp only [sums_fold.l0]
  rw [if_neg (by omega), wrap_u16 h0 h1, oc_small h0 h1]
theorem fold_step (k : Nat) {n : Int} (h0 : 65535 < n) (h1 : n < 18446744073709551616) : sums_fold.l0 (k + 1) n = sums_fold.l0 k (n / 65536 + n % 65536) := by
  simp only [sums_fold.l0]
  rw [if_pos h0, and_low64 (by omega) h1, wrap_u64 (by omega) (by omega)]
theorem fold_more {B C : Int} {j : Nat} (hC : C ≤ 18446744073709551616) (hB : ∀ (k : Nat) (n : Int), 0 ≤ n → n < B → sums_fold.l0 (k + j) n = some (oc n)) (hBC : ∀ n : Int, 65535 < n → n < C → n / 65536 + n % 65536 < B) :
    ∀ (k : Nat) (n : Int), 0 ≤ n → n < C → sums_fold.l0 (k + j + 1) n = some (oc n) := by
  intro k n h0 h1
  by_cases h : n ≤ 65535
  · exact fold0 _ h0 h
  · rw [fold_step _ (by omega) (by omega), hB k _ (by omega) (hBC n (by omega) h1), oc_fold (by omega)]
theorem fold_tells {n : Int} (h0 : 0 ≤ n) (h1 : n < 4611686018427387904) (k : Nat) (hk : 5 ≤ k) : sums_fold.f k n = some (oc n) := by
  obtain ⟨m, rfl⟩ : ∃ m, k = m + 5 := ⟨k - 5, by omega⟩
  unfold sums_fold.f
  have l0 : ∀ (k : Nat) (n : Int), 0 ≤ n → n < 65536 → sums_fold.l0 (k + 1) n = some (oc n) := fun k n a b => fold0 k a (by omega)
  have l1 := fold_more (j := 1) (B := 65536) (C := 131071) (by omega) l0 (fun n a b => by omega)
  have l2 := fold_more (j := 2) (B := 131071) (C := 4294967296) (by omega) l1 (fun n a b => by omega)
  have l3 := fold_more (j := 3) (B := 4294967296) (C := 140737488355328) (by omega) l2 (fun n a b => by omega)
  have l4 := fold_more (j := 4) (B := 140737488355328) (C := 4611686018427387904) (by omega) l3 (fun n a b => by omega)
  exact l4 m n h0 h1

/-! Sum -/
theorem sum_loop {l : List Int} (hl : Bytes l) (hn : l.length ≤ 140737488355328) (k : Nat) (hk : 6 ≤ k) : ∀ (d i : Nat), i + d = l.length / 2 →
    sums_Sum.l0 (k + d) l (S (l.take (2 * i))) ((l.length : Int) / 2) (i : Int) = some (oc (S l)) := by
  have hS : 0 ≤ S l ∧ S l < 4611686018427387904 := by have := S_nonneg hl; have := S_le hl; omega
  intro d
  induction d with
  | zero =>
    intro i hi
    obtain ⟨k, rfl⟩ : ∃ m, k = m + 1 := ⟨k - 1, by omega⟩
    simp only [sums_Sum.l0]
    rw [if_neg (by omega)]
    by_cases ho : (l.length : Int) % 2 = 1
    · rw [if_pos ho, wrap_i64 (by omega) (by omega), if_pos (by omega), if_pos (by omega)]
      have hb := rd_byte hl ((l.length : Int) - 1)
      have e : S l = S (l.take (2 * i)) + rd l ((l.length : Int) - 1) * 256 := by
        have e1 := take_rd l (2 * i) (by omega)
        have e2 : l.take (2 * i + 1) = l := List.take_of_length_le (by omega)
        have e3 : (((2 * i : Nat)) : Int) = (l.length : Int) - 1 := by omega
        rw [e2, e3] at e1
        have e4 := S_snoc (l.take (2 * i)) (rd l ((l.length : Int) - 1))
        rw [← e1, if_pos (by rw [List.length_take]; omega)] at e4
        exact e4
      have h0 := S_nonneg (bytes_take hl (2 * i))
      rw [wrap_u64 (x := rd l _) (by omega) (by omega), wrap_u64 (x := _ * 256) (by omega) (by omega), wrap_u64 (by omega) (by omega), ← e, fold_tells hS.1 hS.2 k (by omega)]
      rfl
    · rw [if_neg ho]
      have e : l.take (2 * i) = l := List.take_of_length_le (by omega)
      rw [e, fold_tells hS.1 hS.2 k (by omega)]
      rfl
  | succ d ih =>
    intro i hi
    have h2 := ih (i + 1) (by omega)
    rw [← Nat.add_assoc]
    simp only [sums_Sum.l0]
    have ha := rd_byte hl (2 * (i : Int)); have hb := rd_byte hl (2 * (i : Int) + 1)
    have e : S (l.take (2 * (i + 1))) = S (l.take (2 * i)) + rd l (2 * (i : Int)) * 256 + rd l (2 * (i : Int) + 1) := by
      have e1 := take_rd l (2 * i) (by omega); have e2 := take_rd l (2 * i + 1) (by omega)
      rw [show 2 * (i + 1) = 2 * i + 1 + 1 from by omega, e2, S_snoc, e1, S_snoc, List.length_append, List.length_take, List.length_singleton, if_pos (by omega), if_neg (by omega)]
      rw [show ((2 * i : Nat) : Int) = 2 * (i : Int) from by omega, show ((2 * i + 1 : Nat) : Int) = 2 * (i : Int) + 1 from by omega]
    have h0 := S_nonneg (bytes_take hl (2 * i)); have h1 := S_le (bytes_take hl (2 * i))
    have hlen : (l.take (2 * i)).length ≤ 140737488355328 := by rw [List.length_take]; omega
    rw [if_pos (by omega), wrap_i64 (x := 2 * (i : Int)) (by omega) (by omega), wrap_i64 (x := 2 * (i : Int) + 1) (by omega) (by omega), if_pos (by omega), if_pos (by omega), if_pos (by omega), if_pos (by omega)]
    rw [wrap_u64 (x := rd l (2 * (i : Int))) (by omega) (by omega), wrap_u64 (x := rd l (2 * (i : Int) + 1)) (by omega) (by omega), wrap_u64 (x := _ * 256) (by omega) (by omega), or_byte64 ha.1 ha.2 hb.1 hb.2, wrap_u64 (by omega) (by omega), wrap_i64 (by omega) (by omega)]
    rw [← h2, e]
    congr 1
    omega
theorem sum_tells {l : List Int} (hl : Bytes l) (hn : l.length ≤ 140737488355328) (k : Nat) (hk : l.length + 6 ≤ k) : sums_Sum.f k l = some (oc (S l)) := by
  have h := sum_loop hl hn (k - l.length / 2) (by omega) (l.length / 2) 0 (by omega)
  unfold sums_Sum.f
  rw [show k - l.length / 2 + l.length / 2 = k from by omega] at h
  rw [wrap_i64 (by omega) (by omega)]
  simpa [S] using h
theorem add_tells {a b : Int} (ha : 0 ≤ a ∧ a ≤ 65535) (hb : 0 ≤ b ∧ b ≤ 65535) (k : Nat) (hk : 5 ≤ k) : sums_Add.f k a b = some (oc (a + b)) := by
  unfold sums_Add.f
  rw [wrap_u64 (x := a) (by omega) (by omega), wrap_u64 (x := b) (by omega) (by omega), wrap_u64 (by omega) (by omega), fold_tells (by omega) (by omega) k hk]
  rfl
theorem refsum_loop {l : List Int} (hl : Bytes l) (hn : l.length ≤ 140737488355328) (k : Nat) (hk : 1 ≤ k) : ∀ (d i : Nat), i + d = l.length →
    sallyportref01_Sum.l0 (k + d) l (oc (S (l.take i))) (i : Int) = some (oc (S l)) := by
  intro d
  induction d with
  | zero =>
    intro i hi
    obtain ⟨k, rfl⟩ : ∃ m, k = m + 1 := ⟨k - 1, by omega⟩
    simp only [sallyportref01_Sum.l0]
    rw [if_neg (by omega), List.take_of_length_le (by omega), wrap_u16 (oc_range _).1 (oc_range _).2]
  | succ d ih =>
    intro i hi
    have h2 := ih (i + 1) (by omega)
    rw [← Nat.add_assoc]
    simp only [sallyportref01_Sum.l0]
    have ha := rd_byte hl (i : Int)
    have e1 := take_rd l i (by omega)
    have h0 := S_nonneg (bytes_take hl i)
    have hr := oc_range (S (l.take i))
    have e3 : (Int.tmod (i : Int) 2) = (i : Int) % 2 := Int.tmod_eq_emod_of_nonneg (by omega)
    have hlt : (l.take i).length = i := by rw [List.length_take]; omega
    rw [if_pos (by omega), e3]
    have go : ∀ x : Int, 0 ≤ x → x ≤ 65280 → S (l.take (i + 1)) = S (l.take i) + x →
        (if wrap64 (oc (S (l.take i)) + wrap64 x) > 65535 then sallyportref01_Sum.l0 (k + d) l (wrap64 (wrap64 (oc (S (l.take i)) + wrap64 x) - 65535)) (wrap64 ((i : Int) + 1)) else sallyportref01_Sum.l0 (k + d) l (wrap64 (oc (S (l.take i)) + wrap64 x)) (wrap64 ((i : Int) + 1))) = some (oc (S l)) := by
      intro x x0 x1 e
      rw [wrap_i64 (x := x) (by omega) (by omega), wrap_i64 (x := oc (S (l.take i)) + x) (by omega) (by omega), wrap_i64 (x := (i : Int) + 1) (by omega) (by omega)]
      rw [e, ← oc_add h0 x0] at h2
      by_cases h : oc (S (l.take i)) + x > 65535
      · rw [if_pos h, wrap_i64 (by omega) (by omega)]
        rw [← oc_less (n := oc (S (l.take i)) + x) (by omega), oc_small (n := oc (S (l.take i)) + x - 65535) (by omega) (by omega)] at h2
        exact h2
      · rw [if_neg h]
        rw [oc_small (n := oc (S (l.take i)) + x) (by omega) (by omega)] at h2
        exact h2
    by_cases e2 : (i : Int) % 2 = 0
    · rw [if_pos e2, if_pos (by omega), wrap_i64 (x := rd l (i : Int)) (by omega) (by omega)]
      exact go _ (by omega) (by omega) (by rw [e1, S_snoc, if_pos (by omega)])
    · rw [if_neg e2, if_pos (by omega)]
      exact go _ (by omega) (by omega) (by rw [e1, S_snoc, if_neg (by omega)])
theorem refsum_tells {l : List Int} (hl : Bytes l) (hn : l.length ≤ 140737488355328) (k : Nat) (hk : l.length + 1 ≤ k) : sallyportref01_Sum.f k l = some (oc (S l)) := by
  have h := refsum_loop hl hn (k - l.length) (by omega) l.length 0 (by omega)
  rw [show k - l.length + l.length = k from by omega] at h
  unfold sallyportref01_Sum.f
  simpa [S, oc] using h
theorem reffield_tells {l : List Int} (hl : Bytes l) (hn : l.length ≤ 140737488355328) (k : Nat) (hk : l.length + 1 ≤ k) : sallyportref01_Field.f k l = some (65535 - oc (S l)) := by
  have := oc_range (S l)
  unfold sallyportref01_Field.f
  rw [refsum_tells hl hn k hk]
  simp only [Option.bind_some]
  rw [wrap_u16 (by omega) (by omega)]
end Go.Proofs.Ytipdajgcepefgaa.M
