/- The closed statement on sums: the numbers and examples. -/
import Derived.Test.YtlgiibchnnaceaaPx0
import Derived.Test.YtlgiibchnnaceaaPx11
import Derived.Test.YtlgiibchnnaceaaPx3
import Derived.Test.YtlgiibchnnaceaaPx4
import Derived.Test.YtlgiibchnnaceaaPx5
import Derived.Test.YtlgiibchnnaceaaPx6
import Derived.Test.YtlgiibchnnaceaaPx7
import Derived.Test.YtlgiibchnnaceaaSumsAwake
namespace Go.Proofs.Ytlgiibchnnaceaa.M
open Go Go.RowKit Go.Proofs.YtlgiibchnnaceaaW.PrintWords Go.Proofs.Ytlgiibchnnaceaa.P
set_option linter.unusedVariables false

theorem S_ones : ∀ m : Nat, S (List.replicate (2 * m) 255) = (m : Int) * 65535
  | 0 => by simp [S]
  | m + 1 => by
    rw [show 2 * (m + 1) = 2 * m + 1 + 1 by omega, List.replicate_succ, List.replicate_succ]
    simp only [S]
    rw [S_ones m]
    omega
theorem ones_bytes (n : Nat) : Bytes (List.replicate n 255) := by
  intro x hx
  have := List.eq_of_mem_replicate hx
  omega
theorem sum_even (k : Nat) (hk : 6000 ≤ k) : sums_Sum.f k (List.replicate 5000 255) = some 65535 := by
  have h := sum_tells (ones_bytes 5000) (by rw [List.length_replicate]; omega) k (by rw [List.length_replicate]; omega)
  rw [show (5000 : Nat) = 2 * 2500 from rfl] at h ⊢
  rw [S_ones 2500] at h
  exact h
theorem sum_odd (k : Nat) (hk : 6000 ≤ k) : sums_Sum.f k (List.replicate 5001 255) = some 65280 := by
  have h := sum_tells (ones_bytes 5001) (by rw [List.length_replicate]; omega) k (by rw [List.length_replicate]; omega)
  rw [show (5001 : Nat) = 2 * 2500 + 1 from rfl] at h ⊢
  rw [List.replicate_succ', S_snoc, S_ones 2500, List.length_replicate, if_pos (by omega)] at h
  rw [List.replicate_succ']
  exact h
theorem sums_end (k : Nat) (hk : 7000 ≤ k) (i : Int) (hi : ¬ i < 5001) : sallyportlaw01_SumsNames.l0 (k + 1) (List.replicate 5001 255) i = some true := by
  have lit : ∀ l : List Int, (∀ y ∈ l, 0 ≤ y ∧ y ≤ 255) → Bytes l := fun l h => h
  have B1 : Bytes [10] := lit _ (by decide)
  have B2 : Bytes [11] := lit _ (by decide)
  have B3 : Bytes [0, 1] := lit _ (by decide)
  have B4 : Bytes [0, 1, 2, 3] := lit _ (by decide)
  have B5 : Bytes [1, 2] := lit _ (by decide)
  have B6 : Bytes [255, 255] := lit _ (by decide)
  have B7 : Bytes [255, 255, 0, 1] := lit _ (by decide)
  have B8 : Bytes [255, 255, 255, 255, 0, 1] := lit _ (by decide)
  have d1 : sums_Diff.f k [10] [11] = some (0, 2) := by rw [diff_tells B1 B2 (by simp) (by simp) k (by simp; omega) (by simp; omega)]; rfl
  have d2 : sums_Diff.f k [0, 1] [0, 1, 2, 3] = some (0, 2) := by rw [diff_tells B3 B4 (by simp) (by simp) k (by simp; omega) (by simp; omega)]; rfl
  have d3 : sums_Diff.f k [] [] = some (65535, 0) := by rw [diff_tells bytes_nil bytes_nil (by simp) (by simp) k (by simp; omega) (by simp; omega)]; rfl
  have s0 : sums_Sum.f k [] = some 0 := by rw [sum_tells bytes_nil (by simp) k (by simp; omega)]; rfl
  have s1 : sums_Sum.f k [1, 2] = some 258 := by rw [sum_tells B5 (by simp) k (by simp; omega)]; rfl
  have s2 : sums_Sum.f k [255, 255] = some 65535 := by rw [sum_tells B6 (by simp) k (by simp; omega)]; rfl
  have s3 : sums_Sum.f k [255, 255, 0, 1] = some 1 := by rw [sum_tells B7 (by simp) k (by simp; omega)]; rfl
  have s4 : sums_Sum.f k [255, 255, 255, 255, 0, 1] = some 1 := by rw [sum_tells B8 (by simp) k (by simp; omega)]; rfl
  have f0 : sums_Field.f k [] = some 65535 := by rw [field_tells bytes_nil (by simp) k (by simp; omega)]; rfl
  have f1 : sums_Field.f k [255, 255] = some 0 := by rw [field_tells B6 (by simp) k (by simp; omega)]; rfl
  have a1 : sums_Add.f k 65535 65535 = some 65535 := by rw [add_tells (by omega) (by omega) k (by omega)]; rfl
  have u1 : sums_Sub.f k 5 5 = some 65535 := by rw [sub_tells (by omega) (by omega) k (by omega)]; rfl
  have m1 : sums_Same.f 1 2 = some false := by rw [same_tells (by omega) (by omega)]; rfl
  have p1 : sums_Update.f k 0 0 0 = some 0 := by rw [update_tells (by omega) (by omega) (by omega) k (by omega)]; rfl
  have w1 := awake_sums k (by omega)
  have e1 := sum_even k (by omega)
  have e2 := sum_odd k (by omega)
  have tk : (List.replicate 5001 (255 : Int)).take 5000 = List.replicate 5000 255 := by rw [List.take_replicate]; rfl
  have ln : (5000 : Int) ≤ ((List.replicate 5001 (255 : Int)).length : Int) := by rw [List.length_replicate]; omega
  simp only [sallyportlaw01_SumsNames.l0]
  rw [if_neg (by rw [List.length_replicate]; exact hi), d1]
  simp only [Option.bind_some]
  rw [d2]
  simp only [Option.bind_some]
  rw [d3]
  simp only [Option.bind_some]
  rw [s0]
  simp only [Option.bind_some]
  rw [if_pos trivial, s1]
  simp only [Option.bind_some]
  rw [if_pos trivial, s2]
  simp only [Option.bind_some]
  rw [if_pos trivial, s3]
  simp only [Option.bind_some]
  rw [if_pos trivial, s4]
  simp only [Option.bind_some]
  rw [if_pos trivial, f0]
  simp only [Option.bind_some]
  rw [if_pos trivial, f1]
  simp only [Option.bind_some]
  rw [a1]
  simp only [Option.bind_some]
  rw [if_pos trivial, u1]
  simp only [Option.bind_some]
  rw [if_pos trivial, m1]
  simp only [Option.bind_some]
  rw [if_neg (by simp), p1]
  simp only [Option.bind_some]
  rw [w1]
  simp only [Option.bind_some, if_true]
  rw [if_pos ln, tk, e1]
  simp only [Option.bind_some, if_true]
  rw [e2]
  rfl
theorem sums_loop : ∀ (d i : Nat) (X : List Int), i + d = 5001 → X.length = 5001 → X.take i = List.replicate i 255 → ∀ k, 7001 + d ≤ k → sallyportlaw01_SumsNames.l0 k X (i : Int) = some true := by
  intro d
  induction d with
  | zero =>
    intro i X hi hX ht k hk
    obtain ⟨m, rfl⟩ : ∃ m, k = m + 1 := ⟨k - 1, by omega⟩
    obtain rfl : i = 5001 := by omega
    rw [List.take_of_length_le (by omega)] at ht
    rw [ht]
    exact sums_end m (by omega) _ (by omega)
  | succ d ih =>
    intro i X hi hX ht k hk
    obtain ⟨m, rfl⟩ : ∃ m, k = m + 1 := ⟨k - 1, by omega⟩
    simp only [sallyportlaw01_SumsNames.l0]
    rw [if_pos (by omega), if_pos (by omega), wrap_i64 (by omega) (by omega), Int.toNat_natCast]
    refine ih (i + 1) _ (by omega) (by rw [List.length_set]; exact hX) ?_ m (by omega)
    rw [take_rd _ i (by rw [List.length_set]; omega), rd_of _ i (by rw [List.length_set]; omega), List.getElem_set_self, List.take_set_of_le (Nat.le_refl i), ht, List.replicate_succ']
theorem sumsNames : sallyportlaw01_SumsNames.Pure := by
  refine ⟨20000, ?_⟩
  unfold sallyportlaw01_SumsNames.f
  rw [if_pos (by decide)]
  exact sums_loop 5001 0 (List.replicate 5001 0) (by omega) (by rw [List.length_replicate]) (by simp) 20000 (by omega)
end Go.Proofs.Ytlgiibchnnaceaa.M
