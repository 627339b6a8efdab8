/- What 'value' of layer 09 tells: two bytes as a number. -/
import Derived.Test.YtipdajgcepefgaaPx0
import Derived.Test.YtipdajgcepefgaaPx13
import Derived.Test.YtipdajgcepefgaaBase
namespace Go.Proofs.Ytipdajgcepefgaa.M
open Go Go.RowKit Go.Proofs.YtipdajgcepefgaaW.PrintWords Go.Proofs.Ytipdajgcepefgaa.P

theorem value2_09 {l : List Int} (hl : Bytes l) (a : Nat) (ha : a + 2 ≤ l.length) (hn : l.length ≤ 140737488355328) (k : Nat) (hk : 3 ≤ k) : sallyportref09_value.f k l (a : Int) 2 = some (rd l (a : Int) * 256 + rd l ((a : Int) + 1)) := by
  obtain ⟨m, rfl⟩ : ∃ m, k = m + 1 + 1 + 1 := ⟨k - 3, by omega⟩
  unfold sallyportref09_value.f
  have h1 := rd_byte hl (a : Int); have h2 := rd_byte hl ((a : Int) + 1)
  have e0 : wrap64 ((a : Int) + 0) = a := by rw [Int.add_zero]; exact wrap_i64 (by omega) (by omega)
  have e1 : wrap64 ((a : Int) + 1) = (a : Int) + 1 := wrap_i64 (by omega) (by omega)
  have w1 : wrap64 (rd l (a : Int)) = rd l (a : Int) := wrap_i64 (by omega) (by omega)
  have w2 : wrap64 (rd l ((a : Int) + 1)) = rd l ((a : Int) + 1) := wrap_i64 (by omega) (by omega)
  have c0 : wrap64 (0 * 256) = 0 := by unfold wrap64; omega
  have c1 : wrap64 (0 + 1) = 1 := by unfold wrap64; omega
  have c2 : wrap64 (1 + 1) = 2 := by unfold wrap64; omega
  have z1 : wrap64 (0 + rd l (a : Int)) = rd l (a : Int) := by rw [Int.zero_add]; exact w1
  have z2 : wrap64 (rd l (a : Int) * 256) = rd l (a : Int) * 256 := wrap_i64 (by omega) (by omega)
  have z3 : wrap64 (rd l (a : Int) * 256 + rd l ((a : Int) + 1)) = rd l (a : Int) * 256 + rd l ((a : Int) + 1) := wrap_i64 (by omega) (by omega)
  simp only [sallyportref09_value.l0]
  rw [if_pos (by omega), e0, if_pos (by omega), if_pos (by omega), w1, c0, z1, c1, if_pos (by omega), e1, if_pos (by omega), if_pos (by omega), w2, z2, z3, c2, if_neg (by omega)]
end Go.Proofs.Ytipdajgcepefgaa.M
