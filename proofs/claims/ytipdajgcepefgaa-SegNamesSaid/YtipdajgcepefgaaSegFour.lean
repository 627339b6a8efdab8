/- What 'number' and 'value' of layer 09 tell for four bytes. -/
import Derived.Test.YtipdajgcepefgaaPx0
import Derived.Test.YtipdajgcepefgaaPx13
import Derived.Test.YtipdajgcepefgaaPx7
import Derived.Test.YtipdajgcepefgaaBase
namespace Go.Proofs.Ytipdajgcepefgaa.M
open Go Go.RowKit Go.Proofs.YtipdajgcepefgaaW.PrintWords Go.Proofs.Ytipdajgcepefgaa.P

theorem number4_09 {v : Int} (h0 : 0 ≤ v) (h1 : v < 9223372036854775808) (k : Nat) (hk : 5 ≤ k) : sallyportref09_number.f k v 4 = some [v / 256 / 256 / 256 % 256, v / 256 / 256 % 256, v / 256 % 256, v % 256] := by
  obtain ⟨m, rfl⟩ : ∃ m, k = m + 1 + 1 + 1 + 1 + 1 := ⟨k - 5, by omega⟩
  unfold sallyportref09_number.f
  have t : ∀ x : Int, 0 ≤ x → Int.tmod x 256 = x % 256 := fun x h => Int.tmod_eq_emod_of_nonneg h
  have s : ∀ x : Int, 0 ≤ x → Int.tdiv x 256 = x / 256 := fun x h => Int.tdiv_eq_ediv_of_nonneg h
  have t0 := t v h0; have t1 := t (v / 256) (by omega); have t2 := t (v / 256 / 256) (by omega); have t3 := t (v / 256 / 256 / 256) (by omega)
  have s0 := s v h0; have s1 := s (v / 256) (by omega); have s2 := s (v / 256 / 256) (by omega); have s3 := s (v / 256 / 256 / 256) (by omega)
  have w0 : wrap64 (v / 256) = v / 256 := wrap_i64 (by omega) (by omega)
  have w1 : wrap64 (v / 256 / 256) = v / 256 / 256 := wrap_i64 (by omega) (by omega)
  have w2 : wrap64 (v / 256 / 256 / 256) = v / 256 / 256 / 256 := wrap_i64 (by omega) (by omega)
  have e3 : wrap64 (4 - 1) = 3 := by unfold wrap64; omega
  have e2 : wrap64 (3 - 1) = 2 := by unfold wrap64; omega
  have e1 : wrap64 (2 - 1) = 1 := by unfold wrap64; omega
  have e0 : wrap64 (1 - 1) = 0 := by unfold wrap64; omega
  have em : wrap64 (0 - 1) = -1 := by unfold wrap64; omega
  clear t s
  rw [if_pos (by omega), if_pos (by decide), e3]
  simp only [sallyportref09_number.l0, e2, e1, e0, em, t0, s0, w0, t1, s1, w1, t2, s2, w2, t3]
  simp
theorem value4_09 {l : List Int} (hl : Bytes l) (a : Nat) (ha : a + 4 ≤ l.length) (hn : l.length ≤ 140737488355328) (k : Nat) (hk : 5 ≤ k) : sallyportref09_value.f k l (a : Int) 4 = some (((rd l (a : Int) * 256 + rd l ((a : Int) + 1)) * 256 + rd l ((a : Int) + 2)) * 256 + rd l ((a : Int) + 3)) := by
  obtain ⟨m, rfl⟩ : ∃ m, k = m + 1 + 1 + 1 + 1 + 1 := ⟨k - 5, by omega⟩
  unfold sallyportref09_value.f
  have h1 := rd_byte hl (a : Int); have h2 := rd_byte hl ((a : Int) + 1); have h3 := rd_byte hl ((a : Int) + 2); have h4 := rd_byte hl ((a : Int) + 3)
  have e0 : wrap64 ((a : Int) + 0) = a := by rw [Int.add_zero]; exact wrap_i64 (by omega) (by omega)
  have e1 : wrap64 ((a : Int) + 1) = (a : Int) + 1 := wrap_i64 (by omega) (by omega)
  have e2 : wrap64 ((a : Int) + 2) = (a : Int) + 2 := wrap_i64 (by omega) (by omega)
  have e3 : wrap64 ((a : Int) + 3) = (a : Int) + 3 := wrap_i64 (by omega) (by omega)
  generalize g1 : rd l (a : Int) = x1 at *
  generalize g2 : rd l ((a : Int) + 1) = x2 at *
  generalize g3 : rd l ((a : Int) + 2) = x3 at *
  generalize g4 : rd l ((a : Int) + 3) = x4 at *
  have w1 : wrap64 x1 = x1 := wrap_i64 (by omega) (by omega)
  have w2 : wrap64 x2 = x2 := wrap_i64 (by omega) (by omega)
  have w3 : wrap64 x3 = x3 := wrap_i64 (by omega) (by omega)
  have w4 : wrap64 x4 = x4 := wrap_i64 (by omega) (by omega)
  have c0 : wrap64 (0 * 256) = 0 := by unfold wrap64; omega
  have c1 : wrap64 (0 + 1) = 1 := by unfold wrap64; omega
  have c2 : wrap64 (1 + 1) = 2 := by unfold wrap64; omega
  have c3 : wrap64 (2 + 1) = 3 := by unfold wrap64; omega
  have c4 : wrap64 (3 + 1) = 4 := by unfold wrap64; omega
  have z1 : wrap64 (0 + x1) = x1 := by rw [Int.zero_add]; exact w1
  have y2 : wrap64 (x1 * 256) = x1 * 256 := wrap_i64 (by omega) (by omega)
  have z2 : wrap64 (x1 * 256 + x2) = x1 * 256 + x2 := wrap_i64 (by omega) (by omega)
  have y3 : wrap64 ((x1 * 256 + x2) * 256) = (x1 * 256 + x2) * 256 := wrap_i64 (by omega) (by omega)
  have z3 : wrap64 ((x1 * 256 + x2) * 256 + x3) = (x1 * 256 + x2) * 256 + x3 := wrap_i64 (by omega) (by omega)
  have y4 : wrap64 (((x1 * 256 + x2) * 256 + x3) * 256) = ((x1 * 256 + x2) * 256 + x3) * 256 := wrap_i64 (by omega) (by omega)
  have z4 : wrap64 (((x1 * 256 + x2) * 256 + x3) * 256 + x4) = ((x1 * 256 + x2) * 256 + x3) * 256 + x4 := wrap_i64 (by omega) (by omega)
  simp only [sallyportref09_value.l0]
  rw [if_pos (by omega), e0, if_pos (by omega), if_pos (by omega), g1, w1, c0, z1, c1, if_pos (by omega), e1, if_pos (by omega), if_pos (by omega), g2, w2, y2, z2, c2, if_pos (by omega), e2, if_pos (by omega), if_pos (by omega), g3, w3, y3, z3, c3, if_pos (by omega), e3, if_pos (by omega), if_pos (by omega), g4, w4, y4, z4, c4, if_neg (by omega)]
end Go.Proofs.Ytipdajgcepefgaa.M
