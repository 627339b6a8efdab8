/- What the functions over headers' bytes of layer 06 tell: numbers of two bytes and back. -/
import Derived.Test.YtlgiibchnnaceaaPx0
import Derived.Test.YtlgiibchnnaceaaPx13
import Derived.Test.YtlgiibchnnaceaaPx14
import Derived.Test.YtlgiibchnnaceaaPx16
import Derived.Test.YtlgiibchnnaceaaPx18
import Derived.Test.YtlgiibchnnaceaaBase
namespace Go.Proofs.Ytlgiibchnnaceaa.M
open Go Go.RowKit Go.Proofs.YtlgiibchnnaceaaW.PrintWords Go.Proofs.Ytlgiibchnnaceaa.P

theorem number2_06 {v : Int} (h0 : 0 ≤ v) (h1 : v < 9223372036854775808) (k : Nat) (hk : 3 ≤ k) : sallyportref06_number.f k v 2 = some [v / 256 % 256, v % 256] := by
  obtain ⟨m, rfl⟩ : ∃ m, k = m + 1 + 1 + 1 := ⟨k - 3, by omega⟩
  unfold sallyportref06_number.f
  have t0 : Int.tmod v 256 = v % 256 := Int.tmod_eq_emod_of_nonneg h0
  have t1 : Int.tdiv v 256 = v / 256 := Int.tdiv_eq_ediv_of_nonneg h0
  have t2 : Int.tmod (v / 256) 256 = v / 256 % 256 := Int.tmod_eq_emod_of_nonneg (by omega)
  have t3 : Int.tdiv (v / 256) 256 = v / 256 / 256 := Int.tdiv_eq_ediv_of_nonneg (by omega)
  have w1 : wrap64 (v / 256) = v / 256 := wrap_i64 (by omega) (by omega)
  simp only [sallyportref06_number.l0, t0, t1, w1, t2, t3]
  rw [if_pos (by omega), if_pos (by decide)]
  have e1 : wrap64 (2 - 1) = 1 := by unfold wrap64; omega
  have e0 : wrap64 (1 - 1) = 0 := by unfold wrap64; omega
  have e2 : wrap64 (0 - 1) = -1 := by unfold wrap64; omega
  simp only [e1, e0, e2]
  simp
theorem value2_06 {l : List Int} (hl : Bytes l) (a : Nat) (ha : a + 2 ≤ l.length) (hn : l.length ≤ 140737488355328) (k : Nat) (hk : 3 ≤ k) : sallyportref06_value.f k l (a : Int) 2 = some (rd l (a : Int) * 256 + rd l ((a : Int) + 1)) := by
  obtain ⟨m, rfl⟩ : ∃ m, k = m + 1 + 1 + 1 := ⟨k - 3, by omega⟩
  unfold sallyportref06_value.f
  have h1 := rd_byte hl (a : Int); have h2 := rd_byte hl ((a : Int) + 1)
  have e0 : wrap64 ((a : Int) + 0) = a := by rw [Int.add_zero]; exact wrap_i64 (by omega) (by omega)
  have e1 : wrap64 ((a : Int) + 1) = (a : Int) + 1 := wrap_i64 (by omega) (by omega)
  have w1 : wrap64 (rd l (a : Int)) = rd l (a : Int) := wrap_i64 (by omega) (by omega)
  have w2 : wrap64 (rd l ((a : Int) + 1)) = rd l ((a : Int) + 1) := wrap_i64 (by omega) (by omega)
  have c0 : wrap64 (0 * 256) = 0 := by unfold wrap64; omega
  have c1 : wrap64 (0 + 1) = 1 := by unfold wrap64; omega
  have c2 : wrap64 (1 + 1) = 2 := by unfold wrap64; omega
  have z1 : wrap64 (0 + rd l (a : Int)) = rd l (a : Int) := by rw [Int.zero_add]; exact w1
  have z2 : wrap64 (rd l (a : Int) * 256) = rd l (a : Int) * 256 := wrap_i64 (by omega) (by omega)
  have z3 : wrap64 (rd l (a : Int) * 256 + rd l ((a : Int) + 1)) = rd l (a : Int) * 256 + rd l ((a : Int) + 1) := wrap_i64 (by omega) (by omega)
  simp only [sallyportref06_value.l0]
  rw [if_pos (by omega), e0, if_pos (by omega), if_pos (by omega), w1, c0, z1, c1, if_pos (by omega), e1, if_pos (by omega), if_pos (by omega), w2, z2, z3, c2, if_neg (by omega)]
theorem word_tag {l : List Int} (hl : Bytes l) (h2 : 2 ≤ l.length) : tag_word.f l = some (rd l 0 * 256 + rd l 1) := by
  have a0 := rd_byte hl 0; have a1 := rd_byte hl 1
  unfold tag_word.f
  rw [if_pos (by omega), if_pos (by omega), wrap_u16 (x := rd l 0) (by omega) (by omega), wrap_u16 (x := rd l 1) (by omega) (by omega), wrap_u16 (by omega) (by omega), or_byte16 a0.1 a0.2 a1.1 a1.2]
theorem join_06 (a b : List Int) (h : a.length + b.length < 140737488355328) : sallyportlaw06_join.f a b = some (a ++ b) := by
  unfold sallyportlaw06_join.f
  simp only [List.nil_append, List.length_nil, Nat.zero_add, Option.bind_some]
  rw [if_pos (by omega), if_pos h]
end Go.Proofs.Ytlgiibchnnaceaa.M
