/- What the functions over headers' bytes of layer 09 tell: numbers of two bytes and back. -/
import Derived.Test.YtipdajgcepefgaaPx0
import Derived.Test.YtipdajgcepefgaaPx11
import Derived.Test.YtipdajgcepefgaaPx7
import Derived.Test.YtipdajgcepefgaaPx9
import Derived.Test.YtipdajgcepefgaaBase
namespace Go.Proofs.Ytipdajgcepefgaa.M
open Go Go.RowKit Go.Proofs.YtipdajgcepefgaaW.PrintWords Go.Proofs.Ytipdajgcepefgaa.P

theorem number2_09 {v : Int} (h0 : 0 ≤ v) (h1 : v < 9223372036854775808) (k : Nat) (hk : 3 ≤ k) : sallyportref09_number.f k v 2 = some [v / 256 % 256, v % 256] := by
  obtain ⟨m, rfl⟩ : ∃ m, k = m + 1 + 1 + 1 := ⟨k - 3, by omega⟩
  unfold sallyportref09_number.f
  have t0 : Int.tmod v 256 = v % 256 := Int.tmod_eq_emod_of_nonneg h0
  have t1 : Int.tdiv v 256 = v / 256 := Int.tdiv_eq_ediv_of_nonneg h0
  have t2 : Int.tmod (v / 256) 256 = v / 256 % 256 := Int.tmod_eq_emod_of_nonneg (by omega)
  have t3 : Int.tdiv (v / 256) 256 = v / 256 / 256 := Int.tdiv_eq_ediv_of_nonneg (by omega)
  have w1 : wrap64 (v / 256) = v / 256 := wrap_i64 (by omega) (by omega)
  simp only [sallyportref09_number.l0, t0, t1, w1, t2, t3]
  rw [if_pos (by omega), if_pos (by decide)]
  have e1 : wrap64 (2 - 1) = 1 := by unfold wrap64; omega
  have e0 : wrap64 (1 - 1) = 0 := by unfold wrap64; omega
  have e2 : wrap64 (0 - 1) = -1 := by unfold wrap64; omega
  simp only [e1, e0, e2]
  simp
theorem word_seg {l : List Int} (hl : Bytes l) (h2 : 2 ≤ l.length) : seg_word.f l = some (rd l 0 * 256 + rd l 1) := by
  have a0 := rd_byte hl 0; have a1 := rd_byte hl 1
  unfold seg_word.f
  rw [if_pos (by omega), if_pos (by omega), wrap_u16 (x := rd l 0) (by omega) (by omega), wrap_u16 (x := rd l 1) (by omega) (by omega), wrap_u16 (by omega) (by omega), or_byte16 a0.1 a0.2 a1.1 a1.2]
theorem join_09 (a b : List Int) (h : a.length + b.length < 140737488355328) : sallyportlaw09_join.f a b = some (a ++ b) := by
  unfold sallyportlaw09_join.f
  simp only [List.nil_append, List.length_nil, Nat.zero_add, Option.bind_some]
  rw [if_pos (by omega), if_pos h]
end Go.Proofs.Ytipdajgcepefgaa.M
