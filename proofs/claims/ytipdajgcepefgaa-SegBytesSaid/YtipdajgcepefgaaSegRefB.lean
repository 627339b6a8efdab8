/- What the document's bytes of a seg are. -/
import Derived.Test.YtipdajgcepefgaaPx0
import Derived.Test.YtipdajgcepefgaaPx6
import Derived.Test.YtipdajgcepefgaaPx7
import Derived.Test.YtipdajgcepefgaaPx8
import Derived.Test.YtipdajgcepefgaaSegMath
import Derived.Test.YtipdajgcepefgaaSegFour
namespace Go.Proofs.Ytipdajgcepefgaa.M
open Go Go.RowKit Go.Proofs.YtipdajgcepefgaaW.PrintWords Go.Proofs.Ytipdajgcepefgaa.P

theorem ref_join09 (a b : List Int) (h : a.length + b.length < 140737488355328) : sallyportref09_join.f a b = some (a ++ b) := by
  unfold sallyportref09_join.f
  simp only [List.nil_append, List.length_nil, Nat.zero_add, Option.bind_some]
  rw [if_pos (by omega), if_pos h]

theorem ref_bytes09 {a b c d e f : Int} (ha : 0 ≤ a ∧ a ≤ 65535) (hb : 0 ≤ b ∧ b ≤ 65535) (hc : 0 ≤ c ∧ c ≤ 4294967295) (hd : 0 ≤ d ∧ d ≤ 4294967295) (he : 0 ≤ e ∧ e ≤ 255) (hf : 0 ≤ f ∧ f ≤ 65535) {l : List Int} (hl : Bytes l) (k : Nat) (hk : 2060 ≤ k) : sallyportref09_Bytes.f k a b c d e f l = some (segBytes a b c d e f l) := by
  unfold sallyportref09_Bytes.f segBytes sallyportref09_Check.f
  by_cases h64 : e ≥ 64
  · rw [if_pos h64, if_pos h64]
    rfl
  · rw [if_neg h64, if_neg h64]
    simp only [Option.bind_some, if_true]
    by_cases h : l.length ≤ 2028
    · have hB := head_bytes a b c d he.1 he.2 f
      have hg := fls_range (S (segHead a b c d e f) + S l)
      have hS : S (segHead a b c d e f ++ [0, 0, 0, 0] ++ l) = S (segHead a b c d e f) + S l := by
        rw [S_append_even _ _ (by simp [segHead]), S_append_even _ _ (by simp [segHead]), S_zeros, Int.add_zero]
      have hj := ref_join09 (segHead a b c d e f ++ [0, 0, 0, 0]) l (by simp [segHead]; omega)
      have hd2 := reffield_tells (bytes_append (bytes_append hB zeros_bytes) hl) (by simp [segHead]; omega) k (by simp [segHead]; omega)
      rw [hS, show 65535 - oc (S (segHead a b c d e f) + S l) = fls (S (segHead a b c d e f) + S l) from rfl] at hd2
      have n1 := number2_09 (v := a) (by omega) (by omega) k (by omega)
      have n2 := number2_09 (v := b) (by omega) (by omega) k (by omega)
      have n3 := number4_09 (v := c) (by omega) (by omega) k (by omega)
      have n4 := number4_09 (v := d) (by omega) (by omega) k (by omega)
      have n5 := number2_09 (v := 20480 + e) (by omega) (by omega) k (by omega)
      have n6 := number2_09 (v := f) (by omega) (by omega) k (by omega)
      rw [show (20480 + e) / 256 % 256 = 80 by omega, show (20480 + e) % 256 = e by omega] at n5
      rw [if_neg (by omega), if_pos h, wrap_i64 (x := a) (by omega) (by omega), wrap_i64 (x := b) (by omega) (by omega), wrap_i64 (x := c) (by omega) (by omega), wrap_i64 (x := d) (by omega) (by omega), wrap_i64 (x := e) (by omega) (by omega), wrap_i64 (x := 20480 + e) (by omega) (by omega), wrap_i64 (x := f) (by omega) (by omega), n1, n2, n3, n4, n5, n6]
      simp only [Option.bind_some, List.nil_append, List.cons_append, List.length_nil, List.length_cons, Nat.zero_add, Nat.reduceAdd]
      have t1 : Int.tdiv (fls (S (segHead a b c d e f) + S l)) 256 = fls (S (segHead a b c d e f) + S l) / 256 := Int.tdiv_eq_ediv_of_nonneg hg.1
      have t2 : Int.tmod (fls (S (segHead a b c d e f) + S l)) 256 = fls (S (segHead a b c d e f) + S l) % 256 := Int.tmod_eq_emod_of_nonneg hg.1
      generalize fls (S (segHead a b c d e f) + S l) = g at *
      unfold segHead at hj hd2 ⊢
      simp only [List.nil_append, List.cons_append] at hj hd2 ⊢
      simp only [hj, hd2, Option.bind_some]
      rw [wrap_i64 (x := g) (by omega) (by omega)]
      simp [t1, t2]
      rw [wrap_i64 (x := g / 256) (by omega) (by omega)]
    · rw [if_pos (by omega), if_neg h]

end Go.Proofs.Ytipdajgcepefgaa.M
