/- The closed statement on the numbers and both ends of Seg headers, out of the universal statements. -/
import Derived.Test.YtipdajgcepefgaaPx0
import Derived.Test.YtipdajgcepefgaaPx6
import Derived.Test.YtipdajgcepefgaaPx7
import Derived.Test.YtipdajgcepefgaaPx8
import Derived.Test.YtipdajgcepefgaaSegMath
import Derived.Test.YtipdajgcepefgaaSegFour
import Derived.Test.YtipdajgcepefgaaPx14
import Derived.Test.YtipdajgcepefgaaSegVal
import Derived.Test.YtipdajgcepefgaaPx12
import Derived.Test.YtipdajgcepefgaaPx2
import Derived.Test.YtipdajgcepefgaaPx9
import Derived.Test.YtipdajgcepefgaaSegAwake
import Derived.Test.YtipdajgcepefgaaPx15
import Derived.Test.YtipdajgcepefgaaPx16
import Derived.Test.YtipdajgcepefgaaPx5
import Derived.Test.YtipdajgcepefgaaPx11
import Derived.Test.YtipdajgcepefgaaPx17
namespace Go.Proofs.Ytipdajgcepefgaa.M
open Go Go.RowKit Go.Proofs.YtipdajgcepefgaaW.PrintWords Go.Proofs.Ytipdajgcepefgaa.P

theorem ref_join09 (a b : List Int) (h : a.length + b.length < 140737488355328) : sallyportref09_join.f a b = some (a ++ b) := by
  unfold sallyportref09_join.f
  simp only [List.nil_append, List.length_nil, Nat.zero_add, Option.bind_some]
  rw [if_pos (by omega), if_pos h]

theorem ref_bytes09 {a b c d e f : Int} (ha : 0 ≤ a ∧ a ≤ 65535) (hb : 0 ≤ b ∧ b ≤ 65535) (hc : 0 ≤ c ∧ c ≤ 4294967295) (hd : 0 ≤ d ∧ d ≤ 4294967295) (he : 0 ≤ e ∧ e ≤ 255) (hf : 0 ≤ f ∧ f ≤ 65535) {l : List Int} (hl : Bytes l) (k : Nat) (hk : 2060 ≤ k) : sallyportref09_Bytes.f k a b c d e f l = some (segBytes a b c d e f l) := by
  unfold sallyportref09_Bytes.f segBytes sallyportref09_Check.f
  by_cases h64 : e ≥ 64
  · rw [if_pos h64, if_pos h64]
    rfl
  · rw [if_neg h64, if_neg h64]
    simp only [Option.bind_some, if_true]
    by_cases h : l.length ≤ 2028
    · have hB := head_bytes a b c d he.1 he.2 f
      have hg := fls_range (S (segHead a b c d e f) + S l)
      have hS : S (segHead a b c d e f ++ [0, 0, 0, 0] ++ l) = S (segHead a b c d e f) + S l := by
        rw [S_append_even _ _ (by simp [segHead]), S_append_even _ _ (by simp [segHead]), S_zeros, Int.add_zero]
      have hj := ref_join09 (segHead a b c d e f ++ [0, 0, 0, 0]) l (by simp [segHead]; omega)
      have hd2 := reffield_tells (bytes_append (bytes_append hB zeros_bytes) hl) (by simp [segHead]; omega) k (by simp [segHead]; omega)
      rw [hS, show 65535 - oc (S (segHead a b c d e f) + S l) = fls (S (segHead a b c d e f) + S l) from rfl] at hd2
      have n1 := number2_09 (v := a) (by omega) (by omega) k (by omega)
      have n2 := number2_09 (v := b) (by omega) (by omega) k (by omega)
      have n3 := number4_09 (v := c) (by omega) (by omega) k (by omega)
      have n4 := number4_09 (v := d) (by omega) (by omega) k (by omega)
      have n5 := number2_09 (v := 20480 + e) (by omega) (by omega) k (by omega)
      have n6 := number2_09 (v := f) (by omega) (by omega) k (by omega)
      rw [show (20480 + e) / 256 % 256 = 80 by omega, show (20480 + e) % 256 = e by omega] at n5
      rw [if_neg (by omega), if_pos h, wrap_i64 (x := a) (by omega) (by omega), wrap_i64 (x := b) (by omega) (by omega), wrap_i64 (x := c) (by omega) (by omega), wrap_i64 (x := d) (by omega) (by omega), wrap_i64 (x := e) (by omega) (by omega), wrap_i64 (x := 20480 + e) (by omega) (by omega), wrap_i64 (x := f) (by omega) (by omega), n1, n2, n3, n4, n5, n6]
      simp only [Option.bind_some, List.nil_append, List.cons_append, List.length_nil, List.length_cons, Nat.zero_add, Nat.reduceAdd]
      have t1 : Int.tdiv (fls (S (segHead a b c d e f) + S l)) 256 = fls (S (segHead a b c d e f) + S l) / 256 := Int.tdiv_eq_ediv_of_nonneg hg.1
      have t2 : Int.tmod (fls (S (segHead a b c d e f) + S l)) 256 = fls (S (segHead a b c d e f) + S l) % 256 := Int.tmod_eq_emod_of_nonneg hg.1
      generalize fls (S (segHead a b c d e f) + S l) = g at *
      unfold segHead at hj hd2 ⊢
      simp only [List.nil_append, List.cons_append] at hj hd2 ⊢
      simp only [hj, hd2, Option.bind_some]
      rw [wrap_i64 (x := g) (by omega) (by omega)]
      simp [t1, t2]
      rw [wrap_i64 (x := g / 256) (by omega) (by omega)]
    · rw [if_pos (by omega), if_neg h]

end Go.Proofs.Ytipdajgcepefgaa.M
namespace Go.Proofs.Ytipdajgcepefgaa.M
open Go Go.RowKit Go.Proofs.YtipdajgcepefgaaW.PrintWords Go.Proofs.Ytipdajgcepefgaa.P

theorem ref_read09 {l : List Int} (hl : Bytes l) (hn : l.length < 140737488355328) (k : Nat) (hk : l.length + 20 ≤ k) : sallyportref09_Read.f k l = some (segRead l) := by
  unfold sallyportref09_Read.f segRead
  by_cases h : (l.length : Int) < 20
  · rw [if_pos h, if_pos h]
  · have a := fun i => rd_byte hl i
    have a0 := a 0; have a1 := a 1; have a2 := a 2; have a3 := a 3; have a4 := a 4; have a5 := a 5; have a6 := a 6; have a7 := a 7; have a8 := a 8; have a9 := a 9; have a10 := a 10; have a11 := a 11; have a14 := a 14; have a15 := a 15
    obtain ⟨m, rfl⟩ : ∃ m, k = m + 1 := ⟨k - 1, by omega⟩
    have bad : sallyportref09_Read.j0 (m + 1) l true 0 0 0 0 0 0 = some (0, 0, 0, 0, 0, 0, 90) := by simp only [sallyportref09_Read.j0, if_true]
    rw [if_neg h, if_neg h, if_pos (by omega), bad]
    by_cases h12 : rd l 12 = 80
    · rw [if_pos h12, if_pos (by omega)]
      by_cases h13 : rd l 13 ≥ 64
      · rw [if_pos h13, if_neg (by omega)]
      · rw [if_neg h13, if_pos (by omega)]
        by_cases h18 : rd l 18 = 0
        · rw [if_pos h18, if_pos (by omega)]
          by_cases h19 : rd l 19 = 0
          · rw [if_pos ⟨h12, by omega, h18, h19⟩, show (rd l 19 != 0) = false by simp [h19]]
            have v0 := value2_09 hl 0 (by omega) (Nat.le_of_lt hn) m (by omega)
            have v2 := value2_09 hl 2 (by omega) (Nat.le_of_lt hn) m (by omega)
            have v4 := value4_09 hl 4 (by omega) (Nat.le_of_lt hn) m (by omega)
            have v8 := value4_09 hl 8 (by omega) (Nat.le_of_lt hn) m (by omega)
            have v14 := value2_09 hl 14 (by omega) (Nat.le_of_lt hn) m (by omega)
            have v16 := value2_09 hl 16 (by omega) (Nat.le_of_lt hn) m (by omega)
            simp only [Int.cast_ofNat_Int, Int.reduceAdd] at v0 v2 v4 v8 v14 v16
            have hB : Bytes ((l.set 16 0).set 17 0) := bytes_set (bytes_set hl 16 (by omega) (by omega)) 17 (by omega) (by omega)
            have hf := reffield_tells hB (by rw [List.length_set, List.length_set]; omega) m (by rw [List.length_set, List.length_set]; omega)
            rw [S_nought16 (by omega), show 65535 - oc (S (l.take 16) + S (l.drop 18)) = fls (S (l.take 16) + S (l.drop 18)) from rfl] at hf
            have hg := fls_range (S (l.take 16) + S (l.drop 18))
            simp only [sallyportref09_Read.j0]
            rw [if_neg (by simp), copy_tells l hn]
            simp only [Option.bind_some]
            rw [if_pos (by omega), if_pos (by omega), v16]
            simp only [Option.bind_some]
            rw [show (16 : Int).toNat = 16 from rfl, show (17 : Int).toNat = 17 from rfl, hf]
            simp only [Option.bind_some]
            rw [wrap_i64 (x := fls _) (by omega) (by omega)]
            by_cases h2 : rd l 16 * 256 + rd l 17 = fls (S (l.take 16) + S (l.drop 18))
            · rw [if_pos h2, if_pos h2]
              simp only [v0, v2, v4, v8, v14, Option.bind_some]
              rw [if_pos (by omega), wrap_u16 (by omega) (by omega), wrap_u16 (by omega) (by omega), wrap_u16 (by omega) (by omega), Int.emod_eq_of_lt (a := ((rd l 4 * 256 + rd l 5) * 256 + rd l 6) * 256 + rd l 7) (by omega) (by omega), Int.emod_eq_of_lt (a := ((rd l 8 * 256 + rd l 9) * 256 + rd l 10) * 256 + rd l 11) (by omega) (by omega)]
            · rw [if_neg h2, if_neg h2]
          · rw [if_neg (by omega), show (rd l 19 != 0) = true by simp [h19], bad]
        · rw [if_neg h18, if_neg (by omega)]
    · rw [if_neg h12, if_neg (by omega)]
end Go.Proofs.Ytipdajgcepefgaa.M
namespace Go.Proofs.Ytipdajgcepefgaa.M
open Go Go.RowKit Go.Proofs.YtipdajgcepefgaaW.PrintWords Go.Proofs.Ytipdajgcepefgaa.P

/-! SegBytes -/
theorem segBytes_loop (x1 x5 x8 x10 : List Int) (K : Nat) (h8 : sallyportref00_EqBytes.f K x8 x10 = some true) (h5 : sallyportref00_EqBytes.f K x5 x1 = some true) (hk : 2060 ≤ K) : ∀ (d : Nat) (i : Nat) (x6 : List Int), i + d = x6.length → x6.length ≤ 140737488355328 → ∀ k, K + 1 + d = k →
    sallyportlaw09_SegBytes.l0 k x1 x5 x6 x8 x10 (i : Int) = some true := by
  intro d
  induction d with
  | zero =>
    intro i x6 hi hn k hk'
    obtain rfl : k = K + 1 := by omega
    simp only [sallyportlaw09_SegBytes.l0]
    rw [if_neg (by omega), h8]
    simp only [Option.bind_some, if_true]
    rw [h5]
    simp only [Option.bind_some, if_true]
    rw [awake_seg K hk]
    rfl
  | succ d ih =>
    intro i x6 hi hn k hk'
    obtain rfl : k = (K + 1 + d) + 1 := by omega
    simp only [sallyportlaw09_SegBytes.l0]
    rw [if_pos (by omega), if_pos (by omega), wrap_i64 (by omega) (by omega)]
    exact ih (i + 1) _ (by rw [List.length_set]; omega) (by rw [List.length_set]; exact hn) _ rfl
theorem segBytesLaw : sallyportlaw09_SegBytes.Pure := by
  intro a b c d e f l ha hb hc hd he hf _ hn hwf
  have ha := u16_of_wf ha; have hb := u16_of_wf hb; have hc := u32_of_wf hc; have hd := u32_of_wf hd; have he := u8_of_wf he; have hf := u16_of_wf hf
  have hl := bytes_of_wf hwf
  have hn' : l.length < 140737488355328 := by omega
  obtain ⟨K, hK⟩ : ∃ K, l.length + 3000 ≤ K := ⟨_, Nat.le_refl _⟩
  have hL := segBytes_len a b c d e f l
  have e0 := eq_self (segBytes a b c d e f l).1 (by omega) K (by omega)
  have e1 := eq_self l (Nat.le_of_lt hn') K (by omega)
  obtain ⟨K2, hK2⟩ : ∃ K2, K2 = K + 1 + (segBytes a b c d e f l).1.length := ⟨_, rfl⟩
  have lp := segBytes_loop l l (segBytes a b c d e f l).1 (segBytes a b c d e f l).1 K e0 e1 (by omega) (segBytes a b c d e f l).1.length 0 (segBytes a b c d e f l).1 (by omega) (by omega) K2 hK2.symm
  have f0 := eq_self (segBytes a b c d e f l).1 (by omega) K2 (by omega)
  have f1 := eq_self l (Nat.le_of_lt hn') K2 (by omega)
  have ck : seg_Check.f a b c d e f = sallyportref09_Check.f a b c d e f := rfl
  refine ⟨K2, ?_⟩
  unfold sallyportlaw09_SegBytes.f seg_Size.f sallyportref09_Size.f
  rw [ck]
  obtain ⟨t, ht⟩ : ∃ t, sallyportref09_Check.f a b c d e f = some t := by
    unfold sallyportref09_Check.f
    split
    · exact ⟨_, rfl⟩
    · exact ⟨_, rfl⟩
  simp only [ht, copy_tells l hn', seg_bytes a b f hc hd he hl K2 (by omega), ref_bytes09 ha hb hc hd he hf hl K2 (by omega), f0, f1, Option.bind_some, if_true]
  exact lp

end Go.Proofs.Ytipdajgcepefgaa.M
namespace Go.Proofs.Ytipdajgcepefgaa.M
open Go Go.RowKit Go.Proofs.YtipdajgcepefgaaW.PrintWords Go.Proofs.Ytipdajgcepefgaa.P

/-! SegReads -/
theorem segReadsLaw : sallyportlaw09_SegReads.Pure := by
  intro l _ hn hwf
  have hl := bytes_of_wf hwf
  have hn' : l.length < 140737488355328 := by omega
  obtain ⟨K, hK⟩ : ∃ K, l.length + 3000 ≤ K := ⟨_, Nat.le_refl _⟩
  refine ⟨K, ?_⟩
  unfold sallyportlaw09_SegReads.f
  simp only [copy_tells l hn', seg_read hl (Nat.le_of_lt hn') K (by omega), ref_read09 hl hn' K (by omega), eq_self l (Nat.le_of_lt hn') K (by omega), awake_seg K (by omega), Option.bind_some, if_true, beq_self_eq_true, Bool.and_self]

end Go.Proofs.Ytipdajgcepefgaa.M
namespace Go.Proofs.Ytipdajgcepefgaa.M
open Go Go.RowKit Go.Proofs.YtipdajgcepefgaaW.PrintWords Go.Proofs.Ytipdajgcepefgaa.P

/-! SegBack -/
theorem rd_at_app (h t : List Int) (i : Nat) (hi : i < h.length) : rd (h ++ t) (i : Int) = rd h (i : Int) := rd_append_left hi
theorem seg_round {a b c d e f : Int} (ha : 0 ≤ a ∧ a ≤ 65535) (hb : 0 ≤ b ∧ b ≤ 65535) (hc : 0 ≤ c ∧ c ≤ 4294967295) (hd : 0 ≤ d ∧ d ≤ 4294967295) (he : ¬ e ≥ 64) (hf : 0 ≤ f ∧ f ≤ 65535) {l : List Int} (h : l.length ≤ 2028) : segRead ((segBytes a b c d e f l).1 ++ l) = (a, b, c, d, e, f, 0) := by
  have hg := fls_range (S (segHead a b c d e f) + S l)
  unfold segBytes
  rw [if_neg he, if_pos h]
  generalize hG : fls (S (segHead a b c d e f) + S l) = g at hg ⊢
  generalize hX : segHead a b c d e f ++ [g / 256 % 256, g % 256, 0, 0] ++ l = X
  have x0 : rd X 0 = a / 256 % 256 := by rw [← hX]; rfl
  have x1 : rd X 1 = a % 256 := by rw [← hX]; rfl
  have x2 : rd X 2 = b / 256 % 256 := by rw [← hX]; rfl
  have x3 : rd X 3 = b % 256 := by rw [← hX]; rfl
  have x4 : rd X 4 = c / 256 / 256 / 256 % 256 := by rw [← hX]; rfl
  have x5 : rd X 5 = c / 256 / 256 % 256 := by rw [← hX]; rfl
  have x6 : rd X 6 = c / 256 % 256 := by rw [← hX]; rfl
  have x7 : rd X 7 = c % 256 := by rw [← hX]; rfl
  have x8 : rd X 8 = d / 256 / 256 / 256 % 256 := by rw [← hX]; rfl
  have x9 : rd X 9 = d / 256 / 256 % 256 := by rw [← hX]; rfl
  have x10 : rd X 10 = d / 256 % 256 := by rw [← hX]; rfl
  have x11 : rd X 11 = d % 256 := by rw [← hX]; rfl
  have x12 : rd X 12 = 80 := by rw [← hX]; rfl
  have x13 : rd X 13 = e := by rw [← hX]; rfl
  have x14 : rd X 14 = f / 256 % 256 := by rw [← hX]; rfl
  have x15 : rd X 15 = f % 256 := by rw [← hX]; rfl
  have x16 : rd X 16 = g / 256 % 256 := by rw [← hX]; rfl
  have x17 : rd X 17 = g % 256 := by rw [← hX]; rfl
  have x18 : rd X 18 = 0 := by rw [← hX]; rfl
  have x19 : rd X 19 = 0 := by rw [← hX]; rfl
  have xt : X.take 16 = segHead a b c d e f := by rw [← hX]; rfl
  have xd : X.drop 18 = 0 :: 0 :: l := by rw [← hX]; rfl
  have xn : X.length = 20 + l.length := by rw [← hX]; simp [segHead]; omega
  have xs : S (0 :: 0 :: l) = S l := by simp [S]
  unfold segRead
  rw [x0, x1, x2, x3, x4, x5, x6, x7, x8, x9, x10, x11, x12, x13, x14, x15, x16, x17, x18, x19, xt, xd, xs, hG]
  rw [if_neg (by omega), if_pos (by omega), if_pos (by omega), show a / 256 % 256 * 256 + a % 256 = a by omega, show b / 256 % 256 * 256 + b % 256 = b by omega, show f / 256 % 256 * 256 + f % 256 = f by omega, show ((c / 256 / 256 / 256 % 256 * 256 + c / 256 / 256 % 256) * 256 + c / 256 % 256) * 256 + c % 256 = c by omega, show ((d / 256 / 256 / 256 % 256 * 256 + d / 256 / 256 % 256) * 256 + d / 256 % 256) * 256 + d % 256 = d by omega]
/-- What is read is written just so. -/
theorem seg_again {l : List Int} (hl : Bytes l) (hr : (segRead l).2.2.2.2.2.2 = 0) (hn : l.length ≤ 2048) : 20 ≤ l.length ∧ segBytes (segRead l).1 (segRead l).2.1 (segRead l).2.2.1 (segRead l).2.2.2.1 (segRead l).2.2.2.2.1 (segRead l).2.2.2.2.2.1 (l.drop 20) = (l.take 20, 0) := by
  have h20 : 20 ≤ l.length := by
    rcases Nat.lt_or_ge l.length 20 with h | h
    · unfold segRead at hr
      rw [if_pos (by omega)] at hr
      simp at hr
    · exact h
  refine ⟨h20, ?_⟩
  unfold segRead at hr ⊢
  rw [if_neg (by omega)] at hr ⊢
  by_cases h1 : rd l 12 = 80 ∧ rd l 13 < 64 ∧ rd l 18 = 0 ∧ rd l 19 = 0
  · rw [if_pos h1] at hr ⊢
    by_cases h2 : rd l 16 * 256 + rd l 17 = fls (S (l.take 16) + S (l.drop 18))
    · rw [if_pos h2]
      have hd : (l.drop 20).length = l.length - 20 := List.length_drop
      obtain ⟨c0, c1, c2, c3, c4, c5, c6, c7, c8, c9, d0, d1, d2, d3, d4, d5, d6, d7, d8, d9, t, rfl⟩ := twenty h20
      have bb : ∀ x ∈ [c0, c1, c2, c3, c4, c5, c6, c7, c8, c9, d0, d1, d2, d3, d4, d5, d6, d7, d8, d9], 0 ≤ x ∧ x ≤ 255 := fun x hx => hl x (List.mem_append_left t hx)
      simp only [List.mem_cons, List.not_mem_nil, or_false, forall_eq_or_imp, forall_eq] at bb
      obtain ⟨b0, b1, b2, b3, b4, b5, b6, b7, b8, b9, e0, e1, e2, e3, e4, e5, e6, e7, e8, e9⟩ := bb
      generalize hX : (c0 :: c1 :: c2 :: c3 :: c4 :: c5 :: c6 :: c7 :: c8 :: c9 :: d0 :: d1 :: d2 :: d3 :: d4 :: d5 :: d6 :: d7 :: d8 :: d9 :: t) = X at *
      have x0 : rd X 0 = c0 := by rw [← hX]; rfl
      have x1 : rd X 1 = c1 := by rw [← hX]; rfl
      have x2 : rd X 2 = c2 := by rw [← hX]; rfl
      have x3 : rd X 3 = c3 := by rw [← hX]; rfl
      have x4 : rd X 4 = c4 := by rw [← hX]; rfl
      have x5 : rd X 5 = c5 := by rw [← hX]; rfl
      have x6 : rd X 6 = c6 := by rw [← hX]; rfl
      have x7 : rd X 7 = c7 := by rw [← hX]; rfl
      have x8 : rd X 8 = c8 := by rw [← hX]; rfl
      have x9 : rd X 9 = c9 := by rw [← hX]; rfl
      have x10 : rd X 10 = d0 := by rw [← hX]; rfl
      have x11 : rd X 11 = d1 := by rw [← hX]; rfl
      have x12 : rd X 12 = d2 := by rw [← hX]; rfl
      have x13 : rd X 13 = d3 := by rw [← hX]; rfl
      have x14 : rd X 14 = d4 := by rw [← hX]; rfl
      have x15 : rd X 15 = d5 := by rw [← hX]; rfl
      have x16 : rd X 16 = d6 := by rw [← hX]; rfl
      have x17 : rd X 17 = d7 := by rw [← hX]; rfl
      have x18 : rd X 18 = d8 := by rw [← hX]; rfl
      have x19 : rd X 19 = d9 := by rw [← hX]; rfl
      rw [x12, x13, x18, x19] at h1
      obtain ⟨q12, q13, q18, q19⟩ := h1
      subst q12 q18 q19
      have xt : X.take 16 = [c0, c1, c2, c3, c4, c5, c6, c7, c8, c9, d0, d1, 80, d3, d4, d5] := by rw [← hX]; rfl
      have xd : X.drop 18 = 0 :: 0 :: t := by rw [← hX]; rfl
      have xd2 : X.drop 20 = t := by rw [← hX]; rfl
      have xt2 : X.take 20 = [c0, c1, c2, c3, c4, c5, c6, c7, c8, c9, d0, d1, 80, d3, d4, d5, d6, d7, 0, 0] := by rw [← hX]; rfl
      have xs : S (0 :: 0 :: t) = S t := by simp [S]
      rw [x16, x17, xt, xd, xs] at h2
      rw [xd2] at hd
      rw [x0, x1, x2, x3, x4, x5, x6, x7, x8, x9, x10, x11, x13, x14, x15, xd2, xt2]
      have hH : segHead (c0 * 256 + c1) (c2 * 256 + c3) (((c4 * 256 + c5) * 256 + c6) * 256 + c7) (((c8 * 256 + c9) * 256 + d0) * 256 + d1) d3 (d4 * 256 + d5) = [c0, c1, c2, c3, c4, c5, c6, c7, c8, c9, d0, d1, 80, d3, d4, d5] := by
        unfold segHead
        rw [show (c0 * 256 + c1) / 256 % 256 = c0 by omega, show (c0 * 256 + c1) % 256 = c1 by omega, show (c2 * 256 + c3) / 256 % 256 = c2 by omega, show (c2 * 256 + c3) % 256 = c3 by omega, show (d4 * 256 + d5) / 256 % 256 = d4 by omega, show (d4 * 256 + d5) % 256 = d5 by omega,
          show (((c4 * 256 + c5) * 256 + c6) * 256 + c7) / 256 / 256 / 256 % 256 = c4 by omega, show (((c4 * 256 + c5) * 256 + c6) * 256 + c7) / 256 / 256 % 256 = c5 by omega, show (((c4 * 256 + c5) * 256 + c6) * 256 + c7) / 256 % 256 = c6 by omega, show (((c4 * 256 + c5) * 256 + c6) * 256 + c7) % 256 = c7 by omega,
          show (((c8 * 256 + c9) * 256 + d0) * 256 + d1) / 256 / 256 / 256 % 256 = c8 by omega, show (((c8 * 256 + c9) * 256 + d0) * 256 + d1) / 256 / 256 % 256 = c9 by omega, show (((c8 * 256 + c9) * 256 + d0) * 256 + d1) / 256 % 256 = d0 by omega, show (((c8 * 256 + c9) * 256 + d0) * 256 + d1) % 256 = d1 by omega]
      unfold segBytes
      simp only
      rw [if_neg (by omega), if_pos (by omega), hH, ← h2, show (d6 * 256 + d7) / 256 % 256 = d6 by omega, show (d6 * 256 + d7) % 256 = d7 by omega]
      rfl
    · rw [if_neg h2] at hr; simp at hr
  · rw [if_neg h1] at hr; simp at hr
theorem segRead_err {l : List Int} (h : ¬ (segRead l).2.2.2.2.2.2 = 0) : ((segRead l).1 == 0 && ((segRead l).2.1 == 0 && ((segRead l).2.2.1 == 0 && ((segRead l).2.2.2.1 == 0 && ((segRead l).2.2.2.2.1 == 0 && ((segRead l).2.2.2.2.2.1 == 0)))))) = true := by
  unfold segRead at h ⊢
  split
  · rfl
  · rename_i h1
    rw [if_neg h1] at h
    split
    · rename_i h2
      rw [if_pos h2] at h
      split
      · rename_i h3
        rw [if_pos h3] at h
        exact absurd rfl h
      · rfl
    · rfl
theorem segRead_wf {l : List Int} (hl : Bytes l) : (0 ≤ (segRead l).2.2.1 ∧ (segRead l).2.2.1 ≤ 4294967295) ∧ (0 ≤ (segRead l).2.2.2.1 ∧ (segRead l).2.2.2.1 ≤ 4294967295) ∧ (0 ≤ (segRead l).2.2.2.2.1 ∧ (segRead l).2.2.2.2.1 ≤ 255) := by
  have a := fun i => rd_byte hl i
  have a4 := a 4; have a5 := a 5; have a6 := a 6; have a7 := a 7; have a8 := a 8; have a9 := a 9; have a10 := a 10; have a11 := a 11; have a13 := a 13
  unfold segRead
  split
  · simp
  · split
    · split
      · refine ⟨?_, ?_, ?_⟩ <;> simp only <;> omega
      · simp
    · simp
theorem segBytes_bytes (a b c d : Int) {e : Int} (f : Int) (he : 0 ≤ e ∧ e ≤ 255) (l : List Int) : Bytes (segBytes a b c d e f l).1 := by
  unfold segBytes
  split
  · exact bytes_nil
  · split
    · exact bytes_append (head_bytes a b c d he.1 he.2 f) (bytes_cons (by omega) (by omega) (bytes_cons (by omega) (by omega) (bytes_cons (by omega) (by omega) (bytes_cons (by omega) (by omega) bytes_nil))))
    · exact bytes_nil
theorem segBackLaw : sallyportlaw09_SegBack.Pure := by
  intro a b c d e f l q ha hb hc hd he hf _ hn hwf _ hn2 hwf2
  have ha := u16_of_wf ha; have hb := u16_of_wf hb; have hc := u32_of_wf hc; have hd := u32_of_wf hd; have he := u8_of_wf he; have hf := u16_of_wf hf
  have hl := bytes_of_wf hwf; have hq := bytes_of_wf hwf2
  obtain ⟨K, hK⟩ : ∃ K, l.length + q.length + 3000 ≤ K := ⟨_, Nat.le_refl _⟩
  refine ⟨K, ?_⟩
  have he2 := eq_self (q.take 20) (by rw [List.length_take]; omega) K (by rw [List.length_take]; omega)
  have hrq := seg_read hq (by omega) K (by omega)
  have hw := segRead_wf hq
  have hbd : seg_Bytes.f K (segRead q).1 (segRead q).2.1 (segRead q).2.2.1 (segRead q).2.2.2.1 (segRead q).2.2.2.2.1 (segRead q).2.2.2.2.2.1 (q.drop 20) = some (segBytes (segRead q).1 (segRead q).2.1 (segRead q).2.2.1 (segRead q).2.2.2.1 (segRead q).2.2.2.2.1 (segRead q).2.2.2.2.2.1 (q.drop 20)) := seg_bytes _ _ _ hw.1 hw.2.1 hw.2.2 (bytes_drop hq 20) K (by omega)
  unfold sallyportlaw09_SegBack.f
  rw [awake_seg K (by omega)]
  simp only [Option.bind_some, if_true]
  rw [seg_bytes a b f hc hd he hl K (by omega)]
  simp only [Option.bind_some, hrq, hbd]
  have last : (if (segRead q).2.2.2.2.2.2 = 0 then (if (q.length : Int) > 2048 then (some true) else (if 20 ≤ (q.length : Int) then (if (segBytes (segRead q).1 (segRead q).2.1 (segRead q).2.2.1 (segRead q).2.2.2.1 (segRead q).2.2.2.2.1 (segRead q).2.2.2.2.2.1 (q.drop 20)).2 = 0 then ((sallyportref00_EqBytes.f K (segBytes (segRead q).1 (segRead q).2.1 (segRead q).2.2.1 (segRead q).2.2.2.1 (segRead q).2.2.2.2.1 (segRead q).2.2.2.2.2.1 (q.drop 20)).1 (q.take 20)).bind fun t => (some t)) else (some false)) else (none))) else (some ((segRead q).1 == 0 && ((segRead q).2.1 == 0 && ((segRead q).2.2.1 == 0 && ((segRead q).2.2.2.1 == 0 && ((segRead q).2.2.2.2.1 == 0 && ((segRead q).2.2.2.2.2.1 == 0)))))))) = some true := by
    by_cases h : (segRead q).2.2.2.2.2.2 = 0
    · rw [if_pos h]
      by_cases h2 : (q.length : Int) > 2048
      · rw [if_pos h2]
      · obtain ⟨h8, hg⟩ := seg_again hq h (by omega)
        rw [if_neg h2, if_pos (by omega), hg]
        simp only [if_true]
        rw [he2]; rfl
    · rw [if_neg h, segRead_err h]
  by_cases h64 : e ≥ 64
  · have e2 : ¬ (segBytes a b c d e f l).2 = 0 := by unfold segBytes; rw [if_pos h64]; simp
    have e3 : seg_Check.f a b c d e f = some 90 := by unfold seg_Check.f; rw [if_pos h64]
    rw [if_neg e2, e3]
    simp only [Option.bind_some]
    rw [if_neg (by omega)]
    exact last
  · have e4 : seg_Check.f a b c d e f = some 0 := by unfold seg_Check.f; rw [if_neg h64]
    rw [e4]
    simp only [Option.bind_some, if_true]
    by_cases h1 : l.length ≤ 2028
    · have e2 : (segBytes a b c d e f l).2 = 0 := by unfold segBytes; rw [if_neg h64, if_pos h1]
      have e3 : ((segBytes a b c d e f l).1.length : Int) = 20 := by unfold segBytes; rw [if_neg h64, if_pos h1]; rfl
      have hB := segBytes_bytes a b c d f he l
      rw [if_pos e2, join_09 _ _ (by omega)]
      simp only [Option.bind_some]
      rw [seg_read (bytes_append hB hl) (by rw [List.length_append]; omega) K (by rw [List.length_append]; omega), seg_round ha hb hc hd h64 hf h1]
      simp only [Option.bind_some]
      rw [if_pos e3]
      simp only [if_true]
      rw [if_neg (by simp)]
      exact last
    · have e2 : ¬ (segBytes a b c d e f l).2 = 0 := by unfold segBytes; rw [if_neg h64, if_neg h1]; simp
      rw [if_neg e2, if_neg (by omega)]
      exact last
end Go.Proofs.Ytipdajgcepefgaa.M
namespace Go.Proofs.Ytipdajgcepefgaa.M
open Go Go.RowKit Go.Proofs.YtipdajgcepefgaaW.PrintWords Go.Proofs.Ytipdajgcepefgaa.P
set_option linter.unusedVariables false

theorem up_le {α : Type} {G : Nat → Option α} (hm : ∀ k, LeO (G k) (G (k + 1))) {r : α} {k : Nat} (e : G k = some r) : ∀ d, G (k + d) = some r
  | 0 => e
  | d + 1 => hm (k + d) r (up_le hm e d)
theorem up_to {α : Type} {G : Nat → Option α} (hm : ∀ k, LeO (G k) (G (k + 1))) {r : α} {k : Nat} (e : G k = some r) (m : Nat) (h : k ≤ m) : G m = some r := by
  have := up_le hm e (m - k)
  rwa [show k + (m - k) = m from by omega] at this
theorem wf_of_bytes {l : List Int} (h : Bytes l) : ∀ x ∈ l, (Lit.int .u8 x).wf = true := by
  intro x hx
  have := h x hx
  simp only [Lit.wf, Bool.and_eq_true, decide_eq_true_eq]
  exact this
theorem noughts_bytes (n : Nat) : Bytes (List.replicate n 0) := by
  intro x hx
  have := List.eq_of_mem_replicate hx
  omega
theorem names_reads {l : List Int} (hl : Bytes l) (hn : l.length ≤ 1000000) : ∃ K, ∀ k, K ≤ k → sallyportlaw09_SegReads.f k l = some true := by
  obtain ⟨K, hK⟩ := segReadsLaw l (by unfold maxLen; omega) (by omega) (wf_of_bytes hl)
  exact ⟨K, fun k h => up_to (G := fun k => sallyportlaw09_SegReads.f k l) (sallyportlaw09_SegReads.mono l) hK k h⟩
theorem names_bytes {l : List Int} (hl : Bytes l) (hn : l.length ≤ 1000000) : (∃ K, ∀ k, K ≤ k → sallyportlaw09_SegBytes.f k 80 1024 1 0 2 512 l = some true) ∧ (∃ K, ∀ k, K ≤ k → sallyportlaw09_SegBytes.f k 0 0 0 0 0 0 l = some true) ∧ (∃ K, ∀ k, K ≤ k → sallyportlaw09_SegBytes.f k 0 0 0 0 64 0 l = some true) := by
  refine ⟨?_, ?_, ?_⟩
  · obtain ⟨K, hK⟩ := segBytesLaw 80 1024 1 0 2 512 l (by decide) (by decide) (by decide) (by decide) (by decide) (by decide) (by unfold maxLen; omega) (by omega) (wf_of_bytes hl)
    exact ⟨K, fun k h => up_to (G := fun k => sallyportlaw09_SegBytes.f k 80 1024 1 0 2 512 l) (sallyportlaw09_SegBytes.mono 80 1024 1 0 2 512 l) hK k h⟩
  · obtain ⟨K, hK⟩ := segBytesLaw 0 0 0 0 0 0 l (by decide) (by decide) (by decide) (by decide) (by decide) (by decide) (by unfold maxLen; omega) (by omega) (wf_of_bytes hl)
    exact ⟨K, fun k h => up_to (G := fun k => sallyportlaw09_SegBytes.f k 0 0 0 0 0 0 l) (sallyportlaw09_SegBytes.mono 0 0 0 0 0 0 l) hK k h⟩
  · obtain ⟨K, hK⟩ := segBytesLaw 0 0 0 0 64 0 l (by decide) (by decide) (by decide) (by decide) (by decide) (by decide) (by unfold maxLen; omega) (by omega) (wf_of_bytes hl)
    exact ⟨K, fun k h => up_to (G := fun k => sallyportlaw09_SegBytes.f k 0 0 0 0 64 0 l) (sallyportlaw09_SegBytes.mono 0 0 0 0 64 0 l) hK k h⟩
theorem names_back {l : List Int} (hl : Bytes l) (hn : l.length ≤ 1000000) : ∃ K, ∀ k, K ≤ k → sallyportlaw09_SegBack.f k 80 1024 1 0 2 512 l [] = some true := by
  obtain ⟨K, hK⟩ := segBackLaw 80 1024 1 0 2 512 l [] (by decide) (by decide) (by decide) (by decide) (by decide) (by decide) (by unfold maxLen; omega) (by omega) (wf_of_bytes hl) (by unfold maxLen; simp) (by simp) (wf_of_bytes bytes_nil)
  exact ⟨K, fun k h => up_to (G := fun k => sallyportlaw09_SegBack.f k 80 1024 1 0 2 512 l []) (sallyportlaw09_SegBack.mono 80 1024 1 0 2 512 l []) hK k h⟩
theorem names_end : ∃ K, ∀ k, K ≤ k → sallyportlaw09_SegNames.l0 k (segL ++ [1]) (((segL ++ [1]).length : Nat) : Int) 80 1024 1 0 2 512 = some true := by
  have hB := fun n => noughts_bytes n
  obtain ⟨K1, h1⟩ := (names_bytes (hB 2028) (by rw [List.length_replicate]; omega)).1
  obtain ⟨K2, h2⟩ := (names_bytes (hB 2029) (by rw [List.length_replicate]; omega)).1
  obtain ⟨K3, h3⟩ := (names_bytes bytes_nil (by simp)).2.1
  obtain ⟨K4, h4⟩ := names_reads (hB 70000) (by rw [List.length_replicate]; omega)
  obtain ⟨K5, h5⟩ := names_back (hB 2028) (by rw [List.length_replicate]; omega)
  obtain ⟨K6, h6⟩ := (names_bytes bytes_nil (by simp)).2.2
  obtain ⟨K7, h7⟩ := (names_bytes (hB 2048) (by rw [List.length_replicate]; omega)).2.2
  have hc : seg_Check.f 0 0 0 0 64 0 = some 90 := by decide
  refine ⟨K1 + K2 + K3 + K4 + K5 + 3000 + K6 + K7, fun k hk => ?_⟩
  obtain ⟨m, rfl⟩ : ∃ m, k = m + 1 := ⟨k - 1, by omega⟩
  simp only [sallyportlaw09_SegNames.l0]
  rw [if_neg (by omega), hc]
  simp only [Option.bind_some, if_true]
  rw [h6 m (by omega)]
  simp only [Option.bind_some, if_true]
  rw [if_pos (by decide), h7 m (by omega)]
  simp only [Option.bind_some, if_true]
  rw [awake_seg m (by omega)]
  simp only [Option.bind_some, if_true]
  rw [if_pos (by decide), h1 m (by omega)]
  simp only [Option.bind_some, if_true]
  rw [if_pos (by decide), h2 m (by omega)]
  simp only [Option.bind_some, if_true]
  rw [h3 m (by omega)]
  simp only [Option.bind_some, if_true]
  rw [if_pos (by decide), h4 m (by omega)]
  simp only [Option.bind_some, if_true]
  rw [h5 m (by omega)]
  rfl
theorem names_loop {X : List Int} (hX : Bytes X) (hn : X.length ≤ 100000) (hend : ∃ K, ∀ k, K ≤ k → sallyportlaw09_SegNames.l0 k X (X.length : Int) 80 1024 1 0 2 512 = some true) : ∀ (d i : Nat), i + d = X.length → ∃ K, ∀ k, K ≤ k → sallyportlaw09_SegNames.l0 k X (i : Int) 80 1024 1 0 2 512 = some true := by
  intro d
  induction d with
  | zero =>
    intro i hi
    obtain rfl : i = X.length := by omega
    exact hend
  | succ d ih =>
    intro i hi
    obtain ⟨K0, h0⟩ := ih (i + 1) (by omega)
    have b := rd_byte hX (i : Int)
    have x16 := xor8_range (x := rd X (i : Int)) (y := 16) b.1 b.2 (by omega) (by omega)
    obtain ⟨K1, h1⟩ := names_reads (l := X.set i (Go.bits .xor .u8 (rd X (i : Int)) 16)) (bytes_set hX i x16.1 x16.2) (by rw [List.length_set]; omega)
    obtain ⟨K2, h2⟩ := names_reads (l := X.take i) (bytes_take hX i) (by rw [List.length_take]; omega)
    obtain ⟨K3, h3⟩ := names_reads (l := X ++ X.take i) (bytes_append hX (bytes_take hX i)) (by rw [List.length_append, List.length_take]; omega)
    refine ⟨K0 + K1 + K2 + K3 + 1, fun k hk => ?_⟩
    obtain ⟨m, rfl⟩ : ∃ m, k = m + 1 := ⟨k - 1, by omega⟩
    have j := join_09 X (X.take i) (by rw [List.length_take]; omega)
    simp only [sallyportlaw09_SegNames.l0]
    rw [if_pos (by omega), copy_tells X (by omega)]
    simp only [Option.bind_some, Int.toNat_natCast]
    rw [if_pos (by omega), if_pos (by omega), h1 m (by omega)]
    simp only [Option.bind_some, if_true]
    rw [if_pos (by omega), h2 m (by omega)]
    simp only [Option.bind_some, if_true]
    rw [j]
    simp only [Option.bind_some]
    rw [h3 m (by omega)]
    simp only [Option.bind_some, if_true]
    rw [wrap_i64 (by omega) (by omega)]
    exact h0 m (by omega)
theorem namesLaw : sallyportlaw09_SegNames.Pure := by
  obtain ⟨K, h⟩ := names_loop (X := (segL ++ [1])) (bytes_append segL_bytes one_bytes) (by decide) names_end 21 0 (by decide)
  refine ⟨K, ?_⟩
  unfold sallyportlaw09_SegNames.f sallyportlaw09_usual.f
  simp only [Option.bind_some]
  rw [show ([0, 80, 4, 0, 0, 0, 0, 1, 0, 0, 0, 0, 80, 2, 2, 0, 168, 172, 0, 0] : List Int) = segL from rfl, join_09 segL [1] (by decide)]
  simp only [Option.bind_some]
  exact h K (Nat.le_refl _)
end Go.Proofs.Ytipdajgcepefgaa.M
