/- What is written and read again, of segs: true for every input. -/
import Derived.Test.YtipdajgcepefgaaPx0
import Derived.Test.YtipdajgcepefgaaSegAwake
namespace Go.Proofs.Ytipdajgcepefgaa.M
open Go Go.RowKit Go.Proofs.YtipdajgcepefgaaW.PrintWords Go.Proofs.Ytipdajgcepefgaa.P

/-! SegBack -/
theorem rd_at_app (h t : List Int) (i : Nat) (hi : i < h.length) : rd (h ++ t) (i : Int) = rd h (i : Int) := rd_append_left hi
theorem seg_round {a b c d e f : Int} (ha : 0 ≤ a ∧ a ≤ 65535) (hb : 0 ≤ b ∧ b ≤ 65535) (hc : 0 ≤ c ∧ c ≤ 4294967295) (hd : 0 ≤ d ∧ d ≤ 4294967295) (he : ¬ e ≥ 64) (hf : 0 ≤ f ∧ f ≤ 65535) {l : List Int} (h : l.length ≤ 2028) : segRead ((segBytes a b c d e f l).1 ++ l) = (a, b, c, d, e, f, 0) := by
  have hg := fls_range (S (segHead a b c d e f) + S l)
  unfold segBytes
  rw [if_neg he, if_pos h]
  generalize hG : fls (S (segHead a b c d e f) + S l) = g at hg ⊢
  generalize hX : segHead a b c d e f ++ [g / 256 % 256, g % 256, 0, 0] ++ l = X
  have x0 : rd X 0 = a / 256 % 256 := by rw [← hX]; rfl
  have x1 : rd X 1 = a % 256 := by rw [← hX]; rfl
  have x2 : rd X 2 = b / 256 % 256 := by rw [← hX]; rfl
  have x3 : rd X 3 = b % 256 := by rw [← hX]; rfl
  have x4 : rd X 4 = c / 256 / 256 / 256 % 256 := by rw [← hX]; rfl
  have x5 : rd X 5 = c / 256 / 256 % 256 := by rw [← hX]; rfl
  have x6 : rd X 6 = c / 256 % 256 := by rw [← hX]; rfl
  have x7 : rd X 7 = c % 256 := by rw [← hX]; rfl
  have x8 : rd X 8 = d / 256 / 256 / 256 % 256 := by rw [← hX]; rfl
  have x9 : rd X 9 = d / 256 / 256 % 256 := by rw [← hX]; rfl
  have x10 : rd X 10 = d / 256 % 256 := by rw [← hX]; rfl
  have x11 : rd X 11 = d % 256 := by rw [← hX]; rfl
  have x12 : rd X 12 = 80 := by rw [← hX]; rfl
  have x13 : rd X 13 = e := by rw [← hX]; rfl
  have x14 : rd X 14 = f / 256 % 256 := by rw [← hX]; rfl
  have x15 : rd X 15 = f % 256 := by rw [← hX]; rfl
  have x16 : rd X 16 = g / 256 % 256 := by rw [← hX]; rfl
  have x17 : rd X 17 = g % 256 := by rw [← hX]; rfl
  have x18 : rd X 18 = 0 := by rw [← hX]; rfl
  have x19 : rd X 19 = 0 := by rw [← hX]; rfl
  have xt : X.take 16 = segHead a b c d e f := by rw [← hX]; rfl
  have xd : X.drop 18 = 0 :: 0 :: l := by rw [← hX]; rfl
  have xn : X.length = 20 + l.length := by rw [← hX]; simp [segHead]; omega
  have xs : S (0 :: 0 :: l) = S l := by simp [S]
  unfold segRead
  rw [x0, x1, x2, x3, x4, x5, x6, x7, x8, x9, x10, x11, x12, x13, x14, x15, x16, x17, x18, x19, xt, xd, xs, hG]
  rw [if_neg (by omega), if_pos (by omega), if_pos (by omega), show a / 256 % 256 * 256 + a % 256 = a by omega, show b / 256 % 256 * 256 + b % 256 = b by omega, show f / 256 % 256 * 256 + f % 256 = f by omega, show ((c / 256 / 256 / 256 % 256 * 256 + c / 256 / 256 % 256) * 256 + c / 256 % 256) * 256 + c % 256 = c by omega, show ((d / 256 / 256 / 256 % 256 * 256 + d / 256 / 256 % 256) * 256 + d / 256 % 256) * 256 + d % 256 = d by omega]
/-- What is read is written just so. -/
theorem seg_again {l : List Int} (hl : Bytes l) (hr : (segRead l).2.2.2.2.2.2 = 0) (hn : l.length ≤ 2048) : 20 ≤ l.length ∧ segBytes (segRead l).1 (segRead l).2.1 (segRead l).2.2.1 (segRead l).2.2.2.1 (segRead l).2.2.2.2.1 (segRead l).2.2.2.2.2.1 (l.drop 20) = (l.take 20, 0) := by
  have h20 : 20 ≤ l.length := by
    rcases Nat.lt_or_ge l.length 20 with h | h
    · unfold segRead at hr
      rw [if_pos (by omega)] at hr
      simp at hr
    · exact h
  refine ⟨h20, ?_⟩
  unfold segRead at hr ⊢
  rw [if_neg (by omega)] at hr ⊢
  by_cases h1 : rd l 12 = 80 ∧ rd l 13 < 64 ∧ rd l 18 = 0 ∧ rd l 19 = 0
  · rw [if_pos h1] at hr ⊢
    by_cases h2 : rd l 16 * 256 + rd l 17 = fls (S (l.take 16) + S (l.drop 18))
    · rw [if_pos h2]
      have hd : (l.drop 20).length = l.length - 20 := List.length_drop
      obtain ⟨c0, c1, c2, c3, c4, c5, c6, c7, c8, c9, d0, d1, d2, d3, d4, d5, d6, d7, d8, d9, t, rfl⟩ := twenty h20
      have bb : ∀ x ∈ [c0, c1, c2, c3, c4, c5, c6, c7, c8, c9, d0, d1, d2, d3, d4, d5, d6, d7, d8, d9], 0 ≤ x ∧ x ≤ 255 := fun x hx => hl x (List.mem_append_left t hx)
      simp only [List.mem_cons, List.not_mem_nil, or_false, forall_eq_or_imp, forall_eq] at bb
      obtain ⟨b0, b1, b2, b3, b4, b5, b6, b7, b8, b9, e0, e1, e2, e3, e4, e5, e6, e7, e8, e9⟩ := bb
      generalize hX : (c0 :: c1 :: c2 :: c3 :: c4 :: c5 :: c6 :: c7 :: c8 :: c9 :: d0 :: d1 :: d2 :: d3 :: d4 :: d5 :: d6 :: d7 :: d8 :: d9 :: t) = X at *
      have x0 : rd X 0 = c0 := by rw [← hX]; rfl
      have x1 : rd X 1 = c1 := by rw [← hX]; rfl
      have x2 : rd X 2 = c2 := by rw [← hX]; rfl
      have x3 : rd X 3 = c3 := by rw [← hX]; rfl
      have x4 : rd X 4 = c4 := by rw [← hX]; rfl
      have x5 : rd X 5 = c5 := by rw [← hX]; rfl
      have x6 : rd X 6 = c6 := by rw [← hX]; rfl
      have x7 : rd X 7 = c7 := by rw [← hX]; rfl
      have x8 : rd X 8 = c8 := by rw [← hX]; rfl
      have x9 : rd X 9 = c9 := by rw [← hX]; rfl
      have x10 : rd X 10 = d0 := by rw [← hX]; rfl
      have x11 : rd X 11 = d1 := by rw [← hX]; rfl
      have x12 : rd X 12 = d2 := by rw [← hX]; rfl
      have x13 : rd X 13 = d3 := by rw [← hX]; rfl
      have x14 : rd X 14 = d4 := by rw [← hX]; rfl
      have x15 : rd X 15 = d5 := by rw [← hX]; rfl
      have x16 : rd X 16 = d6 := by rw [← hX]; rfl
      have x17 : rd X 17 = d7 := by rw [← hX]; rfl
      have x18 : rd X 18 = d8 := by rw [← hX]; rfl
      have x19 : rd X 19 = d9 := by rw [← hX]; rfl
      rw [x12, x13, x18, x19] at h1
      obtain ⟨q12, q13, q18, q19⟩ := h1
      subst q12 q18 q19
      have xt : X.take 16 = [c0, c1, c2, c3, c4, c5, c6, c7, c8, c9, d0, d1, 80, d3, d4, d5] := by rw [← hX]; rfl
      have xd : X.drop 18 = 0 :: 0 :: t := by rw [← hX]; rfl
      have xd2 : X.drop 20 = t := by rw [← hX]; rfl
      have xt2 : X.take 20 = [c0, c1, c2, c3, c4, c5, c6, c7, c8, c9, d0, d1, 80, d3, d4, d5, d6, d7, 0, 0] := by rw [← hX]; rfl
      have xs : S (0 :: 0 :: t) = S t := by simp [S]
      rw [x16, x17, xt, xd, xs] at h2
      rw [xd2] at hd
      rw [x0, x1, x2, x3, x4, x5, x6, x7, x8, x9, x10, x11, x13, x14, x15, xd2, xt2]
      have hH : segHead (c0 * 256 + c1) (c2 * 256 + c3) (((c4 * 256 + c5) * 256 + c6) * 256 + c7) (((c8 * 256 + c9) * 256 + d0) * 256 + d1) d3 (d4 * 256 + d5) = [c0, c1, c2, c3, c4, c5, c6, c7, c8, c9, d0, d1, 80, d3, d4, d5] := by
        unfold segHead
        rw [show (c0 * 256 + c1) / 256 % 256 = c0 by omega, show (c0 * 256 + c1) % 256 = c1 by omega, show (c2 * 256 + c3) / 256 % 256 = c2 by omega, show (c2 * 256 + c3) % 256 = c3 by omega, show (d4 * 256 + d5) / 256 % 256 = d4 by omega, show (d4 * 256 + d5) % 256 = d5 by omega,
          show (((c4 * 256 + c5) * 256 + c6) * 256 + c7) / 256 / 256 / 256 % 256 = c4 by omega, show (((c4 * 256 + c5) * 256 + c6) * 256 + c7) / 256 / 256 % 256 = c5 by omega, show (((c4 * 256 + c5) * 256 + c6) * 256 + c7) / 256 % 256 = c6 by omega, show (((c4 * 256 + c5) * 256 + c6) * 256 + c7) % 256 = c7 by omega,
          show (((c8 * 256 + c9) * 256 + d0) * 256 + d1) / 256 / 256 / 256 % 256 = c8 by omega, show (((c8 * 256 + c9) * 256 + d0) * 256 + d1) / 256 / 256 % 256 = c9 by omega, show (((c8 * 256 + c9) * 256 + d0) * 256 + d1) / 256 % 256 = d0 by omega, show (((c8 * 256 + c9) * 256 + d0) * 256 + d1) % 256 = d1 by omega]
      unfold segBytes
      simp only
      rw [if_neg (by omega), if_pos (by omega), hH, ← h2, show (d6 * 256 + d7) / 256 % 256 = d6 by omega, show (d6 * 256 + d7) % 256 = d7 by omega]
      rfl
    · rw [if_neg h2] at hr; simp at hr
  · rw [if_neg h1] at hr; simp at hr
theorem segRead_err {l : List Int} (h : ¬ (segRead l).2.2.2.2.2.2 = 0) : ((segRead l).1 == 0 && ((segRead l).2.1 == 0 && ((segRead l).2.2.1 == 0 && ((segRead l).2.2.2.1 == 0 && ((segRead l).2.2.2.2.1 == 0 && ((segRead l).2.2.2.2.2.1 == 0)))))) = true := by
  unfold segRead at h ⊢
  split
  · rfl
  · rename_i h1
    rw [if_neg h1] at h
    split
    · rename_i h2
      rw [if_pos h2] at h
      split
      · rename_i h3
        rw [if_pos h3] at h
        exact absurd rfl h
      · rfl
    · rfl
theorem segRead_wf {l : List Int} (hl : Bytes l) : (0 ≤ (segRead l).2.2.1 ∧ (segRead l).2.2.1 ≤ 4294967295) ∧ (0 ≤ (segRead l).2.2.2.1 ∧ (segRead l).2.2.2.1 ≤ 4294967295) ∧ (0 ≤ (segRead l).2.2.2.2.1 ∧ (segRead l).2.2.2.2.1 ≤ 255) := by
  have a := fun i => rd_byte hl i
  have a4 := a 4; have a5 := a 5; have a6 := a 6; have a7 := a 7; have a8 := a 8; have a9 := a 9; have a10 := a 10; have a11 := a 11; have a13 := a 13
  unfold segRead
  split
  · simp
  · split
    · split
      · refine ⟨?_, ?_, ?_⟩ <;> simp only <;> omega
      · simp
    · simp
theorem segBytes_bytes (a b c d : Int) {e : Int} (f : Int) (he : 0 ≤ e ∧ e ≤ 255) (l : List Int) : Bytes (segBytes a b c d e f l).1 := by
  unfold segBytes
  split
  · exact bytes_nil
  · split
    · exact bytes_append (head_bytes a b c d he.1 he.2 f) (bytes_cons (by omega) (by omega) (bytes_cons (by omega) (by omega) (bytes_cons (by omega) (by omega) (bytes_cons (by omega) (by omega) bytes_nil))))
    · exact bytes_nil
end Go.Proofs.Ytipdajgcepefgaa.M
