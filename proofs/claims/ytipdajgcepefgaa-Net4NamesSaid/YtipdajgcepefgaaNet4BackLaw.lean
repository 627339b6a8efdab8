/- The stage's statement on net4 headers: true for every input. -/
import Derived.Test.YtipdajgcepefgaaPx0
import Derived.Test.YtipdajgcepefgaaPx17
import Derived.Test.YtipdajgcepefgaaPx17a
import Derived.Test.YtipdajgcepefgaaPx2
import Derived.Test.YtipdajgcepefgaaPx4
import Derived.Test.YtipdajgcepefgaaPx8
import Derived.Test.YtipdajgcepefgaaPx9
import Derived.Test.YtipdajgcepefgaaNet4Awake
namespace Go.Proofs.Ytipdajgcepefgaa.M
open Go Go.RowKit Go.Proofs.YtipdajgcepefgaaW.PrintWords Go.Proofs.Ytipdajgcepefgaa.P
set_option linter.unusedVariables false

theorem net4_round {h0 : Int} {h1 : Int} {h2 : Int} {h3 : Int} {h4 : Int} {h5 : Int} {h6 : Int} {h7 : Int} {h8 : Int} {h9 : Int} {h10 : Int} {h11 : Int} (w0 : 0 ≤ h0 ∧ h0 ≤ 255) (w1 : 0 ≤ h1 ∧ h1 ≤ 255) (w2 : 0 ≤ h2 ∧ h2 ≤ 255) (w3 : 0 ≤ h3 ∧ h3 ≤ 65535) (w4 : 0 ≤ h4 ∧ h4 ≤ 255) (w5 : 0 ≤ h5 ∧ h5 ≤ 255) (w6 : 0 ≤ h6 ∧ h6 ≤ 255) (w7 : 0 ≤ h7 ∧ h7 ≤ 255) (w8 : 0 ≤ h8 ∧ h8 ≤ 255) (w9 : 0 ≤ h9 ∧ h9 ≤ 255) (w10 : 0 ≤ h10 ∧ h10 ≤ 255) (w11 : 0 ≤ h11 ∧ h11 ≤ 255) {l : List Int} (h : l.length ≤ 2028) : net4Read ((net4Bytes h0 h1 h2 h3 h4 h5 h6 h7 h8 h9 h10 h11 l).1 ++ l) = (h0, h1, h2, h3, h4, h5, h6, h7, h8, h9, h10, h11, 0) := by
  have hg := fls_range (S (net4_Bytes.ahead h0 h1 h2 h3 h4 h5 h6 h7 h8 h9 h10 h11 l.length))
  unfold net4Bytes
  rw [if_pos h]
  generalize hG : fls (S (net4_Bytes.ahead h0 h1 h2 h3 h4 h5 h6 h7 h8 h9 h10 h11 l.length)) = g at hg ⊢
  generalize hX : net4_Bytes.bytes h0 h1 h2 h3 h4 h5 h6 h7 h8 h9 h10 h11 l.length g ++ l = X
  have x0 : rd X 0 = 69 := by rw [← hX]; rfl
  have x1 : rd X 1 = h0 := by rw [← hX]; rfl
  have x2 : rd X 2 = (20 + (l.length : Int)) / 256 % 256 := by rw [← hX]; rfl
  have x3 : rd X 3 = (20 + (l.length : Int)) % 256 := by rw [← hX]; rfl
  have x4 : rd X 4 = h3 / 256 % 256 := by rw [← hX]; rfl
  have x5 : rd X 5 = h3 % 256 := by rw [← hX]; rfl
  have x6 : rd X 6 = 0 := by rw [← hX]; rfl
  have x7 : rd X 7 = 0 := by rw [← hX]; rfl
  have x8 : rd X 8 = h1 := by rw [← hX]; rfl
  have x9 : rd X 9 = h2 := by rw [← hX]; rfl
  have x10 : rd X 10 = g / 256 % 256 := by rw [← hX]; rfl
  have x11 : rd X 11 = g % 256 := by rw [← hX]; rfl
  have x12 : rd X 12 = h4 := by rw [← hX]; rfl
  have x13 : rd X 13 = h5 := by rw [← hX]; rfl
  have x14 : rd X 14 = h6 := by rw [← hX]; rfl
  have x15 : rd X 15 = h7 := by rw [← hX]; rfl
  have x16 : rd X 16 = h8 := by rw [← hX]; rfl
  have x17 : rd X 17 = h9 := by rw [← hX]; rfl
  have x18 : rd X 18 = h10 := by rw [← hX]; rfl
  have x19 : rd X 19 = h11 := by rw [← hX]; rfl
  have xn : X.length = 20 + l.length := by rw [← hX]; simp [net4_Bytes.bytes]; omega
  have xs : S (X.take 10) + S ((X.take 20).drop 12) = S (net4_Bytes.ahead h0 h1 h2 h3 h4 h5 h6 h7 h8 h9 h10 h11 l.length) := by
    rw [← hX]
    simp only [net4_Bytes.bytes, net4_Bytes.ahead, List.cons_append, List.nil_append, List.take_succ_cons, List.take_zero, List.drop_succ_cons, List.drop_zero, S]
    omega
  unfold net4Read
  rw [x0, x1, x2, x3, x4, x5, x6, x7, x8, x9, x10, x11, x12, x13, x14, x15, x16, x17, x18, x19, xs, hG]
  rw [if_neg (by omega), if_pos (by omega), if_pos (by omega), show h3 / 256 % 256 * 256 + h3 % 256 = h3 by omega]
/-- What is read is written just so. -/
theorem net4_again {l : List Int} (hl : Bytes l) (hr : (net4Read l).2.2.2.2.2.2.2.2.2.2.2.2 = 0) (hn : l.length ≤ 2048) : 20 ≤ l.length ∧ net4Bytes (net4Read l).1 (net4Read l).2.1 (net4Read l).2.2.1 (net4Read l).2.2.2.1 (net4Read l).2.2.2.2.1 (net4Read l).2.2.2.2.2.1 (net4Read l).2.2.2.2.2.2.1 (net4Read l).2.2.2.2.2.2.2.1 (net4Read l).2.2.2.2.2.2.2.2.1 (net4Read l).2.2.2.2.2.2.2.2.2.1 (net4Read l).2.2.2.2.2.2.2.2.2.2.1 (net4Read l).2.2.2.2.2.2.2.2.2.2.2.1 (l.drop 20) = (l.take 20, 0) := by
  have h20 : 20 ≤ l.length := by
    rcases Nat.lt_or_ge l.length 20 with h | h
    · unfold net4Read at hr
      rw [if_pos (by omega)] at hr
      simp at hr
    · exact h
  refine ⟨h20, ?_⟩
  unfold net4Read at hr ⊢
  rw [if_neg (by omega)] at hr ⊢
  by_cases h1 : rd l 0 = 69 ∧ rd l 6 = 0 ∧ rd l 7 = 0 ∧ rd l 2 * 256 + rd l 3 = (l.length : Int)
  · rw [if_pos h1] at hr ⊢
    by_cases h2 : rd l 10 * 256 + rd l 11 = fls (S (l.take 10) + S ((l.take 20).drop 12))
    · rw [if_pos h2]
      have hd : (l.drop 20).length = l.length - 20 := List.length_drop
      obtain ⟨c0, c1, c2, c3, c4, c5, c6, c7, c8, c9, d0, d1, d2, d3, d4, d5, d6, d7, d8, d9, t, rfl⟩ := twenty h20
      have bb : ∀ x ∈ [c0, c1, c2, c3, c4, c5, c6, c7, c8, c9, d0, d1, d2, d3, d4, d5, d6, d7, d8, d9], 0 ≤ x ∧ x ≤ 255 := fun x hx => hl x (List.mem_append_left t hx)
      simp only [List.mem_cons, List.not_mem_nil, or_false, forall_eq_or_imp, forall_eq] at bb
      obtain ⟨b0, b1, b2, b3, b4, b5, b6, b7, b8, b9, b10, b11, b12, b13, b14, b15, b16, b17, b18, b19⟩ := bb
      have xs : S ((c0 :: c1 :: c2 :: c3 :: c4 :: c5 :: c6 :: c7 :: c8 :: c9 :: d0 :: d1 :: d2 :: d3 :: d4 :: d5 :: d6 :: d7 :: d8 :: d9 :: t).take 10) + S (((c0 :: c1 :: c2 :: c3 :: c4 :: c5 :: c6 :: c7 :: c8 :: c9 :: d0 :: d1 :: d2 :: d3 :: d4 :: d5 :: d6 :: d7 :: d8 :: d9 :: t).take 20).drop 12) = S [c0, c1, c2, c3, c4, c5, c6, c7, c8, c9, 0, 0, d2, d3, d4, d5, d6, d7, d8, d9] := by
        simp only [List.take_succ_cons, List.take_zero, List.drop_succ_cons, List.drop_zero, S]
        omega
      rw [xs] at h2
      generalize hX : (c0 :: c1 :: c2 :: c3 :: c4 :: c5 :: c6 :: c7 :: c8 :: c9 :: d0 :: d1 :: d2 :: d3 :: d4 :: d5 :: d6 :: d7 :: d8 :: d9 :: t) = X at *
      have x0 : rd X 0 = c0 := by rw [← hX]; rfl
      have x1 : rd X 1 = c1 := by rw [← hX]; rfl
      have x2 : rd X 2 = c2 := by rw [← hX]; rfl
      have x3 : rd X 3 = c3 := by rw [← hX]; rfl
      have x4 : rd X 4 = c4 := by rw [← hX]; rfl
      have x5 : rd X 5 = c5 := by rw [← hX]; rfl
      have x6 : rd X 6 = c6 := by rw [← hX]; rfl
      have x7 : rd X 7 = c7 := by rw [← hX]; rfl
      have x8 : rd X 8 = c8 := by rw [← hX]; rfl
      have x9 : rd X 9 = c9 := by rw [← hX]; rfl
      have x10 : rd X 10 = d0 := by rw [← hX]; rfl
      have x11 : rd X 11 = d1 := by rw [← hX]; rfl
      have x12 : rd X 12 = d2 := by rw [← hX]; rfl
      have x13 : rd X 13 = d3 := by rw [← hX]; rfl
      have x14 : rd X 14 = d4 := by rw [← hX]; rfl
      have x15 : rd X 15 = d5 := by rw [← hX]; rfl
      have x16 : rd X 16 = d6 := by rw [← hX]; rfl
      have x17 : rd X 17 = d7 := by rw [← hX]; rfl
      have x18 : rd X 18 = d8 := by rw [← hX]; rfl
      have x19 : rd X 19 = d9 := by rw [← hX]; rfl
      rw [x0, x6, x7, x2, x3] at h1
      obtain ⟨q0, q6, q7, q2⟩ := h1
      subst q0 q6 q7
      have xd2 : X.drop 20 = t := by rw [← hX]; rfl
      have xt2 : X.take 20 = [69, c1, c2, c3, c4, c5, 0, 0, c8, c9, d0, d1, d2, d3, d4, d5, d6, d7, d8, d9] := by rw [← hX]; rfl
      rw [x10, x11] at h2
      rw [xd2] at hd
      rw [x1, x8, x9, x4, x5, x12, x13, x14, x15, x16, x17, x18, x19, xd2, xt2]
      unfold net4Bytes
      simp only
      have hA : net4_Bytes.ahead c1 c8 c9 (c4 * 256 + c5) d2 d3 d4 d5 d6 d7 d8 d9 t.length = [69, c1, c2, c3, c4, c5, 0, 0, c8, c9, 0, 0, d2, d3, d4, d5, d6, d7, d8, d9] := by
        unfold net4_Bytes.ahead
        rw [show (20 + (t.length : Int)) / 256 % 256 = c2 by omega, show (20 + (t.length : Int)) % 256 = c3 by omega, show (c4 * 256 + c5) / 256 % 256 = c4 by omega, show (c4 * 256 + c5) % 256 = c5 by omega]
      rw [if_pos (by omega), hA, ← h2]
      unfold net4_Bytes.bytes
      rw [show (20 + (t.length : Int)) / 256 % 256 = c2 by omega, show (20 + (t.length : Int)) % 256 = c3 by omega, show (c4 * 256 + c5) / 256 % 256 = c4 by omega, show (c4 * 256 + c5) % 256 = c5 by omega, show (d0 * 256 + d1) / 256 % 256 = d0 by omega, show (d0 * 256 + d1) % 256 = d1 by omega]
    · rw [if_neg h2] at hr; simp at hr
  · rw [if_neg h1] at hr; simp at hr
theorem net4Read_err {l : List Int} (h : ¬ (net4Read l).2.2.2.2.2.2.2.2.2.2.2.2 = 0) : ((net4Read l).1 == 0 && ((net4Read l).2.1 == 0 && ((net4Read l).2.2.1 == 0 && ((net4Read l).2.2.2.1 == 0 && (((net4Read l).2.2.2.2.1 == 0 && ((net4Read l).2.2.2.2.2.1 == 0 && ((net4Read l).2.2.2.2.2.2.1 == 0 && ((net4Read l).2.2.2.2.2.2.2.1 == 0)))) && ((net4Read l).2.2.2.2.2.2.2.2.1 == 0 && ((net4Read l).2.2.2.2.2.2.2.2.2.1 == 0 && ((net4Read l).2.2.2.2.2.2.2.2.2.2.1 == 0 && ((net4Read l).2.2.2.2.2.2.2.2.2.2.2.1 == 0))))))))) = true := by
  unfold net4Read at h ⊢
  split
  · rfl
  · rename_i h1
    rw [if_neg h1] at h
    split
    · rename_i h2
      rw [if_pos h2] at h
      split
      · rename_i h3
        rw [if_pos h3] at h
        exact absurd rfl h
      · rfl
    · rfl
theorem net4Read_wf {l : List Int} (hl : Bytes l) : (0 ≤ (net4Read l).1 ∧ (net4Read l).1 ≤ 255) ∧ (0 ≤ (net4Read l).2.1 ∧ (net4Read l).2.1 ≤ 255) ∧ (0 ≤ (net4Read l).2.2.1 ∧ (net4Read l).2.2.1 ≤ 255) ∧ (0 ≤ (net4Read l).2.2.2.1 ∧ (net4Read l).2.2.2.1 ≤ 65535) ∧ (0 ≤ (net4Read l).2.2.2.2.1 ∧ (net4Read l).2.2.2.2.1 ≤ 255) ∧ (0 ≤ (net4Read l).2.2.2.2.2.1 ∧ (net4Read l).2.2.2.2.2.1 ≤ 255) ∧ (0 ≤ (net4Read l).2.2.2.2.2.2.1 ∧ (net4Read l).2.2.2.2.2.2.1 ≤ 255) ∧ (0 ≤ (net4Read l).2.2.2.2.2.2.2.1 ∧ (net4Read l).2.2.2.2.2.2.2.1 ≤ 255) ∧ (0 ≤ (net4Read l).2.2.2.2.2.2.2.2.1 ∧ (net4Read l).2.2.2.2.2.2.2.2.1 ≤ 255) ∧ (0 ≤ (net4Read l).2.2.2.2.2.2.2.2.2.1 ∧ (net4Read l).2.2.2.2.2.2.2.2.2.1 ≤ 255) ∧ (0 ≤ (net4Read l).2.2.2.2.2.2.2.2.2.2.1 ∧ (net4Read l).2.2.2.2.2.2.2.2.2.2.1 ≤ 255) ∧ (0 ≤ (net4Read l).2.2.2.2.2.2.2.2.2.2.2.1 ∧ (net4Read l).2.2.2.2.2.2.2.2.2.2.2.1 ≤ 255) := by
  have a := fun i => rd_byte hl i
  have a4 := a 4; have a5 := a 5
  unfold net4Read
  split
  · simp
  · split
    · split
      · simp only
        exact ⟨a 1, a 8, a 9, by omega, a 12, a 13, a 14, a 15, a 16, a 17, a 18, a 19⟩
      · simp
    · simp
theorem net4Bytes_bytes {h0 : Int} {h1 : Int} {h2 : Int} {h3 : Int} {h4 : Int} {h5 : Int} {h6 : Int} {h7 : Int} {h8 : Int} {h9 : Int} {h10 : Int} {h11 : Int} (w0 : 0 ≤ h0 ∧ h0 ≤ 255) (w1 : 0 ≤ h1 ∧ h1 ≤ 255) (w2 : 0 ≤ h2 ∧ h2 ≤ 255) (w3 : 0 ≤ h3 ∧ h3 ≤ 65535) (w4 : 0 ≤ h4 ∧ h4 ≤ 255) (w5 : 0 ≤ h5 ∧ h5 ≤ 255) (w6 : 0 ≤ h6 ∧ h6 ≤ 255) (w7 : 0 ≤ h7 ∧ h7 ≤ 255) (w8 : 0 ≤ h8 ∧ h8 ≤ 255) (w9 : 0 ≤ h9 ∧ h9 ≤ 255) (w10 : 0 ≤ h10 ∧ h10 ≤ 255) (w11 : 0 ≤ h11 ∧ h11 ≤ 255) (l : List Int) : Bytes (net4Bytes h0 h1 h2 h3 h4 h5 h6 h7 h8 h9 h10 h11 l).1 := by
  unfold net4Bytes
  split
  · exact behind_bytes w0 w1 w2 w3 w4 w5 w6 w7 w8 w9 w10 w11 _ _
  · exact bytes_nil
theorem net4BackLaw : sallyportlaw07_Net4Back.Pure := by
  intro h0 h1 h2 h3 h4 h5 h6 h7 h8 h9 h10 h11 l q w0 w1 w2 w3 w4 w5 w6 w7 w8 w9 w10 w11 _ hn hwf _ hn2 hwf2
  have w0 := u8_of_wf w0
  have w1 := u8_of_wf w1
  have w2 := u8_of_wf w2
  have w3 := u16_of_wf w3
  have w4 := u8_of_wf w4
  have w5 := u8_of_wf w5
  have w6 := u8_of_wf w6
  have w7 := u8_of_wf w7
  have w8 := u8_of_wf w8
  have w9 := u8_of_wf w9
  have w10 := u8_of_wf w10
  have w11 := u8_of_wf w11
  have hl := bytes_of_wf hwf; have hq := bytes_of_wf hwf2
  obtain ⟨K, hK⟩ : ∃ K, l.length + q.length + 3000 ≤ K := ⟨_, Nat.le_refl _⟩
  refine ⟨K, ?_⟩
  have he2 := eq_self (q.take 20) (by rw [List.length_take]; omega) K (by rw [List.length_take]; omega)
  have hrq := net4_read hq (by omega) K (by omega)
  obtain ⟨v0, v1, v2, v3, v4, v5, v6, v7, v8, v9, v10, v11⟩ := net4Read_wf hq
  have hbd : net4_Bytes.f K (net4Read q).1 (net4Read q).2.1 (net4Read q).2.2.1 (net4Read q).2.2.2.1 (net4Read q).2.2.2.2.1 (net4Read q).2.2.2.2.2.1 (net4Read q).2.2.2.2.2.2.1 (net4Read q).2.2.2.2.2.2.2.1 (net4Read q).2.2.2.2.2.2.2.2.1 (net4Read q).2.2.2.2.2.2.2.2.2.1 (net4Read q).2.2.2.2.2.2.2.2.2.2.1 (net4Read q).2.2.2.2.2.2.2.2.2.2.2.1 (q.drop 20) = some (net4Bytes (net4Read q).1 (net4Read q).2.1 (net4Read q).2.2.1 (net4Read q).2.2.2.1 (net4Read q).2.2.2.2.1 (net4Read q).2.2.2.2.2.1 (net4Read q).2.2.2.2.2.2.1 (net4Read q).2.2.2.2.2.2.2.1 (net4Read q).2.2.2.2.2.2.2.2.1 (net4Read q).2.2.2.2.2.2.2.2.2.1 (net4Read q).2.2.2.2.2.2.2.2.2.2.1 (net4Read q).2.2.2.2.2.2.2.2.2.2.2.1 (q.drop 20)) := net4_bytes v0 v1 v2 v3 v4 v5 v6 v7 v8 v9 v10 v11 (q.drop 20) K (by omega)
  clear v0 v1 v2 v3 v4 v5 v6 v7 v8 v9 v10 v11
  have hag := net4_again hq
  have her := net4Read_err (l := q)
  have e4 : net4_Check.f h0 h1 h2 h3 h4 h5 h6 h7 h8 h9 h10 h11 = some 0 := rfl
  unfold sallyportlaw07_Net4Back.f
  rw [awake_net4 K (by omega), e4]
  simp only [Option.bind_some, if_true]
  rw [net4_bytes w0 w1 w2 w3 w4 w5 w6 w7 w8 w9 w10 w11 l K (by omega)]
  have hrd : ∀ h : l.length ≤ 2028, net4_Read.f K ((net4Bytes h0 h1 h2 h3 h4 h5 h6 h7 h8 h9 h10 h11 l).1 ++ l) = some (h0, h1, h2, h3, h4, h5, h6, h7, h8, h9, h10, h11, 0) := fun h => by
    rw [net4_read (bytes_append (net4Bytes_bytes w0 w1 w2 w3 w4 w5 w6 w7 w8 w9 w10 w11 l) hl) (by rw [List.length_append]; have := net4Bytes_len h0 h1 h2 h3 h4 h5 h6 h7 h8 h9 h10 h11 l; omega) K (by omega), net4_round w0 w1 w2 w3 w4 w5 w6 w7 w8 w9 w10 w11 h]
  have hj := fun h : l.length ≤ 2028 => join_07 (net4Bytes h0 h1 h2 h3 h4 h5 h6 h7 h8 h9 h10 h11 l).1 l (by have := net4Bytes_len h0 h1 h2 h3 h4 h5 h6 h7 h8 h9 h10 h11 l; omega)
  have e5 : (net4Bytes h0 h1 h2 h3 h4 h5 h6 h7 h8 h9 h10 h11 l).2 = if l.length ≤ 2028 then 0 else 5 := by unfold net4Bytes; split <;> rfl
  have e6 : ∀ h : l.length ≤ 2028, ((net4Bytes h0 h1 h2 h3 h4 h5 h6 h7 h8 h9 h10 h11 l).1.length : Int) = 20 := fun h => by unfold net4Bytes; rw [if_pos h]; rfl
  simp only [Option.bind_some, hrq, hbd, e5]
  clear hrq hbd e5 hK
  generalize net4Read q = Q at *
  have last : (if Q.2.2.2.2.2.2.2.2.2.2.2.2 = 0 then (if (q.length : Int) > 2048 then (some true) else (if 20 ≤ (q.length : Int) then (if (net4Bytes Q.1 Q.2.1 Q.2.2.1 Q.2.2.2.1 Q.2.2.2.2.1 Q.2.2.2.2.2.1 Q.2.2.2.2.2.2.1 Q.2.2.2.2.2.2.2.1 Q.2.2.2.2.2.2.2.2.1 Q.2.2.2.2.2.2.2.2.2.1 Q.2.2.2.2.2.2.2.2.2.2.1 Q.2.2.2.2.2.2.2.2.2.2.2.1 (q.drop 20)).2 = 0 then ((sallyportref00_EqBytes.f K (net4Bytes Q.1 Q.2.1 Q.2.2.1 Q.2.2.2.1 Q.2.2.2.2.1 Q.2.2.2.2.2.1 Q.2.2.2.2.2.2.1 Q.2.2.2.2.2.2.2.1 Q.2.2.2.2.2.2.2.2.1 Q.2.2.2.2.2.2.2.2.2.1 Q.2.2.2.2.2.2.2.2.2.2.1 Q.2.2.2.2.2.2.2.2.2.2.2.1 (q.drop 20)).1 (q.take 20)).bind fun t => (some t)) else (some false)) else (none))) else (some (Q.1 == 0 && (Q.2.1 == 0 && (Q.2.2.1 == 0 && (Q.2.2.2.1 == 0 && ((Q.2.2.2.2.1 == 0 && (Q.2.2.2.2.2.1 == 0 && (Q.2.2.2.2.2.2.1 == 0 && (Q.2.2.2.2.2.2.2.1 == 0)))) && (Q.2.2.2.2.2.2.2.2.1 == 0 && (Q.2.2.2.2.2.2.2.2.2.1 == 0 && (Q.2.2.2.2.2.2.2.2.2.2.1 == 0 && (Q.2.2.2.2.2.2.2.2.2.2.2.1 == 0))))))))))) = some true := by
    by_cases h : Q.2.2.2.2.2.2.2.2.2.2.2.2 = 0
    · rw [if_pos h]
      by_cases hm : (q.length : Int) > 2048
      · rw [if_pos hm]
      · obtain ⟨h8, hg⟩ := hag h (by omega)
        rw [if_neg hm, if_pos (by omega), hg]
        simp only [if_true]
        rw [he2]; rfl
    · rw [if_neg h, her h]
  by_cases hm : l.length ≤ 2028
  · rw [if_pos hm, if_pos rfl, hj hm]
    simp only [Option.bind_some]
    rw [hrd hm]
    simp only [Option.bind_some]
    rw [if_pos (e6 hm)]
    simp only [if_true]
    rw [if_neg (by simp)]
    exact last
  · rw [if_neg hm, if_neg (by omega), if_neg (by omega)]
    exact last
end Go.Proofs.Ytipdajgcepefgaa.M
