/- The statement on a net4 header's bytes: true for every input. -/
import Derived.Test.YtipdajgcepefgaaPx0
import Derived.Test.YtipdajgcepefgaaPx13
import Derived.Test.YtipdajgcepefgaaPx2
import Derived.Test.YtipdajgcepefgaaPx5
import Derived.Test.YtipdajgcepefgaaPx7
import Derived.Test.YtipdajgcepefgaaPx8
import Derived.Test.YtipdajgcepefgaaNet4Awake
import Derived.Test.YtipdajgcepefgaaNet4RefB
namespace Go.Proofs.Ytipdajgcepefgaa.M
open Go Go.RowKit Go.Proofs.YtipdajgcepefgaaW.PrintWords Go.Proofs.Ytipdajgcepefgaa.P
set_option linter.unusedVariables false

theorem net4Bytes_loop (x1 x5 x8 x10 : List Int) (K : Nat) (e8 : sallyportref00_EqBytes.f K x8 x10 = some true) (e5 : sallyportref00_EqBytes.f K x5 x1 = some true) (hk : 2060 ≤ K) : ∀ (d : Nat) (i : Nat) (x6 : List Int), i + d = x6.length → x6.length ≤ 140737488355328 → ∀ k, K + 1 + d = k →
    sallyportlaw07_Net4Bytes.l0 k x1 x5 x6 x8 x10 (i : Int) = some true := by
  intro d
  induction d with
  | zero =>
    intro i x6 hi hn k hk'
    obtain rfl : k = K + 1 := by omega
    simp only [sallyportlaw07_Net4Bytes.l0]
    rw [if_neg (by omega), e8]
    simp only [Option.bind_some, if_true]
    rw [e5]
    simp only [Option.bind_some, if_true]
    rw [awake_net4 K hk]
    rfl
  | succ d ih =>
    intro i x6 hi hn k hk'
    obtain rfl : k = (K + 1 + d) + 1 := by omega
    simp only [sallyportlaw07_Net4Bytes.l0]
    rw [if_pos (by omega), if_pos (by omega), wrap_i64 (by omega) (by omega)]
    exact ih (i + 1) _ (by rw [List.length_set]; omega) (by rw [List.length_set]; exact hn) _ rfl
theorem net4BytesLaw : sallyportlaw07_Net4Bytes.Pure := by
  intro h0 h1 h2 h3 h4 h5 h6 h7 h8 h9 h10 h11 l w0 w1 w2 w3 w4 w5 w6 w7 w8 w9 w10 w11 _ hn _
  have w0 := u8_of_wf w0
  have w1 := u8_of_wf w1
  have w2 := u8_of_wf w2
  have w3 := u16_of_wf w3
  have w4 := u8_of_wf w4
  have w5 := u8_of_wf w5
  have w6 := u8_of_wf w6
  have w7 := u8_of_wf w7
  have w8 := u8_of_wf w8
  have w9 := u8_of_wf w9
  have w10 := u8_of_wf w10
  have w11 := u8_of_wf w11
  have hn' : l.length < 140737488355328 := by omega
  obtain ⟨K, hK⟩ : ∃ K, l.length + 3000 ≤ K := ⟨_, Nat.le_refl _⟩
  have hL := net4Bytes_len h0 h1 h2 h3 h4 h5 h6 h7 h8 h9 h10 h11 l
  have e0 := eq_self (net4Bytes h0 h1 h2 h3 h4 h5 h6 h7 h8 h9 h10 h11 l).1 (by omega) K (by omega)
  have e1 := eq_self l (Nat.le_of_lt hn') K (by omega)
  obtain ⟨K2, hK2⟩ : ∃ K2, K2 = K + 1 + (net4Bytes h0 h1 h2 h3 h4 h5 h6 h7 h8 h9 h10 h11 l).1.length := ⟨_, rfl⟩
  have lp := net4Bytes_loop l l (net4Bytes h0 h1 h2 h3 h4 h5 h6 h7 h8 h9 h10 h11 l).1 (net4Bytes h0 h1 h2 h3 h4 h5 h6 h7 h8 h9 h10 h11 l).1 K e0 e1 (by omega) (net4Bytes h0 h1 h2 h3 h4 h5 h6 h7 h8 h9 h10 h11 l).1.length 0 (net4Bytes h0 h1 h2 h3 h4 h5 h6 h7 h8 h9 h10 h11 l).1 (by omega) (by omega) K2 hK2.symm
  have f0 := eq_self (net4Bytes h0 h1 h2 h3 h4 h5 h6 h7 h8 h9 h10 h11 l).1 (by omega) K2 (by omega)
  have f1 := eq_self l (Nat.le_of_lt hn') K2 (by omega)
  refine ⟨K2, ?_⟩
  unfold sallyportlaw07_Net4Bytes.f net4_Size.f sallyportref07_Size.f net4_Check.f sallyportref07_Check.f
  simp only [copy_tells l hn', net4_bytes w0 w1 w2 w3 w4 w5 w6 w7 w8 w9 w10 w11 l K2 (by omega), ref_bytes07 w0 w1 w2 w3 w4 w5 w6 w7 w8 w9 w10 w11 l K2 (by omega), f0, f1, Option.bind_some, if_true]
  exact lp
end Go.Proofs.Ytipdajgcepefgaa.M
