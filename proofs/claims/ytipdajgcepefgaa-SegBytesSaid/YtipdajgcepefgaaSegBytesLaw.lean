/- The statement on a seg's bytes: true for every input. -/
import Derived.Test.YtipdajgcepefgaaPx0
import Derived.Test.YtipdajgcepefgaaPx12
import Derived.Test.YtipdajgcepefgaaPx2
import Derived.Test.YtipdajgcepefgaaPx6
import Derived.Test.YtipdajgcepefgaaPx8
import Derived.Test.YtipdajgcepefgaaPx9
import Derived.Test.YtipdajgcepefgaaSegAwake
import Derived.Test.YtipdajgcepefgaaSegRefB
namespace Go.Proofs.Ytipdajgcepefgaa.M
open Go Go.RowKit Go.Proofs.YtipdajgcepefgaaW.PrintWords Go.Proofs.Ytipdajgcepefgaa.P

/-! SegBytes -/
theorem segBytes_loop (x1 x5 x8 x10 : List Int) (K : Nat) (h8 : sallyportref00_EqBytes.f K x8 x10 = some true) (h5 : sallyportref00_EqBytes.f K x5 x1 = some true) (hk : 2060 ≤ K) : ∀ (d : Nat) (i : Nat) (x6 : List Int), i + d = x6.length → x6.length ≤ 140737488355328 → ∀ k, K + 1 + d = k →
    sallyportlaw09_SegBytes.l0 k x1 x5 x6 x8 x10 (i : Int) = some true := by
  intro d
  induction d with
  | zero =>
    intro i x6 hi hn k hk'
    obtain rfl : k = K + 1 := by omega
    simp only [sallyportlaw09_SegBytes.l0]
    rw [if_neg (by omega), h8]
    simp only [Option.bind_some, if_true]
    rw [h5]
    simp only [Option.bind_some, if_true]
    rw [awake_seg K hk]
    rfl
  | succ d ih =>
    intro i x6 hi hn k hk'
    obtain rfl : k = (K + 1 + d) + 1 := by omega
    simp only [sallyportlaw09_SegBytes.l0]
    rw [if_pos (by omega), if_pos (by omega), wrap_i64 (by omega) (by omega)]
    exact ih (i + 1) _ (by rw [List.length_set]; omega) (by rw [List.length_set]; exact hn) _ rfl
theorem segBytesLaw : sallyportlaw09_SegBytes.Pure := by
  intro a b c d e f l ha hb hc hd he hf _ hn hwf
  have ha := u16_of_wf ha; have hb := u16_of_wf hb; have hc := u32_of_wf hc; have hd := u32_of_wf hd; have he := u8_of_wf he; have hf := u16_of_wf hf
  have hl := bytes_of_wf hwf
  have hn' : l.length < 140737488355328 := by omega
  obtain ⟨K, hK⟩ : ∃ K, l.length + 3000 ≤ K := ⟨_, Nat.le_refl _⟩
  have hL := segBytes_len a b c d e f l
  have e0 := eq_self (segBytes a b c d e f l).1 (by omega) K (by omega)
  have e1 := eq_self l (Nat.le_of_lt hn') K (by omega)
  obtain ⟨K2, hK2⟩ : ∃ K2, K2 = K + 1 + (segBytes a b c d e f l).1.length := ⟨_, rfl⟩
  have lp := segBytes_loop l l (segBytes a b c d e f l).1 (segBytes a b c d e f l).1 K e0 e1 (by omega) (segBytes a b c d e f l).1.length 0 (segBytes a b c d e f l).1 (by omega) (by omega) K2 hK2.symm
  have f0 := eq_self (segBytes a b c d e f l).1 (by omega) K2 (by omega)
  have f1 := eq_self l (Nat.le_of_lt hn') K2 (by omega)
  have ck : seg_Check.f a b c d e f = sallyportref09_Check.f a b c d e f := rfl
  refine ⟨K2, ?_⟩
  unfold sallyportlaw09_SegBytes.f seg_Size.f sallyportref09_Size.f
  rw [ck]
  obtain ⟨t, ht⟩ : ∃ t, sallyportref09_Check.f a b c d e f = some t := by
    unfold sallyportref09_Check.f
    split
    · exact ⟨_, rfl⟩
    · exact ⟨_, rfl⟩
  simp only [ht, copy_tells l hn', seg_bytes a b f hc hd he hl K2 (by omega), ref_bytes09 ha hb hc hd he hf hl K2 (by omega), f0, f1, Option.bind_some, if_true]
  exact lp

end Go.Proofs.Ytipdajgcepefgaa.M
