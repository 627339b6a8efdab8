/- The closed statement on the numbers and both ends of Net4 headers, out of the universal statements. -/
import Derived.Test.YtipdajgcepefgaaPx0
import Derived.Test.YtipdajgcepefgaaPx4
import Derived.Test.YtipdajgcepefgaaPx5
import Derived.Test.YtipdajgcepefgaaPx7
import Derived.Test.YtipdajgcepefgaaNet4Math
import Derived.Test.YtipdajgcepefgaaPx15
import Derived.Test.YtipdajgcepefgaaNet4Val
import Derived.Test.YtipdajgcepefgaaPx13
import Derived.Test.YtipdajgcepefgaaPx2
import Derived.Test.YtipdajgcepefgaaPx8
import Derived.Test.YtipdajgcepefgaaNet4Awake
import Derived.Test.YtipdajgcepefgaaPx16
import Derived.Test.YtipdajgcepefgaaPx11
import Derived.Test.YtipdajgcepefgaaPx17a
import Derived.Test.YtipdajgcepefgaaPx19
import Derived.Test.YtipdajgcepefgaaNet4BackLaw
namespace Go.Proofs.Ytipdajgcepefgaa.M
open Go Go.RowKit Go.Proofs.YtipdajgcepefgaaW.PrintWords Go.Proofs.Ytipdajgcepefgaa.P
set_option linter.unusedVariables false

theorem ref_bytes07 {h0 : Int} {h1 : Int} {h2 : Int} {h3 : Int} {h4 : Int} {h5 : Int} {h6 : Int} {h7 : Int} {h8 : Int} {h9 : Int} {h10 : Int} {h11 : Int} (w0 : 0 ≤ h0 ∧ h0 ≤ 255) (w1 : 0 ≤ h1 ∧ h1 ≤ 255) (w2 : 0 ≤ h2 ∧ h2 ≤ 255) (w3 : 0 ≤ h3 ∧ h3 ≤ 65535) (w4 : 0 ≤ h4 ∧ h4 ≤ 255) (w5 : 0 ≤ h5 ∧ h5 ≤ 255) (w6 : 0 ≤ h6 ∧ h6 ≤ 255) (w7 : 0 ≤ h7 ∧ h7 ≤ 255) (w8 : 0 ≤ h8 ∧ h8 ≤ 255) (w9 : 0 ≤ h9 ∧ h9 ≤ 255) (w10 : 0 ≤ h10 ∧ h10 ≤ 255) (w11 : 0 ≤ h11 ∧ h11 ≤ 255) (l : List Int) (k : Nat) (hk : 2060 ≤ k) : sallyportref07_Bytes.f k h0 h1 h2 h3 h4 h5 h6 h7 h8 h9 h10 h11 l = some (net4Bytes h0 h1 h2 h3 h4 h5 h6 h7 h8 h9 h10 h11 l) := by
  unfold sallyportref07_Bytes.f net4Bytes sallyportref07_Check.f
  simp only [Option.bind_some, if_true]
  by_cases h : l.length ≤ 2028
  · have hB := ahead_bytes w0 w1 w2 w3 w4 w5 w6 w7 w8 w9 w10 w11 l.length
    have hg := fls_range (S (net4_Bytes.ahead h0 h1 h2 h3 h4 h5 h6 h7 h8 h9 h10 h11 l.length))
    have n1 := number2_07 (v := 20 + (l.length : Int)) (by omega) (by omega) k (by omega)
    have n2 := number2_07 (v := h3) (by omega) (by omega) k (by omega)
    have hd := reffield_tells hB (by simp [net4_Bytes.ahead]) k (by simp [net4_Bytes.ahead]; omega)
    rw [show 65535 - oc (S (net4_Bytes.ahead h0 h1 h2 h3 h4 h5 h6 h7 h8 h9 h10 h11 l.length)) = fls (S (net4_Bytes.ahead h0 h1 h2 h3 h4 h5 h6 h7 h8 h9 h10 h11 l.length)) from rfl] at hd
    rw [if_pos h, if_pos h, wrap_i64 (x := h3) (by omega) (by omega), n1, n2]
    simp only [Option.bind_some, List.nil_append, List.cons_append, List.length_nil, List.length_cons, Nat.zero_add, Nat.reduceAdd]
    have t1 : Int.tdiv (fls (S (net4_Bytes.ahead h0 h1 h2 h3 h4 h5 h6 h7 h8 h9 h10 h11 l.length))) 256 = fls (S (net4_Bytes.ahead h0 h1 h2 h3 h4 h5 h6 h7 h8 h9 h10 h11 l.length)) / 256 := Int.tdiv_eq_ediv_of_nonneg hg.1
    have t2 : Int.tmod (fls (S (net4_Bytes.ahead h0 h1 h2 h3 h4 h5 h6 h7 h8 h9 h10 h11 l.length))) 256 = fls (S (net4_Bytes.ahead h0 h1 h2 h3 h4 h5 h6 h7 h8 h9 h10 h11 l.length)) % 256 := Int.tmod_eq_emod_of_nonneg hg.1
    generalize fls (S (net4_Bytes.ahead h0 h1 h2 h3 h4 h5 h6 h7 h8 h9 h10 h11 l.length)) = g at *
    unfold net4_Bytes.ahead at hd
    unfold net4_Bytes.bytes
    rw [if_pos (by decide), if_pos (by decide), if_pos trivial, hd]
    simp only [Option.bind_some]
    rw [wrap_i64 (x := g) (by omega) (by omega), t1, t2, wrap_i64 (x := g / 256) (by omega) (by omega)]
    simp
  · rw [if_neg h, if_neg h]
end Go.Proofs.Ytipdajgcepefgaa.M
namespace Go.Proofs.Ytipdajgcepefgaa.M
open Go Go.RowKit Go.Proofs.YtipdajgcepefgaaW.PrintWords Go.Proofs.Ytipdajgcepefgaa.P
set_option linter.unusedVariables false

theorem S_nought10 {l : List Int} (h : 20 ≤ l.length) : S (((l.take 20).set 10 0).set 11 0) = S (l.take 10) + S ((l.take 20).drop 12) := by
  obtain ⟨a0, a1, a2, a3, a4, a5, a6, a7, a8, a9, b0, b1, b2, b3, b4, b5, b6, b7, b8, b9, t, rfl⟩ := twenty h
  simp only [List.set_cons_succ, List.set_cons_zero, List.take_succ_cons, List.take_zero, List.drop_succ_cons, List.drop_zero, S]
  omega
theorem ref_read07 {l : List Int} (hl : Bytes l) (hn : l.length < 140737488355328) (k : Nat) (hk : 40 ≤ k) : sallyportref07_Read.f k l = some (net4Read l) := by
  unfold sallyportref07_Read.f net4Read
  by_cases h : (l.length : Int) < 20
  · rw [if_pos h, if_pos h]
  · have a := fun i => rd_byte hl i
    have a4 := a 4; have a5 := a 5
    rw [if_neg h, if_neg h]
    by_cases h0 : rd l 0 = 69
    · rw [if_pos h0]
      by_cases h6 : rd l 6 = 0
      · rw [if_pos h6]
        by_cases h7 : rd l 7 = 0
        · rw [if_pos h7]
          have v2 := value2_07 hl 2 (by omega) (Nat.le_of_lt hn) k (by omega)
          have v4 := value2_07 hl 4 (by omega) (Nat.le_of_lt hn) k (by omega)
          have v10 := value2_07 hl 10 (by omega) (Nat.le_of_lt hn) k (by omega)
          simp only [Int.cast_ofNat_Int, Int.reduceAdd] at v2 v4 v10
          rw [v2]
          simp only [Option.bind_some]
          by_cases h2 : rd l 2 * 256 + rd l 3 = (l.length : Int)
          · have hB : Bytes (((l.take 20).set 10 0).set 11 0) := bytes_set (bytes_set (bytes_take hl 20) 10 (by omega) (by omega)) 11 (by omega) (by omega)
            have hf := reffield_tells hB (by rw [List.length_set, List.length_set, List.length_take]; omega) k (by rw [List.length_set, List.length_set, List.length_take]; omega)
            rw [S_nought10 (by omega), show 65535 - oc (S (l.take 10) + S ((l.take 20).drop 12)) = fls (S (l.take 10) + S ((l.take 20).drop 12)) from rfl] at hf
            have hg := fls_range (S (l.take 10) + S ((l.take 20).drop 12))
            rw [if_pos h2, if_pos ⟨h0, h6, h7, h2⟩, v10]
            simp only [Option.bind_some]
            rw [hf]
            simp only [Option.bind_some]
            rw [wrap_i64 (x := fls _) (by omega) (by omega)]
            by_cases h1 : rd l 10 * 256 + rd l 11 = fls (S (l.take 10) + S ((l.take 20).drop 12))
            · rw [if_pos h1, if_pos h1, v4]
              simp only [Option.bind_some]
              rw [wrap_u16 (by omega) (by omega)]
            · rw [if_neg h1, if_neg h1]
          · rw [if_neg h2, if_neg (fun e => h2 e.2.2.2)]
        · rw [if_neg h7, if_neg (fun e => h7 e.2.2.1)]
      · rw [if_neg h6, if_neg (fun e => h6 e.2.1)]
    · rw [if_neg h0, if_neg (fun e => h0 e.1)]
end Go.Proofs.Ytipdajgcepefgaa.M
namespace Go.Proofs.Ytipdajgcepefgaa.M
open Go Go.RowKit Go.Proofs.YtipdajgcepefgaaW.PrintWords Go.Proofs.Ytipdajgcepefgaa.P
set_option linter.unusedVariables false

theorem net4Bytes_loop (x1 x5 x8 x10 : List Int) (K : Nat) (e8 : sallyportref00_EqBytes.f K x8 x10 = some true) (e5 : sallyportref00_EqBytes.f K x5 x1 = some true) (hk : 2060 ≤ K) : ∀ (d : Nat) (i : Nat) (x6 : List Int), i + d = x6.length → x6.length ≤ 140737488355328 → ∀ k, K + 1 + d = k →
    sallyportlaw07_Net4Bytes.l0 k x1 x5 x6 x8 x10 (i : Int) = some true := by
  intro d
  induction d with
  | zero =>
    intro i x6 hi hn k hk'
    obtain rfl : k = K + 1 := by omega
    simp only [sallyportlaw07_Net4Bytes.l0]
    rw [if_neg (by omega), e8]
    simp only [Option.bind_some, if_true]
    rw [e5]
    simp only [Option.bind_some, if_true]
    rw [awake_net4 K hk]
    rfl
  | succ d ih =>
    intro i x6 hi hn k hk'
    obtain rfl : k = (K + 1 + d) + 1 := by omega
    simp only [sallyportlaw07_Net4Bytes.l0]
    rw [if_pos (by omega), if_pos (by omega), wrap_i64 (by omega) (by omega)]
    exact ih (i + 1) _ (by rw [List.length_set]; omega) (by rw [List.length_set]; exact hn) _ rfl
theorem net4BytesLaw : sallyportlaw07_Net4Bytes.Pure := by
  intro h0 h1 h2 h3 h4 h5 h6 h7 h8 h9 h10 h11 l w0 w1 w2 w3 w4 w5 w6 w7 w8 w9 w10 w11 _ hn _
  have w0 := u8_of_wf w0
  have w1 := u8_of_wf w1
  have w2 := u8_of_wf w2
  have w3 := u16_of_wf w3
  have w4 := u8_of_wf w4
  have w5 := u8_of_wf w5
  have w6 := u8_of_wf w6
  have w7 := u8_of_wf w7
  have w8 := u8_of_wf w8
  have w9 := u8_of_wf w9
  have w10 := u8_of_wf w10
  have w11 := u8_of_wf w11
  have hn' : l.length < 140737488355328 := by omega
  obtain ⟨K, hK⟩ : ∃ K, l.length + 3000 ≤ K := ⟨_, Nat.le_refl _⟩
  have hL := net4Bytes_len h0 h1 h2 h3 h4 h5 h6 h7 h8 h9 h10 h11 l
  have e0 := eq_self (net4Bytes h0 h1 h2 h3 h4 h5 h6 h7 h8 h9 h10 h11 l).1 (by omega) K (by omega)
  have e1 := eq_self l (Nat.le_of_lt hn') K (by omega)
  obtain ⟨K2, hK2⟩ : ∃ K2, K2 = K + 1 + (net4Bytes h0 h1 h2 h3 h4 h5 h6 h7 h8 h9 h10 h11 l).1.length := ⟨_, rfl⟩
  have lp := net4Bytes_loop l l (net4Bytes h0 h1 h2 h3 h4 h5 h6 h7 h8 h9 h10 h11 l).1 (net4Bytes h0 h1 h2 h3 h4 h5 h6 h7 h8 h9 h10 h11 l).1 K e0 e1 (by omega) (net4Bytes h0 h1 h2 h3 h4 h5 h6 h7 h8 h9 h10 h11 l).1.length 0 (net4Bytes h0 h1 h2 h3 h4 h5 h6 h7 h8 h9 h10 h11 l).1 (by omega) (by omega) K2 hK2.symm
  have f0 := eq_self (net4Bytes h0 h1 h2 h3 h4 h5 h6 h7 h8 h9 h10 h11 l).1 (by omega) K2 (by omega)
  have f1 := eq_self l (Nat.le_of_lt hn') K2 (by omega)
  refine ⟨K2, ?_⟩
  unfold sallyportlaw07_Net4Bytes.f net4_Size.f sallyportref07_Size.f net4_Check.f sallyportref07_Check.f
  simp only [copy_tells l hn', net4_bytes w0 w1 w2 w3 w4 w5 w6 w7 w8 w9 w10 w11 l K2 (by omega), ref_bytes07 w0 w1 w2 w3 w4 w5 w6 w7 w8 w9 w10 w11 l K2 (by omega), f0, f1, Option.bind_some, if_true]
  exact lp
end Go.Proofs.Ytipdajgcepefgaa.M
namespace Go.Proofs.Ytipdajgcepefgaa.M
open Go Go.RowKit Go.Proofs.YtipdajgcepefgaaW.PrintWords Go.Proofs.Ytipdajgcepefgaa.P
set_option linter.unusedVariables false

theorem net4ReadsLaw : sallyportlaw07_Net4Reads.Pure := by
  intro l _ hn hwf
  have hl := bytes_of_wf hwf
  have hn' : l.length < 140737488355328 := by omega
  obtain ⟨K, hK⟩ : ∃ K, l.length + 3000 ≤ K := ⟨_, Nat.le_refl _⟩
  refine ⟨K, ?_⟩
  unfold sallyportlaw07_Net4Reads.f
  simp only [copy_tells l hn', net4_read hl (Nat.le_of_lt hn') K (by omega), ref_read07 hl hn' K (by omega), eq_self l (Nat.le_of_lt hn') K (by omega), awake_net4 K (by omega), Option.bind_some, if_true, beq_self_eq_true, Bool.and_self]
end Go.Proofs.Ytipdajgcepefgaa.M
namespace Go.Proofs.Ytipdajgcepefgaa.M
open Go Go.RowKit Go.Proofs.YtipdajgcepefgaaW.PrintWords Go.Proofs.Ytipdajgcepefgaa.P
set_option linter.unusedVariables false

theorem up_le {α : Type} {G : Nat → Option α} (hm : ∀ k, LeO (G k) (G (k + 1))) {r : α} {k : Nat} (e : G k = some r) : ∀ d, G (k + d) = some r
  | 0 => e
  | d + 1 => hm (k + d) r (up_le hm e d)
theorem up_to {α : Type} {G : Nat → Option α} (hm : ∀ k, LeO (G k) (G (k + 1))) {r : α} {k : Nat} (e : G k = some r) (m : Nat) (h : k ≤ m) : G m = some r := by
  have := up_le hm e (m - k)
  rwa [show k + (m - k) = m from by omega] at this
theorem wf_of_bytes {l : List Int} (h : Bytes l) : ∀ x ∈ l, (Lit.int .u8 x).wf = true := by
  intro x hx
  have := h x hx
  simp only [Lit.wf, Bool.and_eq_true, decide_eq_true_eq]
  exact this
theorem noughts_bytes (n : Nat) : Bytes (List.replicate n 0) := by
  intro x hx
  have := List.eq_of_mem_replicate hx
  omega
theorem names_reads {l : List Int} (hl : Bytes l) (hn : l.length ≤ 1000000) : ∃ K, ∀ k, K ≤ k → sallyportlaw07_Net4Reads.f k l = some true := by
  obtain ⟨K, hK⟩ := net4ReadsLaw l (by unfold maxLen; omega) (by omega) (wf_of_bytes hl)
  exact ⟨K, fun k h => up_to (G := fun k => sallyportlaw07_Net4Reads.f k l) (sallyportlaw07_Net4Reads.mono l) hK k h⟩
theorem names_bytes {l : List Int} (hl : Bytes l) (hn : l.length ≤ 1000000) : (∃ K, ∀ k, K ≤ k → sallyportlaw07_Net4Bytes.f k 0 64 17 1 10 0 0 1 10 0 0 2 l = some true) ∧ (∃ K, ∀ k, K ≤ k → sallyportlaw07_Net4Bytes.f k 0 0 0 0 0 0 0 0 0 0 0 0 l = some true) := by
  refine ⟨?_, ?_⟩
  · obtain ⟨K, hK⟩ := net4BytesLaw 0 64 17 1 10 0 0 1 10 0 0 2 l (by decide) (by decide) (by decide) (by decide) (by decide) (by decide) (by decide) (by decide) (by decide) (by decide) (by decide) (by decide) (by unfold maxLen; omega) (by omega) (wf_of_bytes hl)
    exact ⟨K, fun k h => up_to (G := fun k => sallyportlaw07_Net4Bytes.f k 0 64 17 1 10 0 0 1 10 0 0 2 l) (sallyportlaw07_Net4Bytes.mono 0 64 17 1 10 0 0 1 10 0 0 2 l) hK k h⟩
  · obtain ⟨K, hK⟩ := net4BytesLaw 0 0 0 0 0 0 0 0 0 0 0 0 l (by decide) (by decide) (by decide) (by decide) (by decide) (by decide) (by decide) (by decide) (by decide) (by decide) (by decide) (by decide) (by unfold maxLen; omega) (by omega) (wf_of_bytes hl)
    exact ⟨K, fun k h => up_to (G := fun k => sallyportlaw07_Net4Bytes.f k 0 0 0 0 0 0 0 0 0 0 0 0 l) (sallyportlaw07_Net4Bytes.mono 0 0 0 0 0 0 0 0 0 0 0 0 l) hK k h⟩
theorem names_back {l : List Int} (hl : Bytes l) (hn : l.length ≤ 1000000) : ∃ K, ∀ k, K ≤ k → sallyportlaw07_Net4Back.f k 0 64 17 1 10 0 0 1 10 0 0 2 l [] = some true := by
  obtain ⟨K, hK⟩ := net4BackLaw 0 64 17 1 10 0 0 1 10 0 0 2 l [] (by decide) (by decide) (by decide) (by decide) (by decide) (by decide) (by decide) (by decide) (by decide) (by decide) (by decide) (by decide) (by unfold maxLen; omega) (by omega) (wf_of_bytes hl) (by unfold maxLen; simp) (by simp) (wf_of_bytes bytes_nil)
  exact ⟨K, fun k h => up_to (G := fun k => sallyportlaw07_Net4Back.f k 0 64 17 1 10 0 0 1 10 0 0 2 l []) (sallyportlaw07_Net4Back.mono 0 64 17 1 10 0 0 1 10 0 0 2 l []) hK k h⟩
theorem names_end : ∃ K, ∀ k, K ≤ k → sallyportlaw07_Net4Names.l0 k (net4L ++ (List.replicate 8 0)) (((net4L ++ (List.replicate 8 0)).length : Nat) : Int) 0 64 17 1 10 0 0 1 10 0 0 2 = some true := by
  have hB := fun n => noughts_bytes n
  obtain ⟨K1, h1⟩ := (names_bytes (hB 2028) (by rw [List.length_replicate]; omega)).1
  obtain ⟨K2, h2⟩ := (names_bytes (hB 2029) (by rw [List.length_replicate]; omega)).1
  obtain ⟨K3, h3⟩ := (names_bytes bytes_nil (by simp)).2
  obtain ⟨K4, h4⟩ := names_reads (hB 70000) (by rw [List.length_replicate]; omega)
  obtain ⟨K5, h5⟩ := names_back (hB 2028) (by rw [List.length_replicate]; omega)
  refine ⟨K1 + K2 + K3 + K4 + K5 + 3000, fun k hk => ?_⟩
  obtain ⟨m, rfl⟩ : ∃ m, k = m + 1 := ⟨k - 1, by omega⟩
  simp only [sallyportlaw07_Net4Names.l0]
  rw [if_neg (by omega)]
  rw [awake_net4 m (by omega)]
  simp only [Option.bind_some, if_true]
  rw [if_pos (by decide), h1 m (by omega)]
  simp only [Option.bind_some, if_true]
  rw [if_pos (by decide), h2 m (by omega)]
  simp only [Option.bind_some, if_true]
  rw [h3 m (by omega)]
  simp only [Option.bind_some, if_true]
  rw [if_pos (by decide), h4 m (by omega)]
  simp only [Option.bind_some, if_true]
  rw [h5 m (by omega)]
  rfl
theorem names_loop {X : List Int} (hX : Bytes X) (hn : X.length ≤ 100000) (hend : ∃ K, ∀ k, K ≤ k → sallyportlaw07_Net4Names.l0 k X (X.length : Int) 0 64 17 1 10 0 0 1 10 0 0 2 = some true) : ∀ (d i : Nat), i + d = X.length → ∃ K, ∀ k, K ≤ k → sallyportlaw07_Net4Names.l0 k X (i : Int) 0 64 17 1 10 0 0 1 10 0 0 2 = some true := by
  intro d
  induction d with
  | zero =>
    intro i hi
    obtain rfl : i = X.length := by omega
    exact hend
  | succ d ih =>
    intro i hi
    obtain ⟨K0, h0⟩ := ih (i + 1) (by omega)
    have b := rd_byte hX (i : Int)
    have x16 := xor8_range (x := rd X (i : Int)) (y := 16) b.1 b.2 (by omega) (by omega)
    obtain ⟨K1, h1⟩ := names_reads (l := X.set i (Go.bits .xor .u8 (rd X (i : Int)) 16)) (bytes_set hX i x16.1 x16.2) (by rw [List.length_set]; omega)
    obtain ⟨K2, h2⟩ := names_reads (l := X.take i) (bytes_take hX i) (by rw [List.length_take]; omega)
    obtain ⟨K3, h3⟩ := names_reads (l := X ++ X.take i) (bytes_append hX (bytes_take hX i)) (by rw [List.length_append, List.length_take]; omega)
    refine ⟨K0 + K1 + K2 + K3 + 1, fun k hk => ?_⟩
    obtain ⟨m, rfl⟩ : ∃ m, k = m + 1 := ⟨k - 1, by omega⟩
    have j := join_07 X (X.take i) (by rw [List.length_take]; omega)
    simp only [sallyportlaw07_Net4Names.l0]
    rw [if_pos (by omega), copy_tells X (by omega)]
    simp only [Option.bind_some, Int.toNat_natCast]
    rw [if_pos (by omega), if_pos (by omega), h1 m (by omega)]
    simp only [Option.bind_some, if_true]
    rw [if_pos (by omega), h2 m (by omega)]
    simp only [Option.bind_some, if_true]
    rw [j]
    simp only [Option.bind_some]
    rw [h3 m (by omega)]
    simp only [Option.bind_some, if_true]
    rw [wrap_i64 (by omega) (by omega)]
    exact h0 m (by omega)
theorem namesLaw : sallyportlaw07_Net4Names.Pure := by
  obtain ⟨K, h⟩ := names_loop (X := (net4L ++ (List.replicate 8 0))) (bytes_append net4L_bytes eight_bytes) (by decide) names_end 28 0 (by decide)
  refine ⟨K, ?_⟩
  unfold sallyportlaw07_Net4Names.f sallyportlaw07_usual.f
  rw [if_pos (by decide)]
  simp only [Option.bind_some]
  rw [show ([69, 0, 0, 28, 0, 1, 0, 0, 64, 17, 102, 206, 10, 0, 0, 1, 10, 0, 0, 2] : List Int) = net4L from rfl, join_07 net4L (List.replicate 8 0) (by decide)]
  simp only [Option.bind_some]
  exact h K (Nat.le_refl _)
end Go.Proofs.Ytipdajgcepefgaa.M
