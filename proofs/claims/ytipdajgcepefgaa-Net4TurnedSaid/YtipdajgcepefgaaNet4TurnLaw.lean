/- The statement on net4 headers with one byte turned: true for every input. -/
import Derived.Test.YtipdajgcepefgaaPx0
import Derived.Test.YtipdajgcepefgaaPx18
import Derived.Test.YtipdajgcepefgaaNet4Round
import Derived.Test.YtipdajgcepefgaaTurn
namespace Go.Proofs.Ytipdajgcepefgaa.M
open Go Go.RowKit Go.Proofs.YtipdajgcepefgaaW.PrintWords Go.Proofs.Ytipdajgcepefgaa.P
set_option linter.unusedVariables false

theorem fls_mod (n m : Int) (hn : 0 ≤ n) (hm : 0 ≤ m) (h : fls n = fls m) : (n - m) % 65535 = 0 := by
  have a := oc_mod n; have b := oc_mod m; have c := oc_range n; have d := oc_range m
  unfold fls at h
  omega
theorem S_nought10 {l : List Int} (h : 20 ≤ l.length) : S (((l.take 20).set 10 0).set 11 0) = S (l.take 10) + S ((l.take 20).drop 12) := by
  obtain ⟨a0, a1, a2, a3, a4, a5, a6, a7, a8, a9, b0, b1, b2, b3, b4, b5, b6, b7, b8, b9, t, rfl⟩ := twenty h
  simp only [List.set_cons_succ, List.set_cons_zero, List.take_succ_cons, List.take_zero, List.drop_succ_cons, List.drop_zero, S]
  omega
theorem net4_turned {p : List Int} (hp : Bytes p) (h : (net4Read p).2.2.2.2.2.2.2.2.2.2.2.2 = 0) (k : Nat) (hk : k < 20) {v : Int} (hv : 0 ≤ v ∧ v ≤ 255) (hne : v ≠ rd p (k : Int)) : ¬ (net4Read (p.set k v)).2.2.2.2.2.2.2.2.2.2.2.2 = 0 := by
  have key : ∀ q : List Int, (net4Read q).2.2.2.2.2.2.2.2.2.2.2.2 = 0 → 20 ≤ q.length ∧ rd (q.take 20) 10 * 256 + rd (q.take 20) 11 = fls (S (((q.take 20).set 10 0).set 11 0)) := by
    intro q hq
    unfold net4Read at hq
    by_cases h1 : (q.length : Int) < 20
    · rw [if_pos h1] at hq; simp at hq
    · rw [if_neg h1] at hq
      by_cases h2 : rd q 0 = 69 ∧ rd q 6 = 0 ∧ rd q 7 = 0 ∧ rd q 2 * 256 + rd q 3 = (q.length : Int)
      · rw [if_pos h2] at hq
        by_cases h3 : rd q 10 * 256 + rd q 11 = fls (S (q.take 10) + S ((q.take 20).drop 12))
        · have r0 := rd_take q (n := 20) (i := 10) (by omega); have r1 := rd_take q (n := 20) (i := 11) (by omega)
          simp only [Int.cast_ofNat_Int] at r0 r1
          exact ⟨by omega, by rw [S_nought10 (by omega), r0, r1]; exact h3⟩
        · rw [if_neg h3] at hq; simp at hq
      · rw [if_neg h2] at hq; simp at hq
  intro h'
  obtain ⟨l1, e1⟩ := key p h
  obtain ⟨l2, e2⟩ := key _ h'
  have ht : (p.set k v).take 20 = (p.take 20).set k v := List.take_set
  rw [ht] at e2
  have hlen : (p.take 20).length = 20 := by rw [List.length_take]; omega
  exact turned_sum (bytes_take hp 20) fls fls_mod 10 k (by omega) (by omega) hv (by rw [rd_take p hk]; exact hne) e1 e2
theorem net4TurnedLaw : sallyportlaw07_Net4Turned.Pure := by
  intro h0 h1 h2 h3 h4 h5 h6 h7 h8 h9 h10 h11 l i j w0 w1 w2 w3 w4 w5 w6 w7 w8 w9 w10 w11 _ hn hwf _ _
  have w0 := u8_of_wf w0
  have w1 := u8_of_wf w1
  have w2 := u8_of_wf w2
  have w3 := u16_of_wf w3
  have w4 := u8_of_wf w4
  have w5 := u8_of_wf w5
  have w6 := u8_of_wf w6
  have w7 := u8_of_wf w7
  have w8 := u8_of_wf w8
  have w9 := u8_of_wf w9
  have w10 := u8_of_wf w10
  have w11 := u8_of_wf w11
  have hl := bytes_of_wf hwf
  obtain ⟨K, hK⟩ : ∃ K, l.length + 3000 ≤ K := ⟨_, Nat.le_refl _⟩
  refine ⟨K, ?_⟩
  unfold sallyportlaw07_Net4Turned.f
  rw [awake_net4 K (by omega)]
  simp only [Option.bind_some, if_true]
  rw [net4_bytes w0 w1 w2 w3 w4 w5 w6 w7 w8 w9 w10 w11 l K (by omega)]
  simp only [Option.bind_some]
  by_cases hm : l.length ≤ 2028
  · have e2 : (net4Bytes h0 h1 h2 h3 h4 h5 h6 h7 h8 h9 h10 h11 l).2 = 0 := by unfold net4Bytes; rw [if_pos hm]
    have e3 : (net4Bytes h0 h1 h2 h3 h4 h5 h6 h7 h8 h9 h10 h11 l).1.length = 20 := by unfold net4Bytes; rw [if_pos hm]; rfl
    have hP := bytes_append (net4Bytes_bytes w0 w1 w2 w3 w4 w5 w6 w7 w8 w9 w10 w11 l) hl
    have hR : (net4Read ((net4Bytes h0 h1 h2 h3 h4 h5 h6 h7 h8 h9 h10 h11 l).1 ++ l)).2.2.2.2.2.2.2.2.2.2.2.2 = 0 := by rw [net4_round w0 w1 w2 w3 w4 w5 w6 w7 w8 w9 w10 w11 hm]
    have hL : ((net4Bytes h0 h1 h2 h3 h4 h5 h6 h7 h8 h9 h10 h11 l).1 ++ l).length = 20 + l.length := by rw [List.length_append, e3]
    rw [if_pos e2, join_07 _ _ (by omega)]
    simp only [Option.bind_some]
    generalize (net4Bytes h0 h1 h2 h3 h4 h5 h6 h7 h8 h9 h10 h11 l).1 ++ l = p at hP hR hL ⊢
    obtain ⟨x, hx, x0, x1⟩ := bring_tells i 20 (by omega) (by omega)
    obtain ⟨y, hy, y0, y1⟩ := bring_tells j 255 (by omega) (by omega)
    rw [hx]
    simp only [Option.bind_some]
    rw [hy]
    simp only [Option.bind_some]
    rw [wrap_i64 (x := 1 + y) (by omega) (by omega), Int.emod_eq_of_lt (a := 1 + y) (by omega) (by omega), if_pos x0, if_pos (by omega)]
    obtain ⟨t0, t1⟩ := turned_byte (rd_byte hP x) (show 1 ≤ 1 + y ∧ 1 + y ≤ 255 by omega)
    have hT := net4_turned hP hR x.toNat (by omega) t0 (by rw [show ((x.toNat : Nat) : Int) = x by omega]; exact t1)
    rw [net4_read (bytes_set hP x.toNat t0.1 t0.2) (by rw [List.length_set]; omega) K (by omega)]
    simp only [Option.bind_some]
    rw [if_neg hT, net4Read_err hT]
  · have e2 : ¬ (net4Bytes h0 h1 h2 h3 h4 h5 h6 h7 h8 h9 h10 h11 l).2 = 0 := by unfold net4Bytes; rw [if_neg hm]; simp
    rw [if_neg e2]
end Go.Proofs.Ytipdajgcepefgaa.M
