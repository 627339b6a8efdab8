/- The statement on segs with one byte turned: true for every input. -/
import Derived.Test.YtipdajgcepefgaaPx0
import Derived.Test.YtipdajgcepefgaaPx17
import Derived.Test.YtipdajgcepefgaaSegRound
import Derived.Test.YtipdajgcepefgaaTurn
namespace Go.Proofs.Ytipdajgcepefgaa.M
open Go Go.RowKit Go.Proofs.YtipdajgcepefgaaW.PrintWords Go.Proofs.Ytipdajgcepefgaa.P
set_option linter.unusedVariables false

theorem fls_mod (n m : Int) (hn : 0 ≤ n) (hm : 0 ≤ m) (h : fls n = fls m) : (n - m) % 65535 = 0 := by
  have a := oc_mod n; have b := oc_mod m; have c := oc_range n; have d := oc_range m
  unfold fls at h
  omega
theorem seg_turned {p : List Int} (hp : Bytes p) (h : (segRead p).2.2.2.2.2.2 = 0) (k : Nat) (hk : k < p.length) {v : Int} (hv : 0 ≤ v ∧ v ≤ 255) (hne : v ≠ rd p (k : Int)) : ¬ (segRead (p.set k v)).2.2.2.2.2.2 = 0 := by
  have key : ∀ q : List Int, (segRead q).2.2.2.2.2.2 = 0 → 20 ≤ q.length ∧ rd q 16 * 256 + rd q 17 = fls (S ((q.set 16 0).set 17 0)) := by
    intro q hq
    unfold segRead at hq
    by_cases h1 : (q.length : Int) < 20
    · rw [if_pos h1] at hq; simp at hq
    · rw [if_neg h1] at hq
      by_cases h2 : rd q 12 = 80 ∧ rd q 13 < 64 ∧ rd q 18 = 0 ∧ rd q 19 = 0
      · rw [if_pos h2] at hq
        by_cases h3 : rd q 16 * 256 + rd q 17 = fls (S (q.take 16) + S (q.drop 18))
        · exact ⟨by omega, by rw [S_nought16 (by omega)]; exact h3⟩
        · rw [if_neg h3] at hq; simp at hq
      · rw [if_neg h2] at hq; simp at hq
  intro h'
  obtain ⟨l1, e1⟩ := key p h
  obtain ⟨l2, e2⟩ := key _ h'
  exact turned_sum hp fls fls_mod 16 k (by omega) hk hv hne e1 e2
theorem segTurnedLaw : sallyportlaw09_SegTurned.Pure := by
  intro a b c d e f l i j ha hb hc hd he hf _ hn hwf _ _
  have ha := u16_of_wf ha; have hb := u16_of_wf hb; have hc := u32_of_wf hc; have hd := u32_of_wf hd; have he := u8_of_wf he; have hf := u16_of_wf hf
  have hl := bytes_of_wf hwf
  obtain ⟨K, hK⟩ : ∃ K, l.length + 3000 ≤ K := ⟨_, Nat.le_refl _⟩
  refine ⟨K, ?_⟩
  unfold sallyportlaw09_SegTurned.f
  rw [awake_seg K (by omega)]
  simp only [Option.bind_some, if_true]
  rw [seg_bytes a b f hc hd he hl K (by omega)]
  simp only [Option.bind_some]
  by_cases h64 : e ≥ 64
  · have e2 : ¬ (segBytes a b c d e f l).2 = 0 := by unfold segBytes; rw [if_pos h64]; simp
    rw [if_neg e2]
  · by_cases h1 : l.length ≤ 2028
    · have e2 : (segBytes a b c d e f l).2 = 0 := by unfold segBytes; rw [if_neg h64, if_pos h1]
      have e3 : (segBytes a b c d e f l).1.length = 20 := by unfold segBytes; rw [if_neg h64, if_pos h1]; rfl
      have hP := bytes_append (segBytes_bytes a b c d f he l) hl
      have hR : (segRead ((segBytes a b c d e f l).1 ++ l)).2.2.2.2.2.2 = 0 := by rw [seg_round ha hb hc hd h64 hf h1]
      have hL : ((segBytes a b c d e f l).1 ++ l).length = 20 + l.length := by rw [List.length_append, e3]
      rw [if_pos e2, join_09 _ _ (by omega)]
      simp only [Option.bind_some]
      generalize (segBytes a b c d e f l).1 ++ l = p at hP hR hL ⊢
      obtain ⟨x, hx, x0, x1⟩ := bring_tells i (p.length : Int) (by omega) (by omega)
      obtain ⟨y, hy, y0, y1⟩ := bring_tells j 255 (by omega) (by omega)
      rw [hx]
      simp only [Option.bind_some]
      rw [hy]
      simp only [Option.bind_some]
      rw [wrap_i64 (x := 1 + y) (by omega) (by omega), Int.emod_eq_of_lt (a := 1 + y) (by omega) (by omega), if_pos x0, if_pos x1]
      obtain ⟨t0, t1⟩ := turned_byte (rd_byte hP x) (show 1 ≤ 1 + y ∧ 1 + y ≤ 255 by omega)
      have hT := seg_turned hP hR x.toNat (by omega) t0 (by rw [show ((x.toNat : Nat) : Int) = x by omega]; exact t1)
      rw [seg_read (bytes_set hP x.toNat t0.1 t0.2) (by rw [List.length_set]; omega) K (by rw [List.length_set]; omega)]
      simp only [Option.bind_some]
      rw [if_neg hT, segRead_err hT]
    · have e2 : ¬ (segBytes a b c d e f l).2 = 0 := by unfold segBytes; rw [if_neg h64, if_neg h1]; simp
      rw [if_neg e2]
end Go.Proofs.Ytipdajgcepefgaa.M
