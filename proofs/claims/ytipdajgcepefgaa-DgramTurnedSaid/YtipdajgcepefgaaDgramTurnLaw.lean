/- The statement on dgrams with one byte turned: true for every input. -/
import Derived.Test.YtipdajgcepefgaaPx0
import Derived.Test.YtipdajgcepefgaaPx19
import Derived.Test.YtipdajgcepefgaaDgramLaws
import Derived.Test.YtipdajgcepefgaaTurn
namespace Go.Proofs.Ytipdajgcepefgaa.M
open Go Go.RowKit Go.Proofs.YtipdajgcepefgaaW.PrintWords Go.Proofs.Ytipdajgcepefgaa.P
set_option linter.unusedVariables false

theorem fld_mod (n m : Int) (hn : 0 ≤ n) (hm : 0 ≤ m) (h : fld n = fld m) : (n - m) % 65535 = 0 := by
  have a := oc_mod n; have b := oc_mod m; have c := oc_range n; have d := oc_range m
  unfold fld at h
  split at h <;> split at h <;> omega
theorem dgram_turned {p : List Int} (hp : Bytes p) (h : (dgramRead p).2.2 = 0) (k : Nat) (hk : k < p.length) {v : Int} (hv : 0 ≤ v ∧ v ≤ 255) (hne : v ≠ rd p (k : Int)) : ¬ (dgramRead (p.set k v)).2.2 = 0 := by
  have key : ∀ q : List Int, (dgramRead q).2.2 = 0 → 8 ≤ q.length ∧ rd q 6 * 256 + rd q 7 = fld (S ((q.set 6 0).set 7 0)) := by
    intro q hq
    unfold dgramRead at hq
    by_cases h1 : (q.length : Int) < 8
    · rw [if_pos h1] at hq; simp at hq
    · rw [if_neg h1] at hq
      by_cases h2 : rd q 4 * 256 + rd q 5 = (q.length : Int)
      · rw [if_pos h2] at hq
        by_cases h3 : rd q 6 * 256 + rd q 7 = fld (S (q.take 6) + S (q.drop 8))
        · exact ⟨by omega, by rw [S_nought (by omega)]; exact h3⟩
        · rw [if_neg h3] at hq; simp at hq
      · rw [if_neg h2] at hq; simp at hq
  intro h'
  obtain ⟨l1, e1⟩ := key p h
  obtain ⟨l2, e2⟩ := key _ h'
  exact turned_sum hp fld fld_mod 6 k (by omega) hk hv hne e1 e2
theorem dgramTurnedLaw : sallyportlaw10_DgramTurned.Pure := by
  intro a b l i j ha hb _ hn hwf _ _
  have ha := u16_of_wf ha; have hb := u16_of_wf hb
  have hl := bytes_of_wf hwf
  obtain ⟨K, hK⟩ : ∃ K, l.length + 3000 ≤ K := ⟨_, Nat.le_refl _⟩
  refine ⟨K, ?_⟩
  unfold sallyportlaw10_DgramTurned.f
  rw [awake_dgram K (by omega)]
  simp only [Option.bind_some, if_true]
  rw [dgram_bytes a b hl K (by omega)]
  simp only [Option.bind_some]
  by_cases h1 : l.length ≤ 2040
  · have e2 : (dgramBytes a b l).2 = 0 := by unfold dgramBytes; rw [if_pos h1]
    have e3 : (dgramBytes a b l).1.length = 8 := by unfold dgramBytes; rw [if_pos h1]; rfl
    have hP := bytes_append (dgramBytes_bytes a b l) hl
    have hR : (dgramRead ((dgramBytes a b l).1 ++ l)).2.2 = 0 := by rw [dgram_round ha hb h1]
    have hL : ((dgramBytes a b l).1 ++ l).length = 8 + l.length := by rw [List.length_append, e3]
    rw [if_pos e2, join_10 _ _ (by omega)]
    simp only [Option.bind_some]
    generalize (dgramBytes a b l).1 ++ l = p at hP hR hL ⊢
    obtain ⟨x, hx, x0, x1⟩ := bring_tells i (p.length : Int) (by omega) (by omega)
    obtain ⟨y, hy, y0, y1⟩ := bring_tells j 255 (by omega) (by omega)
    rw [hx]
    simp only [Option.bind_some]
    rw [hy]
    simp only [Option.bind_some]
    rw [wrap_i64 (x := 1 + y) (by omega) (by omega), Int.emod_eq_of_lt (a := 1 + y) (by omega) (by omega), if_pos x0, if_pos x1]
    obtain ⟨t0, t1⟩ := turned_byte (rd_byte hP x) (show 1 ≤ 1 + y ∧ 1 + y ≤ 255 by omega)
    have hT := dgram_turned hP hR x.toNat (by omega) t0 (by rw [show ((x.toNat : Nat) : Int) = x by omega]; exact t1)
    rw [dgram_read (bytes_set hP x.toNat t0.1 t0.2) (by rw [List.length_set]; omega) K (by rw [List.length_set]; omega)]
    simp only [Option.bind_some]
    rw [if_neg hT, dgramRead_err hT]
  · have e2 : ¬ (dgramBytes a b l).2 = 0 := by unfold dgramBytes; rw [if_neg h1]; simp
    rw [if_neg e2]
end Go.Proofs.Ytipdajgcepefgaa.M
