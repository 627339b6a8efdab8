/- What the document's reading of a net4 header tells. -/
import Derived.Test.YtipdajgcepefgaaPx0
import Derived.Test.YtipdajgcepefgaaPx15
import Derived.Test.YtipdajgcepefgaaNet4Math
import Derived.Test.YtipdajgcepefgaaNet4Val
namespace Go.Proofs.Ytipdajgcepefgaa.M
open Go Go.RowKit Go.Proofs.YtipdajgcepefgaaW.PrintWords Go.Proofs.Ytipdajgcepefgaa.P
set_option linter.unusedVariables false

theorem S_nought10 {l : List Int} (h : 20 ≤ l.length) : S (((l.take 20).set 10 0).set 11 0) = S (l.take 10) + S ((l.take 20).drop 12) := by
  obtain ⟨a0, a1, a2, a3, a4, a5, a6, a7, a8, a9, b0, b1, b2, b3, b4, b5, b6, b7, b8, b9, t, rfl⟩ := twenty h
  simp only [List.set_cons_succ, List.set_cons_zero, List.take_succ_cons, List.take_zero, List.drop_succ_cons, List.drop_zero, S]
  omega
theorem ref_read07 {l : List Int} (hl : Bytes l) (hn : l.length < 140737488355328) (k : Nat) (hk : 40 ≤ k) : sallyportref07_Read.f k l = some (net4Read l) := by
  unfold sallyportref07_Read.f net4Read
  by_cases h : (l.length : Int) < 20
  · rw [if_pos h, if_pos h]
  · have a := fun i => rd_byte hl i
    have a4 := a 4; have a5 := a 5
    rw [if_neg h, if_neg h]
    by_cases h0 : rd l 0 = 69
    · rw [if_pos h0]
      by_cases h6 : rd l 6 = 0
      · rw [if_pos h6]
        by_cases h7 : rd l 7 = 0
        · rw [if_pos h7]
          have v2 := value2_07 hl 2 (by omega) (Nat.le_of_lt hn) k (by omega)
          have v4 := value2_07 hl 4 (by omega) (Nat.le_of_lt hn) k (by omega)
          have v10 := value2_07 hl 10 (by omega) (Nat.le_of_lt hn) k (by omega)
          simp only [Int.cast_ofNat_Int, Int.reduceAdd] at v2 v4 v10
          rw [v2]
          simp only [Option.bind_some]
          by_cases h2 : rd l 2 * 256 + rd l 3 = (l.length : Int)
          · have hB : Bytes (((l.take 20).set 10 0).set 11 0) := bytes_set (bytes_set (bytes_take hl 20) 10 (by omega) (by omega)) 11 (by omega) (by omega)
            have hf := reffield_tells hB (by rw [List.length_set, List.length_set, List.length_take]; omega) k (by rw [List.length_set, List.length_set, List.length_take]; omega)
            rw [S_nought10 (by omega), show 65535 - oc (S (l.take 10) + S ((l.take 20).drop 12)) = fls (S (l.take 10) + S ((l.take 20).drop 12)) from rfl] at hf
            have hg := fls_range (S (l.take 10) + S ((l.take 20).drop 12))
            rw [if_pos h2, if_pos ⟨h0, h6, h7, h2⟩, v10]
            simp only [Option.bind_some]
            rw [hf]
            simp only [Option.bind_some]
            rw [wrap_i64 (x := fls _) (by omega) (by omega)]
            by_cases h1 : rd l 10 * 256 + rd l 11 = fls (S (l.take 10) + S ((l.take 20).drop 12))
            · rw [if_pos h1, if_pos h1, v4]
              simp only [Option.bind_some]
              rw [wrap_u16 (by omega) (by omega)]
            · rw [if_neg h1, if_neg h1]
          · rw [if_neg h2, if_neg (fun e => h2 e.2.2.2)]
        · rw [if_neg h7, if_neg (fun e => h7 e.2.2.1)]
      · rw [if_neg h6, if_neg (fun e => h6 e.2.1)]
    · rw [if_neg h0, if_neg (fun e => h0 e.1)]
end Go.Proofs.Ytipdajgcepefgaa.M
