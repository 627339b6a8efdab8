/- What the document's reading of a seg tells. -/
import Derived.Test.YtipdajgcepefgaaPx0
import Derived.Test.YtipdajgcepefgaaPx14
import Derived.Test.YtipdajgcepefgaaSegMath
import Derived.Test.YtipdajgcepefgaaSegVal
import Derived.Test.YtipdajgcepefgaaSegFour
namespace Go.Proofs.Ytipdajgcepefgaa.M
open Go Go.RowKit Go.Proofs.YtipdajgcepefgaaW.PrintWords Go.Proofs.Ytipdajgcepefgaa.P

theorem ref_read09 {l : List Int} (hl : Bytes l) (hn : l.length < 140737488355328) (k : Nat) (hk : l.length + 20 ≤ k) : sallyportref09_Read.f k l = some (segRead l) := by
  unfold sallyportref09_Read.f segRead
  by_cases h : (l.length : Int) < 20
  · rw [if_pos h, if_pos h]
  · have a := fun i => rd_byte hl i
    have a0 := a 0; have a1 := a 1; have a2 := a 2; have a3 := a 3; have a4 := a 4; have a5 := a 5; have a6 := a 6; have a7 := a 7; have a8 := a 8; have a9 := a 9; have a10 := a 10; have a11 := a 11; have a14 := a 14; have a15 := a 15
    obtain ⟨m, rfl⟩ : ∃ m, k = m + 1 := ⟨k - 1, by omega⟩
    have bad : sallyportref09_Read.j0 (m + 1) l true 0 0 0 0 0 0 = some (0, 0, 0, 0, 0, 0, 90) := by simp only [sallyportref09_Read.j0, if_true]
    rw [if_neg h, if_neg h, if_pos (by omega), bad]
    by_cases h12 : rd l 12 = 80
    · rw [if_pos h12, if_pos (by omega)]
      by_cases h13 : rd l 13 ≥ 64
      · rw [if_pos h13, if_neg (by omega)]
      · rw [if_neg h13, if_pos (by omega)]
        by_cases h18 : rd l 18 = 0
        · rw [if_pos h18, if_pos (by omega)]
          by_cases h19 : rd l 19 = 0
          · rw [if_pos ⟨h12, by omega, h18, h19⟩, show (rd l 19 != 0) = false by simp [h19]]
            have v0 := value2_09 hl 0 (by omega) (Nat.le_of_lt hn) m (by omega)
            have v2 := value2_09 hl 2 (by omega) (Nat.le_of_lt hn) m (by omega)
            have v4 := value4_09 hl 4 (by omega) (Nat.le_of_lt hn) m (by omega)
            have v8 := value4_09 hl 8 (by omega) (Nat.le_of_lt hn) m (by omega)
            have v14 := value2_09 hl 14 (by omega) (Nat.le_of_lt hn) m (by omega)
            have v16 := value2_09 hl 16 (by omega) (Nat.le_of_lt hn) m (by omega)
            simp only [Int.cast_ofNat_Int, Int.reduceAdd] at v0 v2 v4 v8 v14 v16
            have hB : Bytes ((l.set 16 0).set 17 0) := bytes_set (bytes_set hl 16 (by omega) (by omega)) 17 (by omega) (by omega)
            have hf := reffield_tells hB (by rw [List.length_set, List.length_set]; omega) m (by rw [List.length_set, List.length_set]; omega)
            rw [S_nought16 (by omega), show 65535 - oc (S (l.take 16) + S (l.drop 18)) = fls (S (l.take 16) + S (l.drop 18)) from rfl] at hf
            have hg := fls_range (S (l.take 16) + S (l.drop 18))
            simp only [sallyportref09_Read.j0]
            rw [if_neg (by simp), copy_tells l hn]
            simp only [Option.bind_some]
            rw [if_pos (by omega), if_pos (by omega), v16]
            simp only [Option.bind_some]
            rw [show (16 : Int).toNat = 16 from rfl, show (17 : Int).toNat = 17 from rfl, hf]
            simp only [Option.bind_some]
            rw [wrap_i64 (x := fls _) (by omega) (by omega)]
            by_cases h2 : rd l 16 * 256 + rd l 17 = fls (S (l.take 16) + S (l.drop 18))
            · rw [if_pos h2, if_pos h2]
              simp only [v0, v2, v4, v8, v14, Option.bind_some]
              rw [if_pos (by omega), wrap_u16 (by omega) (by omega), wrap_u16 (by omega) (by omega), wrap_u16 (by omega) (by omega), Int.emod_eq_of_lt (a := ((rd l 4 * 256 + rd l 5) * 256 + rd l 6) * 256 + rd l 7) (by omega) (by omega), Int.emod_eq_of_lt (a := ((rd l 8 * 256 + rd l 9) * 256 + rd l 10) * 256 + rd l 11) (by omega) (by omega)]
            · rw [if_neg h2, if_neg h2]
          · rw [if_neg (by omega), show (rd l 19 != 0) = true by simp [h19], bad]
        · rw [if_neg h18, if_neg (by omega)]
    · rw [if_neg h12, if_neg (by omega)]
end Go.Proofs.Ytipdajgcepefgaa.M
