/- The chapter's net4 header is awake. -/
import Derived.Test.YtipdajgcepefgaaPx0
import Derived.Test.YtipdajgcepefgaaPx11
import Derived.Test.YtipdajgcepefgaaPx12
import Derived.Test.YtipdajgcepefgaaPx4
import Derived.Test.YtipdajgcepefgaaPx7
import Derived.Test.YtipdajgcepefgaaNet4Math
namespace Go.Proofs.Ytipdajgcepefgaa.M
open Go Go.RowKit Go.Proofs.YtipdajgcepefgaaW.PrintWords Go.Proofs.Ytipdajgcepefgaa.P
set_option linter.unusedVariables false

def net4L : List Int := [69, 0, 0, 28, 0, 1, 0, 0, 64, 17, 102, 206, 10, 0, 0, 1, 10, 0, 0, 2]
theorem net4L_bytes : Bytes net4L := by
  intro x hx
  have : ∀ y ∈ net4L, 0 ≤ y ∧ y ≤ 255 := by decide
  exact this x hx
theorem eight_bytes : Bytes (List.replicate 8 0) := by
  intro x hx
  have := List.eq_of_mem_replicate hx
  omega
theorem awake_net4 (k : Nat) (hk : 2060 ≤ k) : sallyportlaw07_awake.f k = some true := by
  have hb := net4L_bytes
  have r := net4_read (bytes_append hb eight_bytes) (by decide) k (by omega)
  have r3 := net4_read (bytes_take hb 19) (by decide) k (by omega)
  have b := net4_bytes (h0 := 0) (h1 := 64) (h2 := 17) (h3 := 1) (h4 := 10) (h5 := 0) (h6 := 0) (h7 := 1) (h8 := 10) (h9 := 0) (h10 := 0) (h11 := 2) (by omega) (by omega) (by omega) (by omega) (by omega) (by omega) (by omega) (by omega) (by omega) (by omega) (by omega) (by omega) (List.replicate 8 0) k hk
  have j := join_07 net4L (List.replicate 8 0) (by decide)
  have q := eq_self net4L (by decide) k (by simp [net4L]; omega)
  have e1 : net4Read (net4L ++ List.replicate 8 0) = (0, 64, 17, 1, 10, 0, 0, 1, 10, 0, 0, 2, 0) := by rfl
  have e2 : net4Read (List.take 19 net4L) = (0, 0, 0, 0, 0, 0, 0, 0, 0, 0, 0, 0, 6) := by rfl
  have e3 : net4Bytes 0 64 17 1 10 0 0 1 10 0 0 2 (List.replicate 8 0) = (net4L, 0) := by rfl
  rw [e1] at r; rw [e2] at r3; rw [e3] at b
  unfold sallyportlaw07_awake.f sallyportlaw07_usual.f net4_Size.f
  rw [show ([69, 0, 0, 28, 0, 1, 0, 0, 64, 17, 102, 206, 10, 0, 0, 1, 10, 0, 0, 2] : List Int) = net4L from rfl, if_pos (by decide)]
  simp only [Option.bind_some]
  simp only [b, j, r, r3, q, Option.bind_some]
  rfl
theorem net4Bytes_len (h0 h1 h2 h3 h4 h5 h6 h7 h8 h9 h10 h11 : Int) (l : List Int) : (net4Bytes h0 h1 h2 h3 h4 h5 h6 h7 h8 h9 h10 h11 l).1.length ≤ 20 := by
  unfold net4Bytes
  split
  · simp [net4_Bytes.bytes]
  · simp
end Go.Proofs.Ytipdajgcepefgaa.M
