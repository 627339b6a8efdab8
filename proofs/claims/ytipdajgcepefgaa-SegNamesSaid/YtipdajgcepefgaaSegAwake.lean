/- The chapter's header of segs is awake. -/
import Derived.Test.YtipdajgcepefgaaPx0
import Derived.Test.YtipdajgcepefgaaPx11
import Derived.Test.YtipdajgcepefgaaPx8
import Derived.Test.YtipdajgcepefgaaSegMath
namespace Go.Proofs.Ytipdajgcepefgaa.M
open Go Go.RowKit Go.Proofs.YtipdajgcepefgaaW.PrintWords Go.Proofs.Ytipdajgcepefgaa.P

def segL : List Int := [0, 80, 4, 0, 0, 0, 0, 1, 0, 0, 0, 0, 80, 2, 2, 0, 168, 172, 0, 0]
theorem segL_bytes : Bytes segL := by
  intro x hx
  have : ∀ y ∈ segL, 0 ≤ y ∧ y ≤ 255 := by decide
  exact this x hx
theorem one_bytes : Bytes [1] := bytes_cons (by omega) (by omega) bytes_nil
theorem awake_seg (k : Nat) (hk : 2060 ≤ k) : sallyportlaw09_awake.f k = some true := by
  have hb := segL_bytes
  have r := seg_read (bytes_append hb one_bytes) (by decide) k (by simp [segL]; omega)
  have r3 := seg_read (bytes_take hb 19) (by decide) k (by simp [segL]; omega)
  have b := seg_bytes 80 1024 (c := 1) (d := 0) (e := 2) 512 (by omega) (by omega) (by omega) one_bytes k hk
  have j := join_09 segL [1] (by decide)
  have q := eq_self segL (by decide) k (by simp [segL]; omega)
  have e1 : segRead (segL ++ [1]) = (80, 1024, 1, 0, 2, 512, 0) := by rfl
  have e2 : segRead (List.take 19 segL) = (0, 0, 0, 0, 0, 0, 6) := by rfl
  have e3 : segBytes 80 1024 1 0 2 512 [1] = (segL, 0) := by rfl
  rw [e1] at r; rw [e2] at r3; rw [e3] at b
  unfold sallyportlaw09_awake.f sallyportlaw09_usual.f seg_Size.f
  rw [show ([0, 80, 4, 0, 0, 0, 0, 1, 0, 0, 0, 0, 80, 2, 2, 0, 168, 172, 0, 0] : List Int) = segL from rfl]
  simp only [Option.bind_some]
  simp only [b, j, r, r3, q, Option.bind_some]
  rfl
theorem segBytes_len (a b c d e f : Int) (l : List Int) : (segBytes a b c d e f l).1.length ≤ 20 := by
  unfold segBytes
  split
  · simp
  · split <;> simp [segHead]

end Go.Proofs.Ytipdajgcepefgaa.M
