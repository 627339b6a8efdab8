/- The statement on a seg's reading: true for every input. -/
import Derived.Test.YtipdajgcepefgaaPx0
import Derived.Test.YtipdajgcepefgaaPx15
import Derived.Test.YtipdajgcepefgaaSegAwake
import Derived.Test.YtipdajgcepefgaaSegRefR
namespace Go.Proofs.Ytipdajgcepefgaa.M
open Go Go.RowKit Go.Proofs.YtipdajgcepefgaaW.PrintWords Go.Proofs.Ytipdajgcepefgaa.P

/-! SegReads -/
theorem segReadsLaw : sallyportlaw09_SegReads.Pure := by
  intro l _ hn hwf
  have hl := bytes_of_wf hwf
  have hn' : l.length < 140737488355328 := by omega
  obtain ⟨K, hK⟩ : ∃ K, l.length + 3000 ≤ K := ⟨_, Nat.le_refl _⟩
  refine ⟨K, ?_⟩
  unfold sallyportlaw09_SegReads.f
  simp only [copy_tells l hn', seg_read hl (Nat.le_of_lt hn') K (by omega), ref_read09 hl hn' K (by omega), eq_self l (Nat.le_of_lt hn') K (by omega), awake_seg K (by omega), Option.bind_some, if_true, beq_self_eq_true, Bool.and_self]

end Go.Proofs.Ytipdajgcepefgaa.M
