/- The statement on a net4 header's reading: true for every input. -/
import Derived.Test.YtipdajgcepefgaaPx0
import Derived.Test.YtipdajgcepefgaaPx16
import Derived.Test.YtipdajgcepefgaaNet4Awake
import Derived.Test.YtipdajgcepefgaaNet4RefR
namespace Go.Proofs.Ytipdajgcepefgaa.M
open Go Go.RowKit Go.Proofs.YtipdajgcepefgaaW.PrintWords Go.Proofs.Ytipdajgcepefgaa.P
set_option linter.unusedVariables false

theorem net4ReadsLaw : sallyportlaw07_Net4Reads.Pure := by
  intro l _ hn hwf
  have hl := bytes_of_wf hwf
  have hn' : l.length < 140737488355328 := by omega
  obtain ⟨K, hK⟩ : ∃ K, l.length + 3000 ≤ K := ⟨_, Nat.le_refl _⟩
  refine ⟨K, ?_⟩
  unfold sallyportlaw07_Net4Reads.f
  simp only [copy_tells l hn', net4_read hl (Nat.le_of_lt hn') K (by omega), ref_read07 hl hn' K (by omega), eq_self l (Nat.le_of_lt hn') K (by omega), awake_net4 K (by omega), Option.bind_some, if_true, beq_self_eq_true, Bool.and_self]
end Go.Proofs.Ytipdajgcepefgaa.M
