/- LinkReads: true for every input. -/
import Derived.Test.YtaklgacadjipjaaPx0
import Derived.Test.YtaklgacadjipjaaPx11
import Derived.Test.YtaklgacadjipjaaPx12
import Derived.Test.YtaklgacadjipjaaLinkLaws
import Derived.Test.YtaklgacadjipjaaLinkVal
namespace Go.Proofs.Ytaklgacadjipjaa.M
open Go Go.RowKit Go.Proofs.YtaklgacadjipjaaW.PrintWords Go.Proofs.Ytaklgacadjipjaa.P
theorem ref_read05 {l : List Int} (hl : Bytes l) (hn : l.length ≤ 140737488355328) (k : Nat) (hk : 3 ≤ k) : sallyportref05_Read.f k l = some (linkRead l) := by
  unfold sallyportref05_Read.f linkRead
  by_cases h : (l.length : Int) < 14
  · rw [if_pos h, if_pos h]
  · have a0 := rd_byte hl 12; have a1 := rd_byte hl 13
    have v := value2_05 hl 12 (by omega) hn k hk
    simp only [Int.cast_ofNat_Int, Int.reduceAdd] at v
    rw [if_neg h, if_neg h, v]
    simp only [Option.bind_some]
    rw [wrap_u16 (by omega) (by omega)]
theorem linkReadsLaw : sallyportlaw05_LinkReads.Pure := by
  intro l _ hn hwf
  have hl := bytes_of_wf hwf
  have hn' : l.length < 140737488355328 := by omega
  obtain ⟨K, hK⟩ : ∃ K, l.length + 40 ≤ K := ⟨_, Nat.le_refl _⟩
  refine ⟨K, ?_⟩
  unfold sallyportlaw05_LinkReads.f
  simp only [copy_tells l hn', link_read hl, ref_read05 hl (Nat.le_of_lt hn') K (by omega), eq_self l (Nat.le_of_lt hn') K (by omega), awake_link K (by omega), Option.bind_some, if_true, beq_self_eq_true, Bool.and_self]
end Go.Proofs.Ytaklgacadjipjaa.M
