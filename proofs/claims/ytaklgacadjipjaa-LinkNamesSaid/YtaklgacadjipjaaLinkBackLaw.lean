/- LinkBack: true for every input. -/
import Derived.Test.YtaklgacadjipjaaPx0
import Derived.Test.YtaklgacadjipjaaPx13
import Derived.Test.YtaklgacadjipjaaPx13a
import Derived.Test.YtaklgacadjipjaaPx2
import Derived.Test.YtaklgacadjipjaaLinkLaws
namespace Go.Proofs.Ytaklgacadjipjaa.M
open Go Go.RowKit Go.Proofs.YtaklgacadjipjaaW.PrintWords Go.Proofs.Ytaklgacadjipjaa.P
theorem linkBackLaw : sallyportlaw05_LinkBack.Pure := by
  intro a0 a1 a2 a3 a4 a5 a6 a7 a8 a9 a10 a11 a12 l q g0 g1 g2 g3 g4 g5 g6 g7 g8 g9 g10 g11 ht _ hn hwf _ hn2 hwf2
  have g0 := u8_of_wf g0
  have g1 := u8_of_wf g1
  have g2 := u8_of_wf g2
  have g3 := u8_of_wf g3
  have g4 := u8_of_wf g4
  have g5 := u8_of_wf g5
  have g6 := u8_of_wf g6
  have g7 := u8_of_wf g7
  have g8 := u8_of_wf g8
  have g9 := u8_of_wf g9
  have g10 := u8_of_wf g10
  have g11 := u8_of_wf g11
  have ht := u16_of_wf ht
  have hl := bytes_of_wf hwf; have hq := bytes_of_wf hwf2
  obtain ⟨K, hK⟩ : ∃ K, 40 ≤ K := ⟨_, Nat.le_refl _⟩
  refine ⟨K, ?_⟩
  have he := eq_self (q.take 14) (by rw [List.length_take]; omega) K (by rw [List.length_take]; omega)
  unfold sallyportlaw05_LinkBack.f
  rw [awake_link K (by omega)]
  simp only [Option.bind_some, if_true]
  rw [link_bytes]
  have hB := linkBytes_bytes a0 a1 a2 a3 a4 a5 a6 a7 a8 a9 a10 a11 a12 l.length ⟨g0, g1, g2, g3, g4, g5, g6, g7, g8, g9, g10, g11⟩
  simp only [Option.bind_some, link_read hq, link_bytes]
  by_cases h1 : l.length ≤ 2034
  · have e : linkBytes a0 a1 a2 a3 a4 a5 a6 a7 a8 a9 a10 a11 a12 l.length = ([a0, a1, a2, a3, a4, a5, a6, a7, a8, a9, a10, a11, a12 / 256 % 256, a12 % 256], 0) := by unfold linkBytes; rw [if_pos h1]
    rw [e] at hB ⊢
    simp only [if_true]
    rw [join_05 _ _ (by simp only [List.length_cons, List.length_nil]; omega)]
    simp only [Option.bind_some]
    rw [link_read (bytes_append hB hl), link_round a0 a1 a2 a3 a4 a5 a6 a7 a8 a9 a10 a11 a12 ht]
    simp only [Option.bind_some]
    rw [if_pos (by simp)]
    simp only [if_true]
    rw [if_neg (by simp)]
    unfold link_Check.f
    simp only [Option.bind_some, if_true]
    by_cases h : (linkRead q).2.2.2.2.2.2.2.2.2.2.2.2.2 = 0
    · rw [if_pos h]
      have h14 := linkRead_len h
      split
      · rfl
      · rw [if_pos (by omega), link_again hq h14 _ (by rw [List.length_drop]; omega)]
        simp only [if_true]
        rw [he]; rfl
    · rw [if_neg h, linkRead_err h]; rfl
  · have e : linkBytes a0 a1 a2 a3 a4 a5 a6 a7 a8 a9 a10 a11 a12 l.length = ([], 5) := by unfold linkBytes; rw [if_neg h1]
    rw [e]
    simp only
    rw [if_neg (by decide)]
    unfold link_Check.f
    simp only [Option.bind_some, if_true]
    rw [if_neg (by omega)]
    by_cases h : (linkRead q).2.2.2.2.2.2.2.2.2.2.2.2.2 = 0
    · rw [if_pos h]
      have h14 := linkRead_len h
      split
      · rfl
      · rw [if_pos (by omega), link_again hq h14 _ (by rw [List.length_drop]; omega)]
        simp only [if_true]
        rw [he]; rfl
    · rw [if_neg h, linkRead_err h]; rfl
end Go.Proofs.Ytaklgacadjipjaa.M
