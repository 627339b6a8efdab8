/- The statements on links: true for every input, as the printed functions tell. -/
import Derived.Test.YtaklgacadjipjaaPx0
import Derived.Test.YtaklgacadjipjaaPx2
import Derived.Test.YtaklgacadjipjaaPx3
import Derived.Test.YtaklgacadjipjaaPx4
import Derived.Test.YtaklgacadjipjaaPx5
import Derived.Test.YtaklgacadjipjaaPx7
import Derived.Test.YtaklgacadjipjaaPx8
import Derived.Test.YtaklgacadjipjaaPx9
import Derived.Test.YtaklgacadjipjaaLinkMath
namespace Go.Proofs.Ytaklgacadjipjaa.M
open Go Go.RowKit Go.Proofs.YtaklgacadjipjaaW.PrintWords Go.Proofs.Ytaklgacadjipjaa.P

/-- What a link's reading tells. -/
def linkRead (l : List Int) : Int × Int × Int × Int × Int × Int × Int × Int × Int × Int × Int × Int × Int × Int :=
  if (l.length : Int) < 14 then (0, 0, 0, 0, 0, 0, 0, 0, 0, 0, 0, 0, 0, 6) else (rd l 0, rd l 1, rd l 2, rd l 3, rd l 4, rd l 5, rd l 6, rd l 7, rd l 8, rd l 9, rd l 10, rd l 11, rd l 12 * 256 + rd l 13, 0)
theorem link_read {l : List Int} (hl : Bytes l) : link_Read.f l = some (linkRead l) := by
  unfold link_Read.f linkRead
  by_cases h : (l.length : Int) < 14
  · rw [if_pos h, if_pos h]
  · have e0 := rd_drop l 12 0; have e1 := rd_drop l 12 1
    simp only [Nat.add_zero, Nat.reduceAdd, Int.cast_ofNat_Int] at e0 e1
    rw [if_neg h, if_neg h, word_link (bytes_drop hl 12) (by rw [List.length_drop]; omega)]
    simp only [Option.bind_some]
    rw [e0, e1]
/-- What a link's bytes are. -/
def linkBytes (a0 a1 a2 a3 a4 a5 a6 a7 a8 a9 a10 a11 a12 : Int) (n : Nat) : List Int × Int :=
  if n ≤ 2034 then ([a0, a1, a2, a3, a4, a5, a6, a7, a8, a9, a10, a11, a12 / 256 % 256, a12 % 256], 0) else ([], 5)
theorem link_bytes (a0 a1 a2 a3 a4 a5 a6 a7 a8 a9 a10 a11 a12 : Int) (l : List Int) : link_Bytes.f a0 a1 a2 a3 a4 a5 a6 a7 a8 a9 a10 a11 a12 l = some (linkBytes a0 a1 a2 a3 a4 a5 a6 a7 a8 a9 a10 a11 a12 l.length) := by
  unfold link_Bytes.f linkBytes link_Check.f link_Bytes.bytes
  simp only [Option.bind_some, if_true]
  split <;> rfl
theorem ref_bytes05 (a0 a1 a2 a3 a4 a5 a6 a7 a8 a9 a10 a11 a12 : Int) (h : 0 ≤ a12 ∧ a12 ≤ 65535) (l : List Int) (k : Nat) (hk : 3 ≤ k) : sallyportref05_Bytes.f k a0 a1 a2 a3 a4 a5 a6 a7 a8 a9 a10 a11 a12 l = some (linkBytes a0 a1 a2 a3 a4 a5 a6 a7 a8 a9 a10 a11 a12 l.length) := by
  unfold sallyportref05_Bytes.f linkBytes sallyportref05_Check.f
  simp only [Option.bind_some, if_true]
  by_cases h2 : l.length ≤ 2034
  · rw [if_pos h2, if_pos h2, wrap_i64 (x := a12) (by omega) (by omega), number2_05 (by omega) (by omega) k hk]
    simp
  · rw [if_neg h2, if_neg h2]
theorem linkBytes_len (a0 a1 a2 a3 a4 a5 a6 a7 a8 a9 a10 a11 a12 : Int) (n : Nat) : (linkBytes a0 a1 a2 a3 a4 a5 a6 a7 a8 a9 a10 a11 a12 n).1.length ≤ 14 := by
  unfold linkBytes
  split <;> simp
def awakeL : List Int := [1, 2, 3, 4, 5, 6, 17, 18, 19, 20, 21, 22, 8, 0]
theorem awakeL_bytes : Bytes awakeL := by
  intro x hx
  have : ∀ y ∈ awakeL, 0 ≤ y ∧ y ≤ 255 := by decide
  exact this x hx
theorem awake_link (k : Nat) (hk : 20 ≤ k) : sallyportlaw05_awake.f k = some true := by
  have hb := awakeL_bytes
  have r := link_read hb
  have r3 := link_read (bytes_take hb 13)
  have b := link_bytes 1 2 3 4 5 6 17 18 19 20 21 22 2048 []
  have j := join_05 awakeL [] (by decide)
  have q := eq_self awakeL (by decide) k (by simp [awakeL]; omega)
  have e1 : linkRead awakeL = (1, 2, 3, 4, 5, 6, 17, 18, 19, 20, 21, 22, 2048, 0) := by rfl
  have e2 : linkRead (List.take 13 awakeL) = (0, 0, 0, 0, 0, 0, 0, 0, 0, 0, 0, 0, 0, 6) := by rfl
  have e3 : linkBytes 1 2 3 4 5 6 17 18 19 20 21 22 2048 ([] : List Int).length = (awakeL, 0) := by decide
  rw [e1] at r; rw [e2] at r3; rw [e3] at b; rw [List.append_nil] at j
  unfold sallyportlaw05_awake.f sallyportlaw05_usual.f link_Size.f
  rw [show ([1, 2, 3, 4, 5, 6, 17, 18, 19, 20, 21, 22, 8, 0] : List Int) = awakeL from rfl]
  simp only [Option.bind_some]
  simp only [b, j, r, r3, q, Option.bind_some]
  rfl

/-! LinkBytes -/
theorem linkBytes_loop (x1 x5 x8 x10 : List Int) (K : Nat) (h8 : sallyportref00_EqBytes.f K x8 x10 = some true) (h5 : sallyportref00_EqBytes.f K x5 x1 = some true) (hk : 20 ≤ K) : ∀ (d : Nat) (i : Nat) (x6 : List Int), i + d = x6.length → x6.length ≤ 140737488355328 → ∀ k, K + 1 + d = k →
    sallyportlaw05_LinkBytes.l0 k x1 x5 x6 x8 x10 (i : Int) = some true := by
  intro d
  induction d with
  | zero =>
    intro i x6 hi hn k hk'
    obtain rfl : k = K + 1 := by omega
    simp only [sallyportlaw05_LinkBytes.l0]
    rw [if_neg (by omega), h8]
    simp only [Option.bind_some, if_true]
    rw [h5]
    simp only [Option.bind_some, if_true]
    rw [awake_link K hk]
    rfl
  | succ d ih =>
    intro i x6 hi hn k hk'
    obtain rfl : k = (K + 1 + d) + 1 := by omega
    simp only [sallyportlaw05_LinkBytes.l0]
    rw [if_pos (by omega), if_pos (by omega), wrap_i64 (by omega) (by omega)]
    exact ih (i + 1) _ (by rw [List.length_set]; omega) (by rw [List.length_set]; exact hn) _ rfl
theorem linkBytesLaw : sallyportlaw05_LinkBytes.Pure := by
  intro a0 a1 a2 a3 a4 a5 a6 a7 a8 a9 a10 a11 a12 l _ _ _ _ _ _ _ _ _ _ _ _ ht _ hn hwf
  have ht := u16_of_wf ht
  have hn' : l.length < 140737488355328 := by omega
  obtain ⟨K, hK⟩ : ∃ K, l.length + 40 ≤ K := ⟨_, Nat.le_refl _⟩
  have hL := linkBytes_len a0 a1 a2 a3 a4 a5 a6 a7 a8 a9 a10 a11 a12 l.length
  have e0 := eq_self (linkBytes a0 a1 a2 a3 a4 a5 a6 a7 a8 a9 a10 a11 a12 l.length).1 (by omega) K (by omega)
  have e1 := eq_self l (Nat.le_of_lt hn') K (by omega)
  obtain ⟨K2, hK2⟩ : ∃ K2, K2 = K + 1 + (linkBytes a0 a1 a2 a3 a4 a5 a6 a7 a8 a9 a10 a11 a12 l.length).1.length := ⟨_, rfl⟩
  have lp := linkBytes_loop l l (linkBytes a0 a1 a2 a3 a4 a5 a6 a7 a8 a9 a10 a11 a12 l.length).1 (linkBytes a0 a1 a2 a3 a4 a5 a6 a7 a8 a9 a10 a11 a12 l.length).1 K e0 e1 (by omega) (linkBytes a0 a1 a2 a3 a4 a5 a6 a7 a8 a9 a10 a11 a12 l.length).1.length 0 (linkBytes a0 a1 a2 a3 a4 a5 a6 a7 a8 a9 a10 a11 a12 l.length).1 (by omega) (by omega) K2 hK2.symm
  have f0 := eq_self (linkBytes a0 a1 a2 a3 a4 a5 a6 a7 a8 a9 a10 a11 a12 l.length).1 (by omega) K2 (by omega)
  have f1 := eq_self l (Nat.le_of_lt hn') K2 (by omega)
  refine ⟨K2, ?_⟩
  unfold sallyportlaw05_LinkBytes.f link_Size.f sallyportref05_Size.f link_Check.f sallyportref05_Check.f
  simp only [copy_tells l hn', link_bytes, ref_bytes05 a0 a1 a2 a3 a4 a5 a6 a7 a8 a9 a10 a11 a12 ht l K2 (by omega), f0, f1, Option.bind_some, if_true]
  exact lp

theorem linkRead_short {l : List Int} (h : (l.length : Int) < 14) : linkRead l = (0, 0, 0, 0, 0, 0, 0, 0, 0, 0, 0, 0, 0, 6) := by unfold linkRead; rw [if_pos h]
/-! LinkBack -/
theorem link_round (a0 a1 a2 a3 a4 a5 a6 a7 a8 a9 a10 a11 a12 : Int) (h12 : 0 ≤ a12 ∧ a12 ≤ 65535) (l : List Int) : linkRead ([a0, a1, a2, a3, a4, a5, a6, a7, a8, a9, a10, a11, a12 / 256 % 256, a12 % 256] ++ l) = (a0, a1, a2, a3, a4, a5, a6, a7, a8, a9, a10, a11, a12, 0) := by
  have e0 : rd ([a0, a1, a2, a3, a4, a5, a6, a7, a8, a9, a10, a11, a12 / 256 % 256, a12 % 256] ++ l) 0 = a0 := rfl
  have e1 : rd ([a0, a1, a2, a3, a4, a5, a6, a7, a8, a9, a10, a11, a12 / 256 % 256, a12 % 256] ++ l) 1 = a1 := rfl
  have e2 : rd ([a0, a1, a2, a3, a4, a5, a6, a7, a8, a9, a10, a11, a12 / 256 % 256, a12 % 256] ++ l) 2 = a2 := rfl
  have e3 : rd ([a0, a1, a2, a3, a4, a5, a6, a7, a8, a9, a10, a11, a12 / 256 % 256, a12 % 256] ++ l) 3 = a3 := rfl
  have e4 : rd ([a0, a1, a2, a3, a4, a5, a6, a7, a8, a9, a10, a11, a12 / 256 % 256, a12 % 256] ++ l) 4 = a4 := rfl
  have e5 : rd ([a0, a1, a2, a3, a4, a5, a6, a7, a8, a9, a10, a11, a12 / 256 % 256, a12 % 256] ++ l) 5 = a5 := rfl
  have e6 : rd ([a0, a1, a2, a3, a4, a5, a6, a7, a8, a9, a10, a11, a12 / 256 % 256, a12 % 256] ++ l) 6 = a6 := rfl
  have e7 : rd ([a0, a1, a2, a3, a4, a5, a6, a7, a8, a9, a10, a11, a12 / 256 % 256, a12 % 256] ++ l) 7 = a7 := rfl
  have e8 : rd ([a0, a1, a2, a3, a4, a5, a6, a7, a8, a9, a10, a11, a12 / 256 % 256, a12 % 256] ++ l) 8 = a8 := rfl
  have e9 : rd ([a0, a1, a2, a3, a4, a5, a6, a7, a8, a9, a10, a11, a12 / 256 % 256, a12 % 256] ++ l) 9 = a9 := rfl
  have e10 : rd ([a0, a1, a2, a3, a4, a5, a6, a7, a8, a9, a10, a11, a12 / 256 % 256, a12 % 256] ++ l) 10 = a10 := rfl
  have e11 : rd ([a0, a1, a2, a3, a4, a5, a6, a7, a8, a9, a10, a11, a12 / 256 % 256, a12 % 256] ++ l) 11 = a11 := rfl
  have e12 : rd ([a0, a1, a2, a3, a4, a5, a6, a7, a8, a9, a10, a11, a12 / 256 % 256, a12 % 256] ++ l) 12 = a12 / 256 % 256 := rfl
  have e13 : rd ([a0, a1, a2, a3, a4, a5, a6, a7, a8, a9, a10, a11, a12 / 256 % 256, a12 % 256] ++ l) 13 = a12 % 256 := rfl
  unfold linkRead
  rw [if_neg (by simp only [List.length_append, List.length_cons, List.length_nil]; omega), e0, e1, e2, e3, e4, e5, e6, e7, e8, e9, e10, e11, e12, e13]
  rw [show a12 / 256 % 256 * 256 + a12 % 256 = a12 by omega]
theorem take14 {l : List Int} (h : 14 ≤ l.length) : l.take 14 = [rd l 0, rd l 1, rd l 2, rd l 3, rd l 4, rd l 5, rd l 6, rd l 7, rd l 8, rd l 9, rd l 10, rd l 11, rd l 12, rd l 13] := by
  have e0 := take_rd l 0 (by omega)
  have e1 := take_rd l 1 (by omega)
  have e2 := take_rd l 2 (by omega)
  have e3 := take_rd l 3 (by omega)
  have e4 := take_rd l 4 (by omega)
  have e5 := take_rd l 5 (by omega)
  have e6 := take_rd l 6 (by omega)
  have e7 := take_rd l 7 (by omega)
  have e8 := take_rd l 8 (by omega)
  have e9 := take_rd l 9 (by omega)
  have e10 := take_rd l 10 (by omega)
  have e11 := take_rd l 11 (by omega)
  have e12 := take_rd l 12 (by omega)
  have e13 := take_rd l 13 (by omega)
  simp only [Nat.reduceAdd, Nat.zero_add, Int.cast_ofNat_Int, List.take_zero, List.nil_append] at e0 e1 e2 e3 e4 e5 e6 e7 e8 e9 e10 e11 e12 e13
  rw [e13, e12, e11, e10, e9, e8, e7, e6, e5, e4, e3, e2, e1, e0]; rfl
/-- What is read is written just so. -/
theorem link_again {l : List Int} (hl : Bytes l) (h4 : 14 ≤ l.length) (n : Nat) (hn : n ≤ 2034) :
    linkBytes (linkRead l).1 (linkRead l).2.1 (linkRead l).2.2.1 (linkRead l).2.2.2.1 (linkRead l).2.2.2.2.1 (linkRead l).2.2.2.2.2.1 (linkRead l).2.2.2.2.2.2.1 (linkRead l).2.2.2.2.2.2.2.1 (linkRead l).2.2.2.2.2.2.2.2.1 (linkRead l).2.2.2.2.2.2.2.2.2.1 (linkRead l).2.2.2.2.2.2.2.2.2.2.1 (linkRead l).2.2.2.2.2.2.2.2.2.2.2.1 (linkRead l).2.2.2.2.2.2.2.2.2.2.2.2.1 n = (l.take 14, 0) := by
  have b0 := rd_byte hl 12; have b1 := rd_byte hl 13
  unfold linkRead
  rw [if_neg (by omega)]
  unfold linkBytes
  simp only
  rw [if_pos hn, take14 h4]
  rw [show (rd l 12 * 256 + rd l 13) / 256 % 256 = rd l 12 by omega, show (rd l 12 * 256 + rd l 13) % 256 = rd l 13 by omega]
theorem linkRead_err {l : List Int} (h : ¬ (linkRead l).2.2.2.2.2.2.2.2.2.2.2.2.2 = 0) : linkRead l = (0, 0, 0, 0, 0, 0, 0, 0, 0, 0, 0, 0, 0, 6) := by
  unfold linkRead at h ⊢
  split
  · rfl
  · rename_i h1
    rw [if_neg h1] at h
    exact absurd rfl h
theorem linkRead_len {l : List Int} (h : (linkRead l).2.2.2.2.2.2.2.2.2.2.2.2.2 = 0) : 14 ≤ l.length := by
  rcases Nat.lt_or_ge l.length 14 with h5 | h5
  · rw [linkRead_short (by omega)] at h; simp at h
  · exact h5
theorem linkBytes_bytes (a0 a1 a2 a3 a4 a5 a6 a7 a8 a9 a10 a11 a12 : Int) (n : Nat) (h : (0 ≤ a0 ∧ a0 ≤ 255) ∧ (0 ≤ a1 ∧ a1 ≤ 255) ∧ (0 ≤ a2 ∧ a2 ≤ 255) ∧ (0 ≤ a3 ∧ a3 ≤ 255) ∧ (0 ≤ a4 ∧ a4 ≤ 255) ∧ (0 ≤ a5 ∧ a5 ≤ 255) ∧ (0 ≤ a6 ∧ a6 ≤ 255) ∧ (0 ≤ a7 ∧ a7 ≤ 255) ∧ (0 ≤ a8 ∧ a8 ≤ 255) ∧ (0 ≤ a9 ∧ a9 ≤ 255) ∧ (0 ≤ a10 ∧ a10 ≤ 255) ∧ (0 ≤ a11 ∧ a11 ≤ 255)) : Bytes (linkBytes a0 a1 a2 a3 a4 a5 a6 a7 a8 a9 a10 a11 a12 n).1 := by
  obtain ⟨h0, h1, h2, h3, h4, h5, h6, h7, h8, h9, h10, h11⟩ := h
  unfold linkBytes
  split
  · exact bytes_cons h0.1 h0.2 (bytes_cons h1.1 h1.2 (bytes_cons h2.1 h2.2 (bytes_cons h3.1 h3.2 (bytes_cons h4.1 h4.2 (bytes_cons h5.1 h5.2 (bytes_cons h6.1 h6.2 (bytes_cons h7.1 h7.2 (bytes_cons h8.1 h8.2 (bytes_cons h9.1 h9.2 (bytes_cons h10.1 h10.2 (bytes_cons h11.1 h11.2 (bytes_cons (by omega) (by omega) (bytes_cons (by omega) (by omega) bytes_nil)))))))))))))
  · exact bytes_nil

end Go.Proofs.Ytaklgacadjipjaa.M
