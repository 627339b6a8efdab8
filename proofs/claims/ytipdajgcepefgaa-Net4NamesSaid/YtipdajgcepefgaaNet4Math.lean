/- What the functions over net4 headers tell. -/
import Derived.Test.YtipdajgcepefgaaPx0
import Derived.Test.YtipdajgcepefgaaPx2
import Derived.Test.YtipdajgcepefgaaPx3
import Derived.Test.YtipdajgcepefgaaPx4
import Derived.Test.YtipdajgcepefgaaPx8
import Derived.Test.YtipdajgcepefgaaPx9
import Derived.Test.YtipdajgcepefgaaSumsCut
import Derived.Test.YtipdajgcepefgaaNet4Num
namespace Go.Proofs.Ytipdajgcepefgaa.M
open Go Go.RowKit Go.Proofs.YtipdajgcepefgaaW.PrintWords Go.Proofs.Ytipdajgcepefgaa.P
set_option linter.unusedVariables false

/-- What the sum's field has. -/
def fls (n : Int) : Int := 65535 - oc n
theorem fls_range (n : Int) : 0 ≤ fls n ∧ fls n ≤ 65535 := by
  have := oc_range n
  unfold fls
  omega
theorem net4_field_tells {a b : List Int} (ha : Bytes a) (hb : Bytes b) (na : a.length ≤ 140737488355328) (nb : b.length ≤ 140737488355328) (k : Nat) (ka : a.length + 6 ≤ k) (kb : b.length + 6 ≤ k) : net4_field.f k a b = some (fls (S a + S b)) := by
  have h1 := oc_range (S a); have h2 := oc_range (S b)
  unfold net4_field.f fls
  rw [sum_tells ha na k ka]
  simp only [Option.bind_some]
  rw [sum_tells hb nb k kb]
  simp only [Option.bind_some]
  rw [add_tells h1 h2 k (by omega)]
  simp only [Option.bind_some]
  have h3 := oc_range (oc (S a) + oc (S b))
  rw [not16 h3.1 h3.2, oc_add (S_nonneg ha) h2.1, oc_add' (S_nonneg ha) (S_nonneg hb)]
theorem ahead_bytes {h0 : Int} {h1 : Int} {h2 : Int} {h3 : Int} {h4 : Int} {h5 : Int} {h6 : Int} {h7 : Int} {h8 : Int} {h9 : Int} {h10 : Int} {h11 : Int} (w0 : 0 ≤ h0 ∧ h0 ≤ 255) (w1 : 0 ≤ h1 ∧ h1 ≤ 255) (w2 : 0 ≤ h2 ∧ h2 ≤ 255) (w3 : 0 ≤ h3 ∧ h3 ≤ 65535) (w4 : 0 ≤ h4 ∧ h4 ≤ 255) (w5 : 0 ≤ h5 ∧ h5 ≤ 255) (w6 : 0 ≤ h6 ∧ h6 ≤ 255) (w7 : 0 ≤ h7 ∧ h7 ≤ 255) (w8 : 0 ≤ h8 ∧ h8 ≤ 255) (w9 : 0 ≤ h9 ∧ h9 ≤ 255) (w10 : 0 ≤ h10 ∧ h10 ≤ 255) (w11 : 0 ≤ h11 ∧ h11 ≤ 255) (n : Nat) : Bytes (net4_Bytes.ahead h0 h1 h2 h3 h4 h5 h6 h7 h8 h9 h10 h11 n) := by
  unfold net4_Bytes.ahead
  repeat' first
  | exact bytes_nil
  | apply bytes_cons
  | omega
theorem behind_bytes {h0 : Int} {h1 : Int} {h2 : Int} {h3 : Int} {h4 : Int} {h5 : Int} {h6 : Int} {h7 : Int} {h8 : Int} {h9 : Int} {h10 : Int} {h11 : Int} (w0 : 0 ≤ h0 ∧ h0 ≤ 255) (w1 : 0 ≤ h1 ∧ h1 ≤ 255) (w2 : 0 ≤ h2 ∧ h2 ≤ 255) (w3 : 0 ≤ h3 ∧ h3 ≤ 65535) (w4 : 0 ≤ h4 ∧ h4 ≤ 255) (w5 : 0 ≤ h5 ∧ h5 ≤ 255) (w6 : 0 ≤ h6 ∧ h6 ≤ 255) (w7 : 0 ≤ h7 ∧ h7 ≤ 255) (w8 : 0 ≤ h8 ∧ h8 ≤ 255) (w9 : 0 ≤ h9 ∧ h9 ≤ 255) (w10 : 0 ≤ h10 ∧ h10 ≤ 255) (w11 : 0 ≤ h11 ∧ h11 ≤ 255) (n : Nat) (s : Int) : Bytes (net4_Bytes.bytes h0 h1 h2 h3 h4 h5 h6 h7 h8 h9 h10 h11 n s) := by
  unfold net4_Bytes.bytes
  repeat' first
  | exact bytes_nil
  | apply bytes_cons
  | omega
/-- What a net4 header's bytes are. -/
def net4Bytes (h0 h1 h2 h3 h4 h5 h6 h7 h8 h9 h10 h11 : Int) (l : List Int) : List Int × Int :=
  if l.length ≤ 2028 then (net4_Bytes.bytes h0 h1 h2 h3 h4 h5 h6 h7 h8 h9 h10 h11 l.length (fls (S (net4_Bytes.ahead h0 h1 h2 h3 h4 h5 h6 h7 h8 h9 h10 h11 l.length))), 0) else ([], 5)
theorem net4_bytes {h0 : Int} {h1 : Int} {h2 : Int} {h3 : Int} {h4 : Int} {h5 : Int} {h6 : Int} {h7 : Int} {h8 : Int} {h9 : Int} {h10 : Int} {h11 : Int} (w0 : 0 ≤ h0 ∧ h0 ≤ 255) (w1 : 0 ≤ h1 ∧ h1 ≤ 255) (w2 : 0 ≤ h2 ∧ h2 ≤ 255) (w3 : 0 ≤ h3 ∧ h3 ≤ 65535) (w4 : 0 ≤ h4 ∧ h4 ≤ 255) (w5 : 0 ≤ h5 ∧ h5 ≤ 255) (w6 : 0 ≤ h6 ∧ h6 ≤ 255) (w7 : 0 ≤ h7 ∧ h7 ≤ 255) (w8 : 0 ≤ h8 ∧ h8 ≤ 255) (w9 : 0 ≤ h9 ∧ h9 ≤ 255) (w10 : 0 ≤ h10 ∧ h10 ≤ 255) (w11 : 0 ≤ h11 ∧ h11 ≤ 255) (l : List Int) (k : Nat) (hk : 2060 ≤ k) : net4_Bytes.f k h0 h1 h2 h3 h4 h5 h6 h7 h8 h9 h10 h11 l = some (net4Bytes h0 h1 h2 h3 h4 h5 h6 h7 h8 h9 h10 h11 l) := by
  unfold net4_Bytes.f net4Bytes net4_Check.f
  simp only [Option.bind_some, if_true]
  by_cases h : l.length ≤ 2028
  · have hf := net4_field_tells (ahead_bytes w0 w1 w2 w3 w4 w5 w6 w7 w8 w9 w10 w11 l.length) bytes_nil (by simp [net4_Bytes.ahead]) (by simp) k (by simp [net4_Bytes.ahead]; omega) (by simp; omega)
    rw [show S [] = 0 from rfl, Int.add_zero] at hf
    rw [if_pos h, if_pos h, hf]
    rfl
  · rw [if_neg h, if_neg h]

/-- What a net4 header's reading tells. -/
def net4Read (l : List Int) : Int × Int × Int × Int × Int × Int × Int × Int × Int × Int × Int × Int × Int :=
  if (l.length : Int) < 20 then (0, 0, 0, 0, 0, 0, 0, 0, 0, 0, 0, 0, 6) else if rd l 0 = 69 ∧ rd l 6 = 0 ∧ rd l 7 = 0 ∧ rd l 2 * 256 + rd l 3 = (l.length : Int) then (if rd l 10 * 256 + rd l 11 = fls (S (l.take 10) + S ((l.take 20).drop 12)) then (rd l 1, rd l 8, rd l 9, rd l 4 * 256 + rd l 5, rd l 12, rd l 13, rd l 14, rd l 15, rd l 16, rd l 17, rd l 18, rd l 19, 0) else (0, 0, 0, 0, 0, 0, 0, 0, 0, 0, 0, 0, 110)) else (0, 0, 0, 0, 0, 0, 0, 0, 0, 0, 0, 0, 70)
theorem net4word_at {l : List Int} (hl : Bytes l) (j : Nat) (h : j + 2 ≤ l.length) : net4_word.f (l.drop j) = some (rd l (j : Int) * 256 + rd l ((j + 1 : Nat) : Int)) := by
  have e0 := rd_drop l j 0; have e1 := rd_drop l j 1
  simp only [Nat.add_zero, Int.cast_ofNat_Int] at e0 e1
  rw [word_net4 (bytes_drop hl j) (by rw [List.length_drop]; omega), e0, e1]
theorem net4_read {l : List Int} (hl : Bytes l) (hn : l.length ≤ 140737488355328) (k : Nat) (hk : 40 ≤ k) : net4_Read.f k l = some (net4Read l) := by
  unfold net4_Read.f net4Read
  by_cases h : (l.length : Int) < 20
  · rw [if_pos h, if_pos h]
  · have a := fun i => rd_byte hl i
    have a2 := a 2; have a3 := a 3; have a6 := a 6; have a7 := a 7
    have w2 := net4word_at hl 2 (by omega); have w4 := net4word_at hl 4 (by omega); have w6 := net4word_at hl 6 (by omega); have w10 := net4word_at hl 10 (by omega)
    have hf := net4_field_tells (bytes_take hl 10) (bytes_drop (bytes_take hl 20) 12) (by rw [List.length_take]; omega) (by rw [List.length_drop, List.length_take]; omega) k (by rw [List.length_take]; omega) (by rw [List.length_drop, List.length_take]; omega)
    simp only [Int.cast_ofNat_Int, Nat.reduceAdd] at w2 w4 w6 w10
    rw [if_neg h, if_neg h]
    by_cases h0 : rd l 0 = 69
    · rw [if_pos h0, w6]
      simp only [Option.bind_some]
      by_cases h6 : rd l 6 * 256 + rd l 7 = 0
      · rw [if_pos h6, w2]
        simp only [Option.bind_some]
        rw [wrap_i64 (x := rd l 2 * 256 + rd l 3) (by omega) (by omega)]
        by_cases h2 : rd l 2 * 256 + rd l 3 = (l.length : Int)
        · rw [if_pos h2, if_pos ⟨h0, by omega, by omega, h2⟩, w10]
          simp only [Option.bind_some]
          rw [hf]
          simp only [Option.bind_some]
          by_cases h1 : rd l 10 * 256 + rd l 11 = fls (S (l.take 10) + S ((l.take 20).drop 12))
          · rw [if_pos h1, if_pos h1, w4]
            rfl
          · rw [if_neg h1, if_neg h1]
        · rw [if_neg h2, if_neg (fun e => h2 e.2.2.2)]
      · rw [if_neg h6, if_neg (fun e => h6 (by omega))]
    · rw [if_neg h0, if_neg (fun e => h0 e.1)]
theorem ten {l : List Int} (h : 10 ≤ l.length) : ∃ a0 a1 a2 a3 a4 a5 a6 a7 a8 a9 t, l = a0 :: a1 :: a2 :: a3 :: a4 :: a5 :: a6 :: a7 :: a8 :: a9 :: t := by
  match l, h with
  | a0 :: a1 :: a2 :: a3 :: a4 :: a5 :: a6 :: a7 :: a8 :: a9 :: t, _ => exact ⟨a0, a1, a2, a3, a4, a5, a6, a7, a8, a9, t, rfl⟩
theorem twenty {l : List Int} (h : 20 ≤ l.length) : ∃ a0 a1 a2 a3 a4 a5 a6 a7 a8 a9 b0 b1 b2 b3 b4 b5 b6 b7 b8 b9 t, l = a0 :: a1 :: a2 :: a3 :: a4 :: a5 :: a6 :: a7 :: a8 :: a9 :: b0 :: b1 :: b2 :: b3 :: b4 :: b5 :: b6 :: b7 :: b8 :: b9 :: t := by
  obtain ⟨a0, a1, a2, a3, a4, a5, a6, a7, a8, a9, t, rfl⟩ := ten (l := l) (by omega)
  simp only [List.length_cons] at h
  obtain ⟨b0, b1, b2, b3, b4, b5, b6, b7, b8, b9, t, rfl⟩ := ten (l := t) (by omega)
  exact ⟨a0, a1, a2, a3, a4, a5, a6, a7, a8, a9, b0, b1, b2, b3, b4, b5, b6, b7, b8, b9, t, rfl⟩
end Go.Proofs.Ytipdajgcepefgaa.M
