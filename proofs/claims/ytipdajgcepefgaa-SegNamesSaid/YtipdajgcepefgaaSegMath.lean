/- What the functions over segs tell. -/
import Derived.Test.YtipdajgcepefgaaPx0
import Derived.Test.YtipdajgcepefgaaPx10
import Derived.Test.YtipdajgcepefgaaPx2
import Derived.Test.YtipdajgcepefgaaPx4
import Derived.Test.YtipdajgcepefgaaPx5
import Derived.Test.YtipdajgcepefgaaPx9
import Derived.Test.YtipdajgcepefgaaSumsCut
import Derived.Test.YtipdajgcepefgaaSegNum
namespace Go.Proofs.Ytipdajgcepefgaa.M
open Go Go.RowKit Go.Proofs.YtipdajgcepefgaaW.PrintWords Go.Proofs.Ytipdajgcepefgaa.P

/-! Bits -/
theorem u32_of_wf {a : Int} (h : (Lit.int .u32 a).wf = true) : 0 ≤ a ∧ a ≤ 4294967295 := by
  simp only [Lit.wf, Bool.and_eq_true, decide_eq_true_eq] at h
  exact h
theorem wrap_u32 {x : Int} (h0 : 0 ≤ x) (h1 : x ≤ 4294967295) : IntKind.u32.wrap x = x := by
  rw [IntKind.wrap_u32]; omega
theorem or_low_nat {i a b : Nat} (hb : b < 2 ^ i) : 2 ^ i * a ||| b = 2 ^ i * a + b := (Nat.two_pow_add_eq_or_of_lt hb a).symm
theorem or_half32 {x y : Int} (h0 : 0 ≤ x) (h1 : x ≤ 65535) (h2 : 0 ≤ y) (h3 : y ≤ 65535) : Go.bits .or .u32 (x * 65536) y = x * 65536 + y := by
  rw [u32_or (x * 65536) y (by omega) (by omega) (by omega) (by omega)]
  have e : (x * 65536).toNat = 2 ^ 16 * x.toNat := by omega
  rw [e, or_low_nat (by omega)]
  omega
theorem or_20480 {y : Int} (h2 : 0 ≤ y) (h3 : y < 64) : Go.bits .or .u16 20480 y = 20480 + y := by
  rw [u16_or 20480 y (by omega) (by omega) (by omega) (by omega)]
  have e : (20480 : Int).toNat = 2 ^ 6 * 320 := by decide
  rw [e, or_low_nat (by omega)]
  omega
theorem andNot_63 {x : Int} (h0 : 0 ≤ x) (h1 : x ≤ 65535) : Go.bits .andNot .u16 x 63 = x / 64 * 64 := by
  rw [u16_andNot x 63 h0 (by omega) (by omega) (by omega)]
  obtain ⟨n, rfl⟩ : ∃ n : Nat, x = n := ⟨x.toNat, by omega⟩
  have hn : n < 2 ^ 16 := by omega
  have h : n &&& (65535 - (63 : Int).toNat) = 2 ^ 6 * (n / 2 ^ 6) := by
    rw [show (65535 - (63 : Int).toNat) = 2 ^ 6 * (2 ^ 10 - 1) from by decide]
    apply Nat.eq_of_testBit_eq
    intro i
    rw [Nat.testBit_and, Nat.testBit_two_pow_mul, Nat.testBit_two_pow_mul, Nat.testBit_two_pow_sub_one, Nat.testBit_div_two_pow]
    by_cases h6 : i ≥ 6
    · rw [show i - 6 + 6 = i from by omega]
      by_cases h16 : i < 16
      · simp [h6, show i - 6 < 10 by omega]
      · rw [Nat.testBit_lt_two_pow (x := n) (i := i) (Nat.lt_of_lt_of_le hn (Nat.pow_le_pow_right (by omega) (by omega)))]
        simp
    · simp [h6]
  rw [Int.toNat_natCast, h]
  omega

/-- What the sum's field has. -/
def fls (n : Int) : Int := 65535 - oc n
theorem fls_range (n : Int) : 0 ≤ fls n ∧ fls n ≤ 65535 := by
  have := oc_range n
  unfold fls
  omega
theorem seg_field_tells {a b : List Int} (ha : Bytes a) (hb : Bytes b) (na : a.length ≤ 140737488355328) (nb : b.length ≤ 140737488355328) (k : Nat) (ka : a.length + 6 ≤ k) (kb : b.length + 6 ≤ k) : seg_field.f k a b = some (fls (S a + S b)) := by
  have h1 := oc_range (S a); have h2 := oc_range (S b)
  unfold seg_field.f fls
  rw [sum_tells ha na k ka]
  simp only [Option.bind_some]
  rw [sum_tells hb nb k kb]
  simp only [Option.bind_some]
  rw [add_tells h1 h2 k (by omega)]
  simp only [Option.bind_some]
  have h3 := oc_range (oc (S a) + oc (S b))
  rw [not16 h3.1 h3.2, oc_add (S_nonneg ha) h2.1, oc_add' (S_nonneg ha) (S_nonneg hb)]
def segHead (a b c d e f : Int) : List Int := [a / 256 % 256, a % 256, b / 256 % 256, b % 256, c / 256 / 256 / 256 % 256, c / 256 / 256 % 256, c / 256 % 256, c % 256, d / 256 / 256 / 256 % 256, d / 256 / 256 % 256, d / 256 % 256, d % 256, 80, e, f / 256 % 256, f % 256]
theorem head_bytes (a b c d : Int) {e : Int} (h0 : 0 ≤ e) (h1 : e ≤ 255) (f : Int) : Bytes (segHead a b c d e f) := by
  unfold segHead
  repeat' first
  | exact bytes_nil
  | apply bytes_cons
  | omega
/-- What a seg's bytes are. -/
def segBytes (a b c d e f : Int) (l : List Int) : List Int × Int :=
  if e ≥ 64 then ([], 90) else if l.length ≤ 2028 then (segHead a b c d e f ++ [fls (S (segHead a b c d e f) + S l) / 256 % 256, fls (S (segHead a b c d e f) + S l) % 256, 0, 0], 0) else ([], 5)
theorem seg_ahead {a b c d e f : Int} (hc : 0 ≤ c ∧ c ≤ 4294967295) (hd : 0 ≤ d ∧ d ≤ 4294967295) (he : 0 ≤ e ∧ e < 64) (n : Nat) : seg_Bytes.ahead a b c d e f n = segHead a b c d e f ++ [0, 0, 0, 0] := by
  unfold seg_Bytes.ahead segHead
  rw [wrap_u16 (x := c / 65536) (by omega) (by omega), wrap_u16 (x := d / 65536) (by omega) (by omega), wrap_u16 (x := e) (by omega) (by omega), or_20480 he.1 he.2, IntKind.wrap_u16, IntKind.wrap_u16,
    show c / 65536 / 256 % 256 = c / 256 / 256 / 256 % 256 by omega, show c / 65536 % 256 = c / 256 / 256 % 256 by omega, show c % 65536 / 256 % 256 = c / 256 % 256 by omega, show c % 65536 % 256 = c % 256 by omega,
    show d / 65536 / 256 % 256 = d / 256 / 256 / 256 % 256 by omega, show d / 65536 % 256 = d / 256 / 256 % 256 by omega, show d % 65536 / 256 % 256 = d / 256 % 256 by omega, show d % 65536 % 256 = d % 256 by omega,
    show (20480 + e) / 256 % 256 = 80 by omega, show (20480 + e) % 256 = e by omega]
  rfl
theorem seg_behind {a b c d e f : Int} (hc : 0 ≤ c ∧ c ≤ 4294967295) (hd : 0 ≤ d ∧ d ≤ 4294967295) (he : 0 ≤ e ∧ e < 64) (n : Nat) (s : Int) : seg_Bytes.bytes a b c d e f n s = segHead a b c d e f ++ [s / 256 % 256, s % 256, 0, 0] := by
  unfold seg_Bytes.bytes segHead
  rw [wrap_u16 (x := c / 65536) (by omega) (by omega), wrap_u16 (x := d / 65536) (by omega) (by omega), wrap_u16 (x := e) (by omega) (by omega), or_20480 he.1 he.2, IntKind.wrap_u16, IntKind.wrap_u16,
    show c / 65536 / 256 % 256 = c / 256 / 256 / 256 % 256 by omega, show c / 65536 % 256 = c / 256 / 256 % 256 by omega, show c % 65536 / 256 % 256 = c / 256 % 256 by omega, show c % 65536 % 256 = c % 256 by omega,
    show d / 65536 / 256 % 256 = d / 256 / 256 / 256 % 256 by omega, show d / 65536 % 256 = d / 256 / 256 % 256 by omega, show d % 65536 / 256 % 256 = d / 256 % 256 by omega, show d % 65536 % 256 = d % 256 by omega,
    show (20480 + e) / 256 % 256 = 80 by omega, show (20480 + e) % 256 = e by omega]
  rfl
theorem S_zeros : S [0, 0, 0, 0] = 0 := by simp [S]
theorem zeros_bytes : Bytes [0, 0, 0, 0] := bytes_cons (by omega) (by omega) (bytes_cons (by omega) (by omega) (bytes_cons (by omega) (by omega) (bytes_cons (by omega) (by omega) bytes_nil)))
theorem seg_bytes (a b : Int) {c d e : Int} (f : Int) (hc : 0 ≤ c ∧ c ≤ 4294967295) (hd : 0 ≤ d ∧ d ≤ 4294967295) (he : 0 ≤ e ∧ e ≤ 255) {l : List Int} (hl : Bytes l) (k : Nat) (hk : 2060 ≤ k) : seg_Bytes.f k a b c d e f l = some (segBytes a b c d e f l) := by
  unfold seg_Bytes.f segBytes seg_Check.f
  by_cases h64 : e ≥ 64
  · rw [if_pos h64, if_pos h64]
    rfl
  · rw [if_neg h64, if_neg h64]
    simp only [Option.bind_some, if_true]
    by_cases h : l.length ≤ 2028
    · have he' : 0 ≤ e ∧ e < 64 := by omega
      have hB := head_bytes a b c d he.1 he.2 f
      have hf := seg_field_tells (bytes_append hB zeros_bytes) hl (by simp [segHead]) (by omega) k (by simp [segHead]; omega) (by omega)
      rw [S_append_even _ _ (by simp [segHead]), S_zeros, Int.add_zero] at hf
      rw [if_pos h, if_pos h, seg_ahead hc hd he', hf]
      simp only [Option.bind_some]
      rw [seg_behind hc hd he']
    · rw [if_neg h, if_neg h]
/-- What a seg's reading tells. -/
def segRead (l : List Int) : Int × Int × Int × Int × Int × Int × Int :=
  if (l.length : Int) < 20 then (0, 0, 0, 0, 0, 0, 6) else if rd l 12 = 80 ∧ rd l 13 < 64 ∧ rd l 18 = 0 ∧ rd l 19 = 0 then (if rd l 16 * 256 + rd l 17 = fls (S (l.take 16) + S (l.drop 18)) then (rd l 0 * 256 + rd l 1, rd l 2 * 256 + rd l 3, ((rd l 4 * 256 + rd l 5) * 256 + rd l 6) * 256 + rd l 7, ((rd l 8 * 256 + rd l 9) * 256 + rd l 10) * 256 + rd l 11, rd l 13, rd l 14 * 256 + rd l 15, 0) else (0, 0, 0, 0, 0, 0, 110)) else (0, 0, 0, 0, 0, 0, 90)
theorem segword_at {l : List Int} (hl : Bytes l) (j : Nat) (h : j + 2 ≤ l.length) : seg_word.f (l.drop j) = some (rd l (j : Int) * 256 + rd l ((j + 1 : Nat) : Int)) := by
  have e0 := rd_drop l j 0; have e1 := rd_drop l j 1
  simp only [Nat.add_zero, Int.cast_ofNat_Int] at e0 e1
  rw [word_seg (bytes_drop hl j) (by rw [List.length_drop]; omega), e0, e1]
theorem half32 {x y u v : Int} (hx : 0 ≤ x ∧ x ≤ 255) (hy : 0 ≤ y ∧ y ≤ 255) (hu : 0 ≤ u ∧ u ≤ 255) (hv : 0 ≤ v ∧ v ≤ 255) : Go.bits .or .u32 (IntKind.u32.wrap ((IntKind.u32.wrap (x * 256 + y)) * 65536)) (IntKind.u32.wrap (u * 256 + v)) = ((x * 256 + y) * 256 + u) * 256 + v := by
  rw [wrap_u32 (x := x * 256 + y) (by omega) (by omega), wrap_u32 (x := u * 256 + v) (by omega) (by omega), wrap_u32 (by omega) (by omega), or_half32 (by omega) (by omega) (by omega) (by omega)]
  omega
theorem seg_read {l : List Int} (hl : Bytes l) (hn : l.length ≤ 140737488355328) (k : Nat) (hk : l.length + 20 ≤ k) : seg_Read.f k l = some (segRead l) := by
  unfold seg_Read.f segRead
  by_cases h : (l.length : Int) < 20
  · rw [if_pos h, if_pos h]
  · have a := fun i => rd_byte hl i
    have a12 := a 12; have a13 := a 13; have a18 := a 18; have a19 := a 19
    have w0 := word_seg hl (by omega)
    have w2 := segword_at hl 2 (by omega); have w4 := segword_at hl 4 (by omega); have w6 := segword_at hl 6 (by omega)
    have w8 := segword_at hl 8 (by omega); have w10 := segword_at hl 10 (by omega); have w12 := segword_at hl 12 (by omega); have w14 := segword_at hl 14 (by omega)
    have w16 := segword_at hl 16 (by omega); have w18 := segword_at hl 18 (by omega)
    have hf := seg_field_tells (bytes_take hl 16) (bytes_drop hl 18) (by rw [List.length_take]; omega) (by rw [List.length_drop]; omega) k (by rw [List.length_take]; omega) (by rw [List.length_drop]; omega)
    simp only [Int.cast_ofNat_Int, Nat.reduceAdd] at w2 w4 w6 w8 w10 w12 w14 w16 w18
    rw [if_neg h, if_neg h, w12]
    simp only [Option.bind_some]
    rw [andNot_63 (by omega) (by omega)]
    by_cases h1 : rd l 12 = 80 ∧ rd l 13 < 64 ∧ rd l 18 = 0 ∧ rd l 19 = 0
    · rw [if_pos h1, if_pos (by omega), w18]
      simp only [Option.bind_some]
      rw [if_pos (by omega), w16, hf]
      simp only [Option.bind_some]
      by_cases h2 : rd l 16 * 256 + rd l 17 = fls (S (l.take 16) + S (l.drop 18))
      · rw [if_pos h2, if_pos h2]
        simp only [w0, w2, w4, w6, w8, w10, w14, Option.bind_some]
        rw [half32 (a 4) (a 5) (a 6) (a 7), half32 (a 8) (a 9) (a 10) (a 11)]
      · rw [if_neg h2, if_neg h2]
    · rw [if_neg h1]
      by_cases h2 : (rd l 12 * 256 + rd l 13) / 64 * 64 = 20480
      · rw [if_pos h2, w18]
        simp only [Option.bind_some]
        rw [if_neg (by omega)]
      · rw [if_neg h2]
theorem ten {l : List Int} (h : 10 ≤ l.length) : ∃ a0 a1 a2 a3 a4 a5 a6 a7 a8 a9 t, l = a0 :: a1 :: a2 :: a3 :: a4 :: a5 :: a6 :: a7 :: a8 :: a9 :: t := by
  match l, h with
  | a0 :: a1 :: a2 :: a3 :: a4 :: a5 :: a6 :: a7 :: a8 :: a9 :: t, _ => exact ⟨a0, a1, a2, a3, a4, a5, a6, a7, a8, a9, t, rfl⟩
theorem twenty {l : List Int} (h : 20 ≤ l.length) : ∃ a0 a1 a2 a3 a4 a5 a6 a7 a8 a9 b0 b1 b2 b3 b4 b5 b6 b7 b8 b9 t, l = a0 :: a1 :: a2 :: a3 :: a4 :: a5 :: a6 :: a7 :: a8 :: a9 :: b0 :: b1 :: b2 :: b3 :: b4 :: b5 :: b6 :: b7 :: b8 :: b9 :: t := by
  obtain ⟨a0, a1, a2, a3, a4, a5, a6, a7, a8, a9, t, rfl⟩ := ten (l := l) (by omega)
  simp only [List.length_cons] at h
  obtain ⟨b0, b1, b2, b3, b4, b5, b6, b7, b8, b9, t, rfl⟩ := ten (l := t) (by omega)
  exact ⟨a0, a1, a2, a3, a4, a5, a6, a7, a8, a9, b0, b1, b2, b3, b4, b5, b6, b7, b8, b9, t, rfl⟩
theorem S_nought16 {l : List Int} (h : 20 ≤ l.length) : S ((l.set 16 0).set 17 0) = S (l.take 16) + S (l.drop 18) := by
  obtain ⟨a0, a1, a2, a3, a4, a5, a6, a7, a8, a9, b0, b1, b2, b3, b4, b5, b6, b7, b8, b9, t, rfl⟩ := twenty h
  simp only [List.set_cons_succ, List.set_cons_zero, List.take_succ_cons, List.take_zero, List.drop_succ_cons, List.drop_zero, S]
  omega
end Go.Proofs.Ytipdajgcepefgaa.M
