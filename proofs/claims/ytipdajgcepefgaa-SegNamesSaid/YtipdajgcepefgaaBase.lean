/- What the statements' own small functions tell, and lists of bytes: plain mathematics over the printed functions. -/
import Derived.Test.YtipdajgcepefgaaPx0
import Derived.Test.YtipdajgcepefgaaPx2
import Derived.Test.YtipdajgcepefgaaMath
namespace Go.Proofs.Ytipdajgcepefgaa.M
open Go Go.RowKit Go.Proofs.YtipdajgcepefgaaW.PrintWords Go.Proofs.Ytipdajgcepefgaa.P

theorem rd_of (l : List Int) (i : Nat) (h : i < l.length) : rd l (i : Int) = l[i] := by
  unfold rd; rw [Int.toNat_natCast, List.getD_eq_getElem?_getD, List.getElem?_eq_getElem h]; rfl
theorem rd_byte {l : List Int} (hl : Bytes l) (i : Int) : 0 ≤ rd l i ∧ rd l i ≤ 255 := by
  unfold rd
  rcases Nat.lt_or_ge i.toNat l.length with h | h
  · rw [List.getD_eq_getElem?_getD, List.getElem?_eq_getElem h]; exact hl _ (List.getElem_mem h)
  · rw [List.getD_eq_getElem?_getD, List.getElem?_eq_none h]; exact ⟨by simp, by simp⟩
theorem take_rd (l : List Int) (i : Nat) (h : i < l.length) : l.take (i + 1) = l.take i ++ [rd l (i : Int)] := by
  rw [rd_of l i h, List.take_succ_eq_append_getElem h]

/-! What the statements use -/
theorem copy_tells (l : List Int) (hn : l.length < 140737488355328) : sallyportref00_CopyBytes.f l = some l := by
  unfold sallyportref00_CopyBytes.f
  rw [if_pos (by simp; omega)]
  simp
theorem eq_loop (a b : List Int) (hab : a.length = b.length) (hn : a.length ≤ 140737488355328) (k : Nat) (hk : 1 ≤ k) : ∀ (d i : Nat), i + d = a.length → a.take i = b.take i →
    sallyportref00_EqBytes.l0 (k + d) a b (i : Int) = some (decide (a = b)) := by
  intro d
  induction d with
  | zero =>
    intro i hi he
    obtain ⟨k, rfl⟩ : ∃ m, k = m + 1 := ⟨k - 1, by omega⟩
    simp only [sallyportref00_EqBytes.l0]
    rw [List.take_of_length_le (by omega), List.take_of_length_le (by omega)] at he
    rw [if_neg (by omega), decide_eq_true he]
  | succ d ih =>
    intro i hi he
    rw [← Nat.add_assoc]
    simp only [sallyportref00_EqBytes.l0]
    rw [if_pos (by omega), if_pos (by omega), if_pos (by omega)]
    by_cases h : rd a (i : Int) = rd b (i : Int)
    · rw [if_pos h, wrap_i64 (by omega) (by omega)]
      exact ih (i + 1) (by omega) (by rw [take_rd a i (by omega), take_rd b i (by omega), he, h])
    · rw [if_neg h, decide_eq_false (fun e => h (by rw [e]))]
theorem eq_tells (a b : List Int) (hn : a.length ≤ 140737488355328) (k : Nat) (hk : a.length + 1 ≤ k) : sallyportref00_EqBytes.f k a b = some (decide (a = b)) := by
  unfold sallyportref00_EqBytes.f
  by_cases h : (a.length : Int) = (b.length : Int)
  · rw [if_pos h]
    have := eq_loop a b (by omega) hn (k - a.length) (by omega) a.length 0 (by omega) (by simp)
    rw [show k - a.length + a.length = k from by omega] at this
    exact this
  · rw [if_neg h, decide_eq_false (fun e => h (by rw [e]))]
theorem rd_append_left {a b : List Int} {i : Nat} (h : i < a.length) : rd (a ++ b) (i : Int) = rd a (i : Int) := by
  rw [rd_of _ i (by rw [List.length_append]; omega), rd_of _ i h, List.getElem_append_left h]
theorem rd_drop (l : List Int) (n : Nat) (i : Nat) : rd (l.drop n) (i : Int) = rd l ((n + i : Nat) : Int) := by
  unfold rd
  simp only [Int.toNat_natCast, List.getD_eq_getElem?_getD, List.getElem?_drop]
theorem rd_take (l : List Int) {n i : Nat} (h : i < n) : rd (l.take n) (i : Int) = rd l (i : Int) := by
  unfold rd
  simp only [Int.toNat_natCast, List.getD_eq_getElem?_getD, List.getElem?_take, h, if_true]
theorem and_4095 {x : Int} (h0 : 0 ≤ x) (h1 : x ≤ 65535) : Go.bits .and .u16 x 4095 = x % 4096 := by
  rw [u16_and x 4095 h0 (by omega) (by omega) (by omega)]
  rw [show ((4095 : Int).toNat) = 2 ^ 12 - 1 from by decide, Nat.and_two_pow_sub_one_eq_mod]
  omega
theorem tmod_nn {a b : Int} (ha : 0 ≤ a) : Int.tmod a b = a % b := Int.tmod_eq_emod_of_nonneg ha
theorem tdiv_nn {a b : Int} (ha : 0 ≤ a) : Int.tdiv a b = a / b := Int.tdiv_eq_ediv_of_nonneg ha

theorem eq_self (l : List Int) (hn : l.length ≤ 140737488355328) (k : Nat) (hk : l.length + 1 ≤ k) : sallyportref00_EqBytes.f k l l = some true := by rw [eq_tells l l hn k hk]; simp
theorem u8_of_wf {a : Int} (h : (Lit.int .u8 a).wf = true) : 0 ≤ a ∧ a ≤ 255 := by
  simp only [Lit.wf, Bool.and_eq_true, decide_eq_true_eq] at h
  exact h
theorem xor8_range {x y : Int} (h0 : 0 ≤ x) (h1 : x ≤ 255) (h2 : 0 ≤ y) (h3 : y ≤ 255) : 0 ≤ Go.bits .xor .u8 x y ∧ Go.bits .xor .u8 x y ≤ 255 := by
  rw [u8_xor x y h0 (by omega) h2 (by omega)]
  have : x.toNat ^^^ y.toNat < 2 ^ 8 := Nat.xor_lt_two_pow (by omega) (by omega)
  omega
theorem rd_set_other (l : List Int) {i j : Nat} (v : Int) (h : j ≠ i) : rd (l.set i v) (j : Int) = rd l (j : Int) := by
  unfold rd
  simp only [Int.toNat_natCast, List.getD_eq_getElem?_getD, List.getElem?_set_ne (Ne.symm h)]
theorem bytes_set {l : List Int} (hl : Bytes l) (i : Nat) {v : Int} (h0 : 0 ≤ v) (h1 : v ≤ 255) : Bytes (l.set i v) := by
  intro x hx
  rcases List.mem_or_eq_of_mem_set hx with h | h
  · exact hl x h
  · subst h; exact ⟨h0, h1⟩
end Go.Proofs.Ytipdajgcepefgaa.M
