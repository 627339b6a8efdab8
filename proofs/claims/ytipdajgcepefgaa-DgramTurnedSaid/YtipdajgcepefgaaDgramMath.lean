/- What the functions over dgrams tell. -/
import Derived.Test.YtipdajgcepefgaaPx0
import Derived.Test.YtipdajgcepefgaaPx10
import Derived.Test.YtipdajgcepefgaaPx11
import Derived.Test.YtipdajgcepefgaaPx12
import Derived.Test.YtipdajgcepefgaaPx16
import Derived.Test.YtipdajgcepefgaaPx2
import Derived.Test.YtipdajgcepefgaaPx5
import Derived.Test.YtipdajgcepefgaaPx6
import Derived.Test.YtipdajgcepefgaaPx7
import Derived.Test.YtipdajgcepefgaaPx9
import Derived.Test.YtipdajgcepefgaaSumsCut
import Derived.Test.YtipdajgcepefgaaDgramNum
import Derived.Test.YtipdajgcepefgaaDgramVal
namespace Go.Proofs.Ytipdajgcepefgaa.M
open Go Go.RowKit Go.Proofs.YtipdajgcepefgaaW.PrintWords Go.Proofs.Ytipdajgcepefgaa.P

/-- What the sum's field has. -/
def fld (n : Int) : Int := if 65535 - oc n = 0 then 65535 else 65535 - oc n
theorem fld_range (n : Int) : 0 ≤ fld n ∧ fld n ≤ 65535 := by
  have := oc_range n
  unfold fld
  split <;> omega
theorem dgram_field_tells {a b : List Int} (ha : Bytes a) (hb : Bytes b) (na : a.length ≤ 140737488355328) (nb : b.length ≤ 140737488355328) (k : Nat) (ka : a.length + 6 ≤ k) (kb : b.length + 6 ≤ k) : dgram_field.f k a b = some (fld (S a + S b)) := by
  have h1 := oc_range (S a); have h2 := oc_range (S b)
  unfold dgram_field.f fld
  rw [sum_tells ha na k ka]
  simp only [Option.bind_some]
  rw [sum_tells hb nb k kb]
  simp only [Option.bind_some]
  rw [add_tells h1 h2 k (by omega)]
  simp only [Option.bind_some]
  have h3 := oc_range (oc (S a) + oc (S b))
  rw [not16 h3.1 h3.2, oc_add (S_nonneg ha) h2.1, oc_add' (S_nonneg ha) (S_nonneg hb)]
  split <;> rfl
theorem ref_field10 {l : List Int} (hl : Bytes l) (hn : l.length ≤ 140737488355328) (k : Nat) (hk : l.length + 1 ≤ k) : sallyportref10_field.f k l = some (fld (S l)) := by
  have h1 := oc_range (S l)
  unfold sallyportref10_field.f fld
  rw [reffield_tells hl hn k hk]
  simp only [Option.bind_some]
  rw [wrap_i64 (by omega) (by omega)]
  split <;> rfl
theorem ref_join10 (a b : List Int) (h : a.length + b.length < 140737488355328) : sallyportref10_join.f a b = some (a ++ b) := by
  unfold sallyportref10_join.f
  simp only [List.nil_append, List.length_nil, Nat.zero_add, Option.bind_some]
  rw [if_pos (by omega), if_pos h]

def dgramAhead (a b : Int) (n : Nat) : List Int := [a / 256 % 256, a % 256, b / 256 % 256, b % 256, (8 + (n : Int)) / 256 % 256, (8 + (n : Int)) % 256, 0, 0]
theorem ahead_bytes (a b : Int) (n : Nat) : Bytes (dgramAhead a b n) :=
  bytes_cons (by omega) (by omega) (bytes_cons (by omega) (by omega) (bytes_cons (by omega) (by omega) (bytes_cons (by omega) (by omega) (bytes_cons (by omega) (by omega) (bytes_cons (by omega) (by omega) (bytes_cons (by omega) (by omega) (bytes_cons (by omega) (by omega) bytes_nil)))))))
/-- What a dgram's bytes are. -/
def dgramBytes (a b : Int) (l : List Int) : List Int × Int :=
  if l.length ≤ 2040 then ([a / 256 % 256, a % 256, b / 256 % 256, b % 256, (8 + (l.length : Int)) / 256 % 256, (8 + (l.length : Int)) % 256, fld (S (dgramAhead a b l.length) + S l) / 256 % 256, fld (S (dgramAhead a b l.length) + S l) % 256], 0) else ([], 5)
theorem dgram_bytes (a b : Int) {l : List Int} (hl : Bytes l) (k : Nat) (hk : 2060 ≤ k) : dgram_Bytes.f k a b l = some (dgramBytes a b l) := by
  unfold dgram_Bytes.f dgramBytes dgram_Check.f dgram_Bytes.bytes
  simp only [Option.bind_some, if_true]
  by_cases h : l.length ≤ 2040
  · rw [if_pos h, if_pos h, show dgram_Bytes.ahead a b l.length = dgramAhead a b l.length from rfl, dgram_field_tells (ahead_bytes a b l.length) hl (by simp [dgramAhead]) (by omega) k (by simp [dgramAhead]; omega) (by omega)]
    rfl
  · rw [if_neg h, if_neg h]
theorem ref_bytes10 {a b : Int} (ha : 0 ≤ a ∧ a ≤ 65535) (hb : 0 ≤ b ∧ b ≤ 65535) {l : List Int} (hl : Bytes l) (k : Nat) (hk : 2060 ≤ k) : sallyportref10_Bytes.f k a b l = some (dgramBytes a b l) := by
  unfold sallyportref10_Bytes.f dgramBytes sallyportref10_Check.f
  simp only [Option.bind_some, if_true]
  by_cases h : l.length ≤ 2040
  · have hf := fld_range (S (dgramAhead a b l.length) + S l)
    have hS : S (dgramAhead a b l.length ++ l) = S (dgramAhead a b l.length) + S l := S_append_even _ _ (by simp [dgramAhead])
    have hj := ref_join10 (dgramAhead a b l.length) l (by simp [dgramAhead]; omega)
    have hd := ref_field10 (bytes_append (ahead_bytes a b l.length) hl) (by simp [dgramAhead]; omega) k (by simp [dgramAhead]; omega)
    rw [hS] at hd
    have n1 := number2_10 (v := a) (by omega) (by omega) k (by omega)
    have n2 := number2_10 (v := b) (by omega) (by omega) k (by omega)
    have n3 := number2_10 (v := 8 + (l.length : Int)) (by omega) (by omega) k (by omega)
    rw [if_neg (by omega), if_pos h, wrap_i64 (x := a) (by omega) (by omega), wrap_i64 (x := b) (by omega) (by omega), wrap_i64 (x := 8 + (l.length : Int)) (by omega) (by omega), n1, n2, n3]
    simp only [Option.bind_some, List.nil_append, List.cons_append, List.length_nil, List.length_cons, Nat.zero_add, Nat.reduceAdd]
    unfold dgramAhead at hj hd ⊢
    simp only [hj, hd, Option.bind_some]
    have t1 : Int.tdiv (fld (S (dgramAhead a b l.length) + S l)) 256 = fld (S (dgramAhead a b l.length) + S l) / 256 := Int.tdiv_eq_ediv_of_nonneg hf.1
    have t2 : Int.tmod (fld (S (dgramAhead a b l.length) + S l)) 256 = fld (S (dgramAhead a b l.length) + S l) % 256 := Int.tmod_eq_emod_of_nonneg hf.1
    unfold dgramAhead at t1 t2 hf
    rw [t1, t2, wrap_i64 (by omega) (by omega)]
    simp
  · rw [if_pos (by omega), if_neg h]

/-- What a dgram's reading tells. -/
def dgramRead (l : List Int) : Int × Int × Int :=
  if (l.length : Int) < 8 then (0, 0, 6) else if rd l 4 * 256 + rd l 5 = (l.length : Int) then (if rd l 6 * 256 + rd l 7 = fld (S (l.take 6) + S (l.drop 8)) then (rd l 0 * 256 + rd l 1, rd l 2 * 256 + rd l 3, 0) else (0, 0, 110)) else (0, 0, 100)
theorem word_at {l : List Int} (hl : Bytes l) (j : Nat) (h : j + 2 ≤ l.length) : dgram_word.f (l.drop j) = some (rd l (j : Int) * 256 + rd l ((j + 1 : Nat) : Int)) := by
  have e0 := rd_drop l j 0; have e1 := rd_drop l j 1
  simp only [Nat.add_zero, Int.cast_ofNat_Int] at e0 e1
  rw [word_dgram (bytes_drop hl j) (by rw [List.length_drop]; omega), e0, e1]
theorem dgram_read {l : List Int} (hl : Bytes l) (hn : l.length ≤ 140737488355328) (k : Nat) (hk : l.length + 20 ≤ k) : dgram_Read.f k l = some (dgramRead l) := by
  unfold dgram_Read.f dgramRead
  by_cases h : (l.length : Int) < 8
  · rw [if_pos h, if_pos h]
  · have a4 := rd_byte hl 4; have a5 := rd_byte hl 5
    have w0 := word_dgram hl (by omega)
    have w2 := word_at hl 2 (by omega); have w4 := word_at hl 4 (by omega); have w6 := word_at hl 6 (by omega)
    have hf := dgram_field_tells (bytes_take hl 6) (bytes_drop hl 8) (by rw [List.length_take]; omega) (by rw [List.length_drop]; omega) k (by rw [List.length_take]; omega) (by rw [List.length_drop]; omega)
    simp only [Int.cast_ofNat_Int, Nat.reduceAdd] at w2 w4 w6
    rw [if_neg h, if_neg h, w4]
    simp only [Option.bind_some]
    rw [wrap_i64 (by omega) (by omega)]
    by_cases h1 : rd l 4 * 256 + rd l 5 = (l.length : Int)
    · rw [if_pos h1, if_pos h1, w6]
      simp only [Option.bind_some]
      rw [hf]
      simp only [Option.bind_some]
      by_cases h2 : rd l 6 * 256 + rd l 7 = fld (S (l.take 6) + S (l.drop 8))
      · rw [if_pos h2, if_pos h2, w0]
        simp only [Option.bind_some]
        rw [w2]
        rfl
      · rw [if_neg h2, if_neg h2]
    · rw [if_neg h1, if_neg h1]
theorem eight {l : List Int} (h : 8 ≤ l.length) : ∃ a0 a1 a2 a3 a4 a5 a6 a7 t, l = a0 :: a1 :: a2 :: a3 :: a4 :: a5 :: a6 :: a7 :: t := by
  match l, h with
  | a0 :: a1 :: a2 :: a3 :: a4 :: a5 :: a6 :: a7 :: t, _ => exact ⟨a0, a1, a2, a3, a4, a5, a6, a7, t, rfl⟩
theorem S_nought {l : List Int} (h : 8 ≤ l.length) : S ((l.set 6 0).set 7 0) = S (l.take 6) + S (l.drop 8) := by
  obtain ⟨a0, a1, a2, a3, a4, a5, a6, a7, t, rfl⟩ := eight h
  simp only [List.set_cons_succ, List.set_cons_zero, List.take_succ_cons, List.take_zero, List.drop_succ_cons, List.drop_zero, S]
  omega
theorem ref_read10 {l : List Int} (hl : Bytes l) (hn : l.length < 140737488355328) (k : Nat) (hk : l.length + 20 ≤ k) : sallyportref10_Read.f k l = some (dgramRead l) := by
  unfold sallyportref10_Read.f dgramRead
  by_cases h : (l.length : Int) < 8
  · rw [if_pos h, if_pos h]
  · have a0 := rd_byte hl 0; have a1 := rd_byte hl 1; have a2 := rd_byte hl 2; have a3 := rd_byte hl 3
    have v0 := value2_10 hl 0 (by omega) (Nat.le_of_lt hn) k (by omega)
    have v2 := value2_10 hl 2 (by omega) (Nat.le_of_lt hn) k (by omega)
    have v4 := value2_10 hl 4 (by omega) (Nat.le_of_lt hn) k (by omega)
    have v6 := value2_10 hl 6 (by omega) (Nat.le_of_lt hn) k (by omega)
    simp only [Int.cast_ofNat_Int, Int.reduceAdd] at v0 v2 v4 v6
    have hB : Bytes ((l.set 6 0).set 7 0) := bytes_set (bytes_set hl 6 (by omega) (by omega)) 7 (by omega) (by omega)
    have hf := ref_field10 hB (by rw [List.length_set, List.length_set]; omega) k (by rw [List.length_set, List.length_set]; omega)
    rw [S_nought (by omega)] at hf
    rw [if_neg h, if_neg h, v4]
    simp only [Option.bind_some]
    by_cases h1 : rd l 4 * 256 + rd l 5 = (l.length : Int)
    · rw [if_pos h1, if_pos h1, copy_tells l hn]
      simp only [Option.bind_some]
      rw [if_pos (by omega), if_pos (by omega), v6]
      simp only [Option.bind_some]
      rw [show (6 : Int).toNat = 6 from rfl, show (7 : Int).toNat = 7 from rfl, hf]
      simp only [Option.bind_some]
      by_cases h2 : rd l 6 * 256 + rd l 7 = fld (S (l.take 6) + S (l.drop 8))
      · rw [if_pos h2, if_pos h2]
        rw [v0]
        simp only [Option.bind_some]
        rw [v2]
        simp only [Option.bind_some]
        rw [wrap_u16 (by omega) (by omega), wrap_u16 (by omega) (by omega)]
      · rw [if_neg h2, if_neg h2]
    · rw [if_neg h1, if_neg h1]
end Go.Proofs.Ytipdajgcepefgaa.M
