/- One byte of a packet turned: what becomes of a sum; the number that 'Bring' brings. -/
import Derived.Test.YtipdajgcepefgaaPx0
import Derived.Test.YtipdajgcepefgaaPx18
import Derived.Test.YtipdajgcepefgaaBase
namespace Go.Proofs.Ytipdajgcepefgaa.M
open Go Go.RowKit Go.Proofs.YtipdajgcepefgaaW.PrintWords Go.Proofs.Ytipdajgcepefgaa.P

theorem S_set : ∀ (l : List Int) (k : Nat) (v : Int), k < l.length → S (l.set k v) = S l + (v - rd l (k : Int)) * (if k % 2 = 0 then 256 else 1)
  | [], k, v, h => by simp at h
  | [a], k, v, h => by
    obtain rfl : k = 0 := by simp only [List.length_cons, List.length_nil] at h; omega
    have e : rd [a] ((0 : Nat) : Int) = a := rfl
    rw [e]
    simp only [List.set_cons_zero, S]
    rw [if_pos trivial]
    omega
  | a :: b :: t, 0, v, h => by
    have e : rd (a :: b :: t) ((0 : Nat) : Int) = a := rfl
    rw [e]
    simp only [List.set_cons_zero, S]
    rw [if_pos trivial]
    omega
  | a :: b :: t, 1, v, h => by
    have e : rd (a :: b :: t) ((1 : Nat) : Int) = b := rfl
    rw [e]
    simp only [List.set_cons_zero, List.set_cons_succ, S]
    rw [if_neg (by omega)]
    omega
  | a :: b :: t, k + 2, v, h => by
    have ih := S_set t k v (by simp only [List.length_cons] at h; omega)
    have e : rd (a :: b :: t) ((k + 2 : Nat) : Int) = rd t (k : Int) := by
      unfold rd
      rw [Int.toNat_natCast, Int.toNat_natCast]
      rfl
    simp only [List.set_cons_succ, S]
    rw [ih, e, show (k + 2) % 2 = k % 2 by omega]
    generalize (v - rd t (k : Int)) * (if k % 2 = 0 then 256 else 1) = z
    omega
theorem rd_set_same (l : List Int) {k : Nat} (v : Int) (h : k < l.length) : rd (l.set k v) (k : Int) = v := by
  rw [rd_of _ k (by rw [List.length_set]; exact h), List.getElem_set_self]
theorem turned_byte {x b : Int} (hx : 0 ≤ x ∧ x ≤ 255) (hb : 1 ≤ b ∧ b ≤ 255) : (0 ≤ Go.bits .xor .u8 x b ∧ Go.bits .xor .u8 x b ≤ 255) ∧ Go.bits .xor .u8 x b ≠ x := by
  refine ⟨xor8_range hx.1 hx.2 (by omega) hb.2, fun e => ?_⟩
  rw [u8_xor x b hx.1 (by omega) (by omega) (by omega)] at e
  have e2 : x.toNat ^^^ b.toNat = x.toNat := by omega
  have h : x.toNat ^^^ (x.toNat ^^^ b.toNat) = b.toNat := by rw [← Nat.xor_assoc, Nat.xor_self, Nat.zero_xor]
  rw [e2, Nat.xor_self] at h
  omega
theorem bring_tells (i n : Int) (h0 : 0 < n) (h1 : n ≤ 9223372036854775807) : ∃ k, sallyportref00_Bring.f i n = some k ∧ 0 ≤ k ∧ k < n := by
  unfold sallyportref00_Bring.f
  rw [if_neg (by omega)]
  have hb : -n < Int.tmod i n ∧ Int.tmod i n < n := by
    rcases Int.le_total 0 i with h | h
    · rw [Int.tmod_eq_emod_of_nonneg h]
      have := Int.emod_nonneg i (show n ≠ 0 by omega); have := Int.emod_lt_of_pos i h0
      omega
    · have e : Int.tmod i n = -(Int.tmod (-i) n) := by rw [Int.neg_tmod, Int.neg_neg]
      rw [e, Int.tmod_eq_emod_of_nonneg (show 0 ≤ -i by omega)]
      have := Int.emod_nonneg (-i) (show n ≠ 0 by omega); have := Int.emod_lt_of_pos (-i) h0
      omega
  by_cases h : Int.tmod i n < 0
  · rw [if_pos h, wrap_i64 (by omega) (by omega)]
    exact ⟨_, rfl, by omega, by omega⟩
  · rw [if_neg h]
    exact ⟨_, rfl, by omega, by omega⟩
theorem turned_sum {q : List Int} (hq : Bytes q) (F : Int → Int) (hF : ∀ n m, 0 ≤ n → 0 ≤ m → F n = F m → (n - m) % 65535 = 0) (a k : Nat) (ha : a + 1 < q.length) (hk : k < q.length) {v : Int} (hv : 0 ≤ v ∧ v ≤ 255) (hne : v ≠ rd q (k : Int))
    (h : rd q (a : Int) * 256 + rd q ((a + 1 : Nat) : Int) = F (S ((q.set a 0).set (a + 1) 0)))
    (h' : rd (q.set k v) (a : Int) * 256 + rd (q.set k v) ((a + 1 : Nat) : Int) = F (S (((q.set k v).set a 0).set (a + 1) 0))) : False := by
  by_cases ka : k = a
  · subst ka
    rw [rd_set_same q v hk, rd_set_other q v (show k + 1 ≠ k by omega), List.set_set] at h'
    omega
  · by_cases kb : k = a + 1
    · subst kb
      rw [rd_set_same q v hk, rd_set_other q v (show a ≠ a + 1 by omega), List.set_comm v 0 (show a + 1 ≠ a by omega), List.set_set] at h'
      omega
    · rw [rd_set_other q v (show a ≠ k by omega), rd_set_other q v (show a + 1 ≠ k by omega), List.set_comm v 0 ka, List.set_comm v 0 kb] at h'
      have hB : Bytes ((q.set a 0).set (a + 1) 0) := bytes_set (bytes_set hq a (by omega) (by omega)) (a + 1) (by omega) (by omega)
      have hB' : Bytes (((q.set a 0).set (a + 1) 0).set k v) := bytes_set hB k hv.1 hv.2
      have e := hF _ _ (S_nonneg hB') (S_nonneg hB) (h'.symm.trans h)
      rw [S_set _ k v (by rw [List.length_set, List.length_set]; exact hk), rd_set_other _ _ kb, rd_set_other _ _ ka] at e
      have hx := rd_byte hq (k : Int)
      split at e <;> omega
end Go.Proofs.Ytipdajgcepefgaa.M
