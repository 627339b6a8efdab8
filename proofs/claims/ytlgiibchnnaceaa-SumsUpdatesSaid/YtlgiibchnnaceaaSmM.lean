/- Sx laws of sums: the mathematics of ones' complement sums, and the contracts. Conditions: none. -/
import Derived.Test.YtlgiibchnnaceaaMx
import Derived.Test.YtlgiibchnnaceaaSmA
set_option linter.unusedVariables false
set_option linter.unusedSimpArgs false
namespace Go.Proofs.Ytlgiibchnnaceaa.Sx
open Go
/-- The sum of a row's words, the last byte an upper one. -/
def wsum : List Int → Int
  | [] => 0
  | [a] => a * 256
  | a :: b :: r => a * 256 + b + wsum r
/-- A number of sixteen bits, carried round. -/
def ocs (n : Int) : Int := if n ≤ 0 then 0 else (n - 1) % 65535 + 1
theorem ocs_range (n : Int) : 0 ≤ ocs n ∧ ocs n ≤ 65535 := by unfold ocs; split <;> omega
theorem ocs_id {n : Int} (h0 : 0 ≤ n) (h1 : n ≤ 65535) : ocs n = n := by unfold ocs; split <;> omega
theorem ocs_fold {n : Int} (h : 65535 < n) : ocs (n / 65536 + (n - n / 65536 * 65536)) = ocs n := by unfold ocs; split <;> split <;> omega
theorem wsum_range {l : List Int} (h : Bytes l) : 0 ≤ wsum l ∧ 2 * wsum l ≤ 65535 * (l.length + 1) := by
  have : ∀ (n : Nat) (l : List Int), l.length ≤ n → Bytes l → 0 ≤ wsum l ∧ 2 * wsum l ≤ 65535 * (l.length + 1) := by
    intro n
    induction n with
    | zero => intro l hl _; have : l = [] := List.eq_nil_of_length_eq_zero (by omega); subst this; simp [wsum]
    | succ n ih =>
      intro l hl hb
      match l, hl, hb with
      | [], _, _ => simp [wsum]
      | [a], _, hb => have := hb a (by simp); simp [wsum]; omega
      | a :: b :: r, hl, hb =>
        have h1 := hb a (by simp)
        have h2 := hb b (by simp)
        have h3 := ih r (by simp at hl; omega) (fun z hz => hb z (by simp [hz]))
        simp [wsum]; omega
  exact this _ l (Nat.le_refl _) h
theorem wsum_two : ∀ (i : Nat) (l : List Int), 2 * i + 1 < l.length → wsum (l.take (2 * i + 2)) = wsum (l.take (2 * i)) + (l[2 * i]?.getD 0 * 256 + l[2 * i + 1]?.getD 0)
  | 0, l, h => by
    match l, h with
    | a :: b :: r, _ => simp [wsum]
  | i + 1, l, h => by
    match l, h with
    | a :: b :: r, h =>
      have := wsum_two i r (by simp at h; omega)
      rw [show 2 * (i + 1) + 2 = (2 * i + 2) + 1 + 1 from by omega, show 2 * (i + 1) = 2 * i + 1 + 1 from by omega, show 2 * i + 1 + 1 + 1 = (2 * i + 1) + 1 + 1 from by omega]
      simp only [List.take_succ_cons, wsum, List.getElem?_cons_succ, this]
      omega
theorem wsum_last : ∀ (i : Nat) (l : List Int), l.length = 2 * i + 1 → wsum l = wsum (l.take (2 * i)) + l[2 * i]?.getD 0 * 256
  | 0, l, h => by
    match l, h with
    | [a], _ => simp [wsum]
  | i + 1, l, h => by
    match l, h with
    | a :: b :: r, h =>
      have := wsum_last i r (by simp at h; omega)
      rw [show 2 * (i + 1) = 2 * i + 1 + 1 from by omega]
      simp only [List.take_succ_cons, wsum, List.getElem?_cons_succ]
      rw [this]
      omega
/-- One byte more. -/
theorem wsum_one (i : Nat) (l : List Int) (h : i < l.length) : wsum (l.take (i + 1)) = wsum (l.take i) + (if i % 2 = 0 then l[i]?.getD 0 * 256 else l[i]?.getD 0) := by
  by_cases hi : i % 2 = 0
  · rw [if_pos hi]
    obtain ⟨k, rfl⟩ : ∃ k, i = 2 * k := ⟨i / 2, by omega⟩
    have := wsum_last k (l.take (2 * k + 1)) (by simp; omega)
    rw [this, List.take_take, Nat.min_eq_left (by omega), List.getElem?_take, if_pos (by omega)]
  · rw [if_neg hi]
    obtain ⟨k, rfl⟩ : ∃ k, i = 2 * k + 1 := ⟨i / 2, by omega⟩
    have h1 := wsum_two k l (by omega)
    have h2 := wsum_last k (l.take (2 * k + 1)) (by simp; omega)
    rw [List.take_take, Nat.min_eq_left (by omega), List.getElem?_take, if_pos (by omega)] at h2
    rw [show 2 * k + 1 + 1 = 2 * k + 2 from rfl, h1, h2]
    omega
/-- What the symbols stand for. -/
structure SumSig (Φ : Sig) : Prop where
  sum : ∀ x y z, Φ 1 x y z = .i (ocs (wsum x.list))
  ocs : ∀ x y z, Φ 2 x y z = .i (ocs x.int)
theorem wrap_ocs (n : Int) : IntKind.u16.wrap (ocs n) = ocs n := wrap_is (k := .u16) (ocs_range n).1 (ocs_range n).2
end Go.Proofs.Ytlgiibchnnaceaa.Sx
