/- Ones' complement sums over lists of bytes: plain mathematics, no program. -/
import Derived.Laws.BitsAllLaws
import Derived.RowKit
import Derived.WalkKit
namespace Go.Proofs.Ytipdajgcepefgaa.M
open Go Go.RowKit

/-- Bytes. -/
def Bytes (l : List Int) : Prop := ∀ x ∈ l, 0 ≤ x ∧ x ≤ 255
theorem bytes_of_wf {l : List Int} (h : ∀ x ∈ l, (Lit.int .u8 x).wf = true) : Bytes l := by
  intro x hx
  have := h x hx
  simp only [Lit.wf, Bool.and_eq_true, decide_eq_true_eq] at this
  exact this
theorem bytes_nil : Bytes [] := by intro x hx; cases hx
theorem bytes_append {a b : List Int} (ha : Bytes a) (hb : Bytes b) : Bytes (a ++ b) := by
  intro x hx
  rcases List.mem_append.mp hx with h | h
  · exact ha x h
  · exact hb x h
theorem bytes_take {a : List Int} (ha : Bytes a) (n : Nat) : Bytes (a.take n) := fun x hx => ha x (List.mem_of_mem_take hx)
theorem bytes_drop {a : List Int} (ha : Bytes a) (n : Nat) : Bytes (a.drop n) := fun x hx => ha x (List.mem_of_mem_drop hx)
theorem bytes_cons {x : Int} {a : List Int} (h0 : 0 ≤ x) (h1 : x ≤ 255) (ha : Bytes a) : Bytes (x :: a) := by
  intro y hy
  rcases List.mem_cons.mp hy with h | h
  · subst h; exact ⟨h0, h1⟩
  · exact ha y h
theorem u16_of_wf {a : Int} (h : (Lit.int .u16 a).wf = true) : 0 ≤ a ∧ a ≤ 65535 := by
  simp only [Lit.wf, Bool.and_eq_true, decide_eq_true_eq] at h
  exact h

/-- The sum before any folding. -/
def S : List Int → Int
  | [] => 0
  | [a] => a * 256
  | a :: b :: t => a * 256 + b + S t
/-- The folded sum. -/
def oc (n : Int) : Int := if n = 0 then 0 else (n - 1) % 65535 + 1

theorem oc_range (n : Int) : 0 ≤ oc n ∧ oc n ≤ 65535 := by unfold oc; split <;> omega
theorem oc_small {n : Int} (h0 : 0 ≤ n) (h1 : n ≤ 65535) : oc n = n := by unfold oc; split <;> omega
theorem oc_zero {n : Int} (_h0 : 0 ≤ n) : oc n = 0 ↔ n = 0 := by unfold oc; split <;> omega
theorem oc_mod (n : Int) : oc n % 65535 = n % 65535 := by unfold oc; split <;> omega
theorem oc_unique {n x : Int} (_hn : 0 ≤ n) (h0 : 0 ≤ x) (h1 : x ≤ 65535) (hm : x % 65535 = n % 65535) (hz : x = 0 ↔ n = 0) : x = oc n := by unfold oc; split <;> omega
theorem oc_fold {n : Int} (hn : 65535 < n) : oc (n / 65536 + n % 65536) = oc n := by
  refine (oc_unique (by omega) (oc_range _).1 (oc_range _).2 ?_ ?_)
  · rw [oc_mod]; omega
  · rw [oc_zero (by omega)]; omega
theorem oc_less {n : Int} (hn : 65535 < n) : oc (n - 65535) = oc n := by unfold oc; split <;> split <;> omega
theorem oc_add {a b : Int} (ha : 0 ≤ a) (hb : 0 ≤ b) : oc (oc a + b) = oc (a + b) := by
  have := oc_range a
  refine oc_unique (by omega) (oc_range _).1 (oc_range _).2 ?_ ?_
  · rw [oc_mod]; have := oc_mod a; omega
  · rw [oc_zero (by omega)]; have := oc_zero ha; omega
theorem oc_add' {a b : Int} (ha : 0 ≤ a) (hb : 0 ≤ b) : oc (a + oc b) = oc (a + b) := by
  rw [Int.add_comm, oc_add hb ha, Int.add_comm]

theorem S_snoc : ∀ (l : List Int) (b : Int), S (l ++ [b]) = S l + if l.length % 2 = 0 then b * 256 else b
  | [], b => by simp [S]
  | [a], b => by simp [S]
  | a :: c :: t, b => by
    have ih := S_snoc t b
    simp only [List.cons_append, S, ih, List.length_cons]
    have e : (t.length + 1 + 1) % 2 = t.length % 2 := by omega
    by_cases h : t.length % 2 = 0
    · rw [if_pos h, if_pos (by omega)]; omega
    · rw [if_neg h, if_neg (by omega)]; omega
theorem S_nonneg : ∀ {l : List Int}, Bytes l → 0 ≤ S l
  | [], _ => by simp [S]
  | [a], h => by have := h a (by simp); simp [S]; omega
  | a :: b :: t, h => by
    have h1 := h a (by simp); have h2 := h b (by simp)
    have h3 := S_nonneg (l := t) (fun x hx => h x (by simp [hx]))
    simp only [S]; omega
theorem S_le : ∀ {l : List Int}, Bytes l → 2 * S l ≤ 65535 * ((l.length : Int) + 1)
  | [], _ => by simp [S]
  | [a], h => by have := h a (by simp); simp [S]; omega
  | a :: b :: t, h => by
    have h1 := h a (by simp); have h2 := h b (by simp)
    have h3 := S_le (l := t) (fun x hx => h x (by simp [hx]))
    simp only [S, List.length_cons]; omega
theorem S_zero : ∀ {l : List Int}, Bytes l → (S l = 0 ↔ ∀ x ∈ l, x = 0)
  | [], _ => by simp [S]
  | [a], h => by have := h a (by simp); simp only [S, List.mem_singleton, forall_eq]; omega
  | a :: b :: t, h => by
    have h1 := h a (by simp); have h2 := h b (by simp)
    have ht : Bytes t := fun x hx => h x (by simp [hx])
    have h3 := S_zero ht; have h4 := S_nonneg ht
    simp only [S, List.mem_cons, forall_eq_or_imp]
    constructor
    · intro e
      exact ⟨by omega, by omega, h3.mp (by omega)⟩
    · rintro ⟨e1, e2, e3⟩
      have := h3.mpr e3
      omega
theorem S_append_even : ∀ (a b : List Int), a.length % 2 = 0 → S (a ++ b) = S a + S b
  | [], b, _ => by simp [S]
  | [x], b, h => by simp at h
  | x :: y :: t, b, h => by
    have ih := S_append_even t b (by simp at h; omega)
    simp only [List.cons_append, S, ih]; omega
/-- Behind an odd number of bytes. -/
theorem S_append_odd (a b : List Int) (h : a.length % 2 = 1) : (S (a ++ b) - S a - 256 * S b) % 65535 = 0 ∧ (Bytes b → S a ≤ S (a ++ b)) := by
  have key : ∀ (n : Nat) (b : List Int), b.length = n → (S (a ++ b) - S a - 256 * S b) % 65535 = 0 ∧ (Bytes b → S a ≤ S (a ++ b)) := by
    intro n
    induction n with
    | zero => intro b hb; obtain rfl := List.length_eq_zero_iff.mp hb; simp [S]
    | succ n ih =>
      intro b hb
      obtain ⟨c, x, rfl⟩ : ∃ c x, b = c ++ [x] := ⟨b.dropLast, b.getLast (by intro e; simp [e] at hb), (List.dropLast_concat_getLast _).symm⟩
      obtain ⟨h1, h2⟩ := ih c (by simp at hb; omega)
      rw [← List.append_assoc, S_snoc, S_snoc, List.length_append]
      refine ⟨?_, fun hB => ?_⟩
      · by_cases e : c.length % 2 = 0
        · rw [if_neg (by omega), if_pos e]; omega
        · rw [if_pos (by omega), if_neg e]; omega
      · have hx := hB x (by simp)
        have := h2 (fun y hy => hB y (by simp [hy]))
        split <;> omega
  exact key b.length b rfl

/-! Bits -/
theorem and_low64 {x : Int} (h0 : 0 ≤ x) (h1 : x < 18446744073709551616) : Go.bits .and .u64 x 65535 = x % 65536 := by
  rw [u64_and x 65535 h0 h1 (by omega) (by omega)]
  have e : ((65535 : Int).toNat) = 2 ^ 16 - 1 := by decide
  rw [e, Nat.and_two_pow_sub_one_eq_mod]
  omega
theorem or_nat {a b : Nat} (hb : b < 256) : a * 256 ||| b = a * 256 + b := by
  have := Nat.two_pow_add_eq_or_of_lt (i := 8) (b := b) (by omega) a
  rw [show a * 256 = 2 ^ 8 * a from by omega]
  exact this.symm
theorem or_byte64 {x y : Int} (h0 : 0 ≤ x) (h1 : x ≤ 255) (h2 : 0 ≤ y) (h3 : y ≤ 255) : Go.bits .or .u64 (x * 256) y = x * 256 + y := by
  rw [u64_or (x * 256) y (by omega) (by omega) (by omega) (by omega)]
  have e : (x * 256).toNat = x.toNat * 256 := by omega
  rw [e, or_nat (by omega)]
  omega
theorem or_byte16 {x y : Int} (h0 : 0 ≤ x) (h1 : x ≤ 255) (h2 : 0 ≤ y) (h3 : y ≤ 255) : Go.bits .or .u16 (x * 256) y = x * 256 + y := by
  rw [u16_or (x * 256) y (by omega) (by omega) (by omega) (by omega)]
  have e : (x * 256).toNat = x.toNat * 256 := by omega
  rw [e, or_nat (by omega)]
  omega
theorem not16 {x : Int} (h0 : 0 ≤ x) (h1 : x ≤ 65535) : Go.bits .xor .u16 65535 x = 65535 - x := by
  rw [u16_xor 65535 x (by omega) (by omega) h0 (by omega)]
  obtain ⟨n, rfl⟩ : ∃ n : Nat, x = n := ⟨x.toNat, by omega⟩
  have hn : n < 65536 := by omega
  have h : (65535 : Nat) ^^^ n = 65535 - n := by
    have e := congrArg BitVec.toNat (BitVec.allOnes_xor (x := BitVec.ofNat 16 n))
    simp only [BitVec.toNat_xor, BitVec.toNat_allOnes, BitVec.toNat_ofNat, BitVec.toNat_not] at e
    rw [Nat.mod_eq_of_lt (by omega)] at e
    simpa using e
  rw [show (65535 : Int).toNat = 65535 from rfl, Int.toNat_natCast, h]
  omega
theorem wrap_u16 {x : Int} (h0 : 0 ≤ x) (h1 : x ≤ 65535) : IntKind.u16.wrap x = x := by
  rw [IntKind.wrap_u16]; omega
theorem wrap_u64 {x : Int} (h0 : 0 ≤ x) (h1 : x < 18446744073709551616) : IntKind.u64.wrap x = x := by
  rw [IntKind.wrap_u64]; omega
theorem wrap_i64 {x : Int} (h0 : -9223372036854775808 ≤ x) (h1 : x ≤ 9223372036854775807) : wrap64 x = x := by
  unfold wrap64; omega
end Go.Proofs.Ytipdajgcepefgaa.M
