/- The statement on pieces: true wherever the two pieces together can be laid in memory. -/
import Derived.Test.YtlgiibchnnaceaaPx0
import Derived.Test.YtlgiibchnnaceaaPx10
import Derived.Test.YtlgiibchnnaceaaPx9
import Derived.Test.YtlgiibchnnaceaaSumsAwake
namespace Go.Proofs.Ytlgiibchnnaceaa.M
open Go Go.RowKit Go.Proofs.YtlgiibchnnaceaaW.PrintWords Go.Proofs.Ytlgiibchnnaceaa.P
set_option linter.unusedVariables false

theorem swap16 {t : Int} (h : 0 ≤ t ∧ t ≤ 65535) : Go.bits .or .u16 (IntKind.u16.wrap (t * 256)) (t / 256) = t % 256 * 256 + t / 256 := by
  rw [IntKind.wrap_u16, show t * 256 % 65536 = t % 256 * 256 by omega, or_byte16 (by omega) (by omega) (by omega) (by omega)]
/-- The sum of two pieces. -/
theorem oc_pieces {a b : List Int} (ha : Bytes a) (hb : Bytes b) : oc (S (a ++ b)) = oc (oc (S a) + if a.length % 2 = 1 then oc (S b) % 256 * 256 + oc (S b) / 256 else oc (S b)) := by
  have pa := S_nonneg ha; have pb := S_nonneg hb; have pab := S_nonneg (bytes_append ha hb)
  have ra := oc_range (S a); have rb := oc_range (S b); have ma := oc_mod (S a); have mb := oc_mod (S b); have za := oc_zero pa; have zb := oc_zero pb
  by_cases e : a.length % 2 = 1
  · rw [if_pos e]
    obtain ⟨h1, h2⟩ := S_append_odd a b e
    have h2 := h2 hb
    have z : S (a ++ b) = 0 ↔ S a = 0 ∧ S b = 0 := by
      rw [S_zero (bytes_append ha hb), S_zero ha, S_zero hb]
      constructor
      · intro h
        exact ⟨fun x hx => h x (List.mem_append_left b hx), fun x hx => h x (List.mem_append_right a hx)⟩
      · rintro ⟨h, h'⟩ x hx
        rcases List.mem_append.mp hx with hx | hx
        · exact h x hx
        · exact h' x hx
    refine (oc_unique (n := oc (S a) + (oc (S b) % 256 * 256 + oc (S b) / 256)) (by omega) (oc_range _).1 (oc_range _).2 ?_ ?_)
    · rw [oc_mod]
      omega
    · rw [oc_zero pab, z]
      omega
  · rw [if_neg e, S_append_even a b (by omega), oc_add' (oc_range _).1 pb, oc_add pa pb]
theorem pieces_end {l : List Int} (hl : Bytes l) (hn : l.length ≤ 100000000) {s t : Int} (hs : 0 ≤ s ∧ s ≤ 65535) (ht : 0 ≤ t ∧ t ≤ 65535) (he : oc (S l) = oc (s + t)) (k : Nat) (hk : l.length + 100 ≤ k) {b : Bool} (hb : b = true ↔ ∀ x ∈ l, x = 0) (i : Int) (hi : ¬ i < (l.length : Int)) :
    sallyportlaw01_SumsPieces.l0 (k + 1) s t l b i = some true := by
  have p := S_nonneg hl
  have r := oc_range (S l)
  have m := oc_mod (S l)
  simp only [sallyportlaw01_SumsPieces.l0]
  rw [if_neg hi, sum_tells hl (by omega) k (by omega), add_tells hs ht k (by omega)]
  simp only [Option.bind_some]
  rw [if_pos he]
  have hq : ((oc (S l) == 0) != b) = false := by
    by_cases hz : S l = 0
    · have e1 : oc (S l) = 0 := (oc_zero p).mpr hz
      have e2 : b = true := hb.mpr ((S_zero hl).mp hz)
      rw [e1, e2]; rfl
    · have e1 : ¬ oc (S l) = 0 := fun h => hz ((oc_zero p).mp h)
      have e2 : b = false := by
        cases b with
        | false => rfl
        | true => exact absurd ((S_zero hl).mpr (hb.mp rfl)) hz
      rw [e2, beq_eq_false_iff_ne.mpr e1]; rfl
  rw [hq, if_neg (by simp)]
  have jn := fun x : List Int => fun h : x.length ≤ 10 => show sallyportlaw01_join.f l x = some (l ++ x) by
    unfold sallyportlaw01_join.f
    simp only [List.nil_append, List.length_nil, Nat.zero_add, Option.bind_some]
    rw [if_pos (by omega), if_pos (by omega)]
  by_cases ho : (l.length : Int) % 2 = 1
  · rw [if_pos ho, jn [0] (by simp)]
    simp only [Option.bind_some]
    have hb2 : Bytes (l ++ [0]) := bytes_append hl (bytes_cons (by omega) (by omega) bytes_nil)
    rw [sum_tells hb2 (by simp; omega) k (by simp; omega)]
    simp only [Option.bind_some]
    rw [S_snoc, if_neg (by omega), Int.add_zero]
    simp
  · rw [if_neg ho, field_tells hl (by omega) k (by omega)]
    simp only [Option.bind_some]
    rw [jn _ (by simp)]
    simp only [Option.bind_some]
    have hb2 : Bytes (l ++ [(65535 - oc (S l)) / 256 % 256, (65535 - oc (S l)) % 256]) := bytes_append hl (bytes_cons (by omega) (by omega) (bytes_cons (by omega) (by omega) bytes_nil))
    rw [sum_tells hb2 (by simp; omega) k (by simp; omega)]
    simp only [Option.bind_some]
    have rr := oc_range (S (l ++ [(65535 - oc (S l)) / 256 % 256, (65535 - oc (S l)) % 256]))
    have mm := oc_mod (S (l ++ [(65535 - oc (S l)) / 256 % 256, (65535 - oc (S l)) % 256]))
    have sx : S (l ++ [(65535 - oc (S l)) / 256 % 256, (65535 - oc (S l)) % 256]) = S l + (65535 - oc (S l)) := by
      have ex : S [(65535 - oc (S l)) / 256 % 256, (65535 - oc (S l)) % 256] = 65535 - oc (S l) := by
        have hx : 0 ≤ 65535 - oc (S l) ∧ 65535 - oc (S l) ≤ 65535 := by omega
        generalize 65535 - oc (S l) = x at hx ⊢
        simp only [S]
        clear mm rr hb2 hq he jn m r p
        omega
      rw [S_append_even _ _ (by omega), ex]
    rw [sx] at mm rr ⊢
    have hz : (S l + (65535 - oc (S l))) % 65535 = 0 := by
      clear mm rr sx hb2 hq he jn
      omega
    rw [same_tells rr.1 (by omega)]
    simp only [Option.bind_some]
    rw [decide_eq_true (by omega)]
theorem pieces_loop {l : List Int} (hl : Bytes l) (hn : l.length ≤ 100000000) {s t : Int} (hs : 0 ≤ s ∧ s ≤ 65535) (ht : 0 ≤ t ∧ t ≤ 65535) (he : oc (S l) = oc (s + t)) : ∀ (d i : Nat) (b : Bool), i + d = l.length → (b = true ↔ ∀ x ∈ l.take i, x = 0) → ∀ k, l.length + 101 + d ≤ k →
    sallyportlaw01_SumsPieces.l0 k s t l b (i : Int) = some true := by
  intro d
  induction d with
  | zero =>
    intro i b hi hb k hk
    obtain ⟨m, rfl⟩ : ∃ m, k = m + 1 := ⟨k - 1, by omega⟩
    rw [List.take_of_length_le (by omega)] at hb
    exact pieces_end hl hn hs ht he m (by omega) hb _ (by omega)
  | succ d ih =>
    intro i b hi hb k hk
    obtain ⟨m, rfl⟩ : ∃ m, k = m + 1 := ⟨k - 1, by omega⟩
    have e := take_rd l i (by omega)
    simp only [sallyportlaw01_SumsPieces.l0]
    rw [if_pos (by omega)]
    by_cases hbt : b = true
    · rw [if_pos hbt, if_pos (by omega), wrap_i64 (by omega) (by omega)]
      refine ih (i + 1) _ (by omega) ?_ m (by omega)
      rw [e, beq_iff_eq]
      have h1 := hb.mp hbt
      constructor
      · intro h x hx
        rcases List.mem_append.mp hx with hx | hx
        · exact h1 x hx
        · rw [List.mem_singleton] at hx; omega
      · intro h
        exact h _ (List.mem_append_right _ (List.mem_singleton.mpr rfl))
    · rw [if_neg hbt, wrap_i64 (by omega) (by omega)]
      refine ih (i + 1) _ (by omega) ?_ m (by omega)
      rw [e]
      constructor
      · intro h; cases h
      · intro h
        exact absurd (hb.mpr (fun x hx => h x (List.mem_append_left _ hx))) hbt
theorem sumsPieces {a b : List Int} (ha : Bytes a) (hb : Bytes b) (na : a.length ≤ 10000000) (nb : b.length ≤ 10000000) : ∃ k, sallyportlaw01_SumsPieces.f k a b = some true := by
  obtain ⟨k, K⟩ : ∃ k, a.length + b.length + 200 + (a.length + b.length) ≤ k := ⟨_, Nat.le_refl _⟩
  refine ⟨k, ?_⟩
  have j : sallyportlaw01_join.f a b = some (a ++ b) := by
    unfold sallyportlaw01_join.f
    simp only [List.nil_append, List.length_nil, Nat.zero_add, Option.bind_some]
    rw [if_pos (by omega), if_pos (by omega)]
  have hp := oc_pieces ha hb
  have ra := oc_range (S a); have rb := oc_range (S b)
  unfold sallyportlaw01_SumsPieces.f
  rw [awake_sums k (by omega)]
  simp only [Option.bind_some, if_true]
  rw [sum_tells ha (by omega) k (by omega), sum_tells hb (by omega) k (by omega), j]
  simp only [Option.bind_some]
  have hB := bytes_append ha hb
  by_cases e : (a.length : Int) % 2 = 1
  · rw [if_pos (show a.length % 2 = 1 by omega)] at hp
    rw [if_pos e, swap16 rb]
    exact pieces_loop hB (by rw [List.length_append]; omega) ra (by omega) hp (a ++ b).length 0 true (by omega) (by simp) k (by rw [List.length_append]; omega)
  · rw [if_neg (show ¬ a.length % 2 = 1 by omega)] at hp
    rw [if_neg e]
    exact pieces_loop hB (by rw [List.length_append]; omega) ra rb hp (a ++ b).length 0 true (by omega) (by simp) k (by rw [List.length_append]; omega)
end Go.Proofs.Ytlgiibchnnaceaa.M
