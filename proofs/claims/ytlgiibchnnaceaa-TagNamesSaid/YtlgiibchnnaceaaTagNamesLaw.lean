/- The closed statement on the numbers and both ends of Tag headers, out of the universal statements. -/
import Derived.Test.YtlgiibchnnaceaaPx0
import Derived.Test.YtlgiibchnnaceaaPx12
import Derived.Test.YtlgiibchnnaceaaPx16
import Derived.Test.YtlgiibchnnaceaaPx17
import Derived.Test.YtlgiibchnnaceaaPx20
import Derived.Test.YtlgiibchnnaceaaPx21
import Derived.Test.YtlgiibchnnaceaaPx22
import Derived.Test.YtlgiibchnnaceaaTagLaws
namespace Go.Proofs.Ytlgiibchnnaceaa.M
open Go Go.RowKit Go.Proofs.YtlgiibchnnaceaaW.PrintWords Go.Proofs.Ytlgiibchnnaceaa.P
set_option linter.unusedVariables false

def tagL : List Int := [161, 35, 134, 221]
theorem tagL_bytes : Bytes tagL := bytes_cons (by omega) (by omega) (bytes_cons (by omega) (by omega) (bytes_cons (by omega) (by omega) (bytes_cons (by omega) (by omega) bytes_nil)))
theorem up_le {α : Type} {G : Nat → Option α} (hm : ∀ k, LeO (G k) (G (k + 1))) {r : α} {k : Nat} (e : G k = some r) : ∀ d, G (k + d) = some r
  | 0 => e
  | d + 1 => hm (k + d) r (up_le hm e d)
theorem up_to {α : Type} {G : Nat → Option α} (hm : ∀ k, LeO (G k) (G (k + 1))) {r : α} {k : Nat} (e : G k = some r) (m : Nat) (h : k ≤ m) : G m = some r := by
  have := up_le hm e (m - k)
  rwa [show k + (m - k) = m from by omega] at this
theorem wf_of_bytes {l : List Int} (h : Bytes l) : ∀ x ∈ l, (Lit.int .u8 x).wf = true := by
  intro x hx
  have := h x hx
  simp only [Lit.wf, Bool.and_eq_true, decide_eq_true_eq]
  exact this
theorem noughts_bytes (n : Nat) : Bytes (List.replicate n 0) := by
  intro x hx
  have := List.eq_of_mem_replicate hx
  omega
theorem names_reads {l : List Int} (hl : Bytes l) (hn : l.length ≤ 1000000) : ∃ K, ∀ k, K ≤ k → sallyportlaw06_TagReads.f k l = some true := by
  obtain ⟨K, hK⟩ := tagReads l (by unfold maxLen; omega) (by omega) (wf_of_bytes hl)
  exact ⟨K, fun k h => up_to (G := fun k => sallyportlaw06_TagReads.f k l) (sallyportlaw06_TagReads.mono l) hK k h⟩
theorem names_bytes {l : List Int} (hl : Bytes l) (hn : l.length ≤ 1000000) : (∃ K, ∀ k, K ≤ k → sallyportlaw06_TagBytes.f k 5 291 34525 l = some true) ∧ (∃ K, ∀ k, K ≤ k → sallyportlaw06_TagBytes.f k 0 0 0 l = some true) ∧ (∃ K, ∀ k, K ≤ k → sallyportlaw06_TagBytes.f k 8 0 0 l = some true) := by
  refine ⟨?_, ?_, ?_⟩
  · obtain ⟨K, hK⟩ := tagBytesLaw 5 291 34525 l (by decide) (by decide) (by decide) (by unfold maxLen; omega) (by omega) (wf_of_bytes hl)
    exact ⟨K, fun k h => up_to (G := fun k => sallyportlaw06_TagBytes.f k 5 291 34525 l) (sallyportlaw06_TagBytes.mono 5 291 34525 l) hK k h⟩
  · obtain ⟨K, hK⟩ := tagBytesLaw 0 0 0 l (by decide) (by decide) (by decide) (by unfold maxLen; omega) (by omega) (wf_of_bytes hl)
    exact ⟨K, fun k h => up_to (G := fun k => sallyportlaw06_TagBytes.f k 0 0 0 l) (sallyportlaw06_TagBytes.mono 0 0 0 l) hK k h⟩
  · obtain ⟨K, hK⟩ := tagBytesLaw 8 0 0 l (by decide) (by decide) (by decide) (by unfold maxLen; omega) (by omega) (wf_of_bytes hl)
    exact ⟨K, fun k h => up_to (G := fun k => sallyportlaw06_TagBytes.f k 8 0 0 l) (sallyportlaw06_TagBytes.mono 8 0 0 l) hK k h⟩
theorem names_back {l : List Int} (hl : Bytes l) (hn : l.length ≤ 1000000) : ∃ K, ∀ k, K ≤ k → sallyportlaw06_TagBack.f k 5 291 34525 l [] = some true := by
  obtain ⟨K, hK⟩ := tagBackLaw 5 291 34525 l [] (by decide) (by decide) (by decide) (by unfold maxLen; omega) (by omega) (wf_of_bytes hl) (by unfold maxLen; simp) (by simp) (wf_of_bytes bytes_nil)
  exact ⟨K, fun k h => up_to (G := fun k => sallyportlaw06_TagBack.f k 5 291 34525 l []) (sallyportlaw06_TagBack.mono 5 291 34525 l []) hK k h⟩
theorem names_end : ∃ K, ∀ k, K ≤ k → sallyportlaw06_TagNames.l0 k (tagL ++ []) (((tagL ++ []).length : Nat) : Int) 5 291 34525 = some true := by
  have hB := fun n => noughts_bytes n
  obtain ⟨K1, h1⟩ := (names_bytes (hB 2044) (by rw [List.length_replicate]; omega)).1
  obtain ⟨K2, h2⟩ := (names_bytes (hB 2045) (by rw [List.length_replicate]; omega)).1
  obtain ⟨K3, h3⟩ := (names_bytes bytes_nil (by simp)).2.1
  obtain ⟨K4, h4⟩ := names_reads (hB 70000) (by rw [List.length_replicate]; omega)
  obtain ⟨K5, h5⟩ := names_back (hB 2044) (by rw [List.length_replicate]; omega)
  obtain ⟨K6, h6⟩ := (names_bytes bytes_nil (by simp)).2.2
  obtain ⟨K7, h7⟩ := (names_bytes (hB 2048) (by rw [List.length_replicate]; omega)).2.2
  have hc : tag_Check.f 8 0 0 = some 60 := by decide
  refine ⟨K1 + K2 + K3 + K4 + K5 + 3000 + K6 + K7, fun k hk => ?_⟩
  obtain ⟨m, rfl⟩ : ∃ m, k = m + 1 := ⟨k - 1, by omega⟩
  simp only [sallyportlaw06_TagNames.l0]
  rw [if_neg (by omega), hc]
  simp only [Option.bind_some, if_true]
  rw [h6 m (by omega)]
  simp only [Option.bind_some, if_true]
  rw [if_pos (by decide), h7 m (by omega)]
  simp only [Option.bind_some, if_true]
  rw [awake_tag m (by omega)]
  simp only [Option.bind_some, if_true]
  rw [if_pos (by decide), h1 m (by omega)]
  simp only [Option.bind_some, if_true]
  rw [if_pos (by decide), h2 m (by omega)]
  simp only [Option.bind_some, if_true]
  rw [h3 m (by omega)]
  simp only [Option.bind_some, if_true]
  rw [if_pos (by decide), h4 m (by omega)]
  simp only [Option.bind_some, if_true]
  rw [h5 m (by omega)]
  rfl
theorem names_loop {X : List Int} (hX : Bytes X) (hn : X.length ≤ 100000) (hend : ∃ K, ∀ k, K ≤ k → sallyportlaw06_TagNames.l0 k X (X.length : Int) 5 291 34525 = some true) : ∀ (d i : Nat), i + d = X.length → ∃ K, ∀ k, K ≤ k → sallyportlaw06_TagNames.l0 k X (i : Int) 5 291 34525 = some true := by
  intro d
  induction d with
  | zero =>
    intro i hi
    obtain rfl : i = X.length := by omega
    exact hend
  | succ d ih =>
    intro i hi
    obtain ⟨K0, h0⟩ := ih (i + 1) (by omega)
    have b := rd_byte hX (i : Int)
    have x16 := xor8_range (x := rd X (i : Int)) (y := 16) b.1 b.2 (by omega) (by omega)
    obtain ⟨K1, h1⟩ := names_reads (l := X.set i (Go.bits .xor .u8 (rd X (i : Int)) 16)) (bytes_set hX i x16.1 x16.2) (by rw [List.length_set]; omega)
    obtain ⟨K2, h2⟩ := names_reads (l := X.take i) (bytes_take hX i) (by rw [List.length_take]; omega)
    obtain ⟨K3, h3⟩ := names_reads (l := X ++ X.take i) (bytes_append hX (bytes_take hX i)) (by rw [List.length_append, List.length_take]; omega)
    refine ⟨K0 + K1 + K2 + K3 + 1, fun k hk => ?_⟩
    obtain ⟨m, rfl⟩ : ∃ m, k = m + 1 := ⟨k - 1, by omega⟩
    have j := join_06 X (X.take i) (by rw [List.length_take]; omega)
    simp only [sallyportlaw06_TagNames.l0]
    rw [if_pos (by omega), copy_tells X (by omega)]
    simp only [Option.bind_some, Int.toNat_natCast]
    rw [if_pos (by omega), if_pos (by omega), h1 m (by omega)]
    simp only [Option.bind_some, if_true]
    rw [if_pos (by omega), h2 m (by omega)]
    simp only [Option.bind_some, if_true]
    rw [j]
    simp only [Option.bind_some]
    rw [h3 m (by omega)]
    simp only [Option.bind_some, if_true]
    rw [wrap_i64 (by omega) (by omega)]
    exact h0 m (by omega)
theorem namesLaw : sallyportlaw06_TagNames.Pure := by
  obtain ⟨K, h⟩ := names_loop (X := (tagL ++ [])) (bytes_append tagL_bytes bytes_nil) (by decide) names_end 4 0 (by decide)
  refine ⟨K, ?_⟩
  unfold sallyportlaw06_TagNames.f sallyportlaw06_usual.f
  simp only [Option.bind_some]
  rw [show ([161, 35, 134, 221] : List Int) = tagL from rfl, join_06 tagL [] (by decide)]
  simp only [Option.bind_some]
  exact h K (Nat.le_refl _)
end Go.Proofs.Ytlgiibchnnaceaa.M
