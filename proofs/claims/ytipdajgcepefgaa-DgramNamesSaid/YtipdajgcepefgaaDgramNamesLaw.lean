/- The closed statement on the numbers and both ends of Dgram headers, out of the universal statements. -/
import Derived.Test.YtipdajgcepefgaaPx0
import Derived.Test.YtipdajgcepefgaaPx13
import Derived.Test.YtipdajgcepefgaaPx14
import Derived.Test.YtipdajgcepefgaaPx17
import Derived.Test.YtipdajgcepefgaaPx18
import Derived.Test.YtipdajgcepefgaaPx20
import Derived.Test.YtipdajgcepefgaaDgramLaws
namespace Go.Proofs.Ytipdajgcepefgaa.M
open Go Go.RowKit Go.Proofs.YtipdajgcepefgaaW.PrintWords Go.Proofs.Ytipdajgcepefgaa.P
set_option linter.unusedVariables false

theorem up_le {α : Type} {G : Nat → Option α} (hm : ∀ k, LeO (G k) (G (k + 1))) {r : α} {k : Nat} (e : G k = some r) : ∀ d, G (k + d) = some r
  | 0 => e
  | d + 1 => hm (k + d) r (up_le hm e d)
theorem up_to {α : Type} {G : Nat → Option α} (hm : ∀ k, LeO (G k) (G (k + 1))) {r : α} {k : Nat} (e : G k = some r) (m : Nat) (h : k ≤ m) : G m = some r := by
  have := up_le hm e (m - k)
  rwa [show k + (m - k) = m from by omega] at this
theorem wf_of_bytes {l : List Int} (h : Bytes l) : ∀ x ∈ l, (Lit.int .u8 x).wf = true := by
  intro x hx
  have := h x hx
  simp only [Lit.wf, Bool.and_eq_true, decide_eq_true_eq]
  exact this
theorem noughts_bytes (n : Nat) : Bytes (List.replicate n 0) := by
  intro x hx
  have := List.eq_of_mem_replicate hx
  omega
theorem names_reads {l : List Int} (hl : Bytes l) (hn : l.length ≤ 1000000) : ∃ K, ∀ k, K ≤ k → sallyportlaw10_DgramReads.f k l = some true := by
  obtain ⟨K, hK⟩ := dgramReadsLaw l (by unfold maxLen; omega) (by omega) (wf_of_bytes hl)
  exact ⟨K, fun k h => up_to (G := fun k => sallyportlaw10_DgramReads.f k l) (sallyportlaw10_DgramReads.mono l) hK k h⟩
theorem names_bytes {l : List Int} (hl : Bytes l) (hn : l.length ≤ 1000000) : (∃ K, ∀ k, K ≤ k → sallyportlaw10_DgramBytes.f k 53 1024 l = some true) ∧ (∃ K, ∀ k, K ≤ k → sallyportlaw10_DgramBytes.f k 0 0 l = some true) := by
  refine ⟨?_, ?_⟩
  · obtain ⟨K, hK⟩ := dgramBytesLaw 53 1024 l (by decide) (by decide) (by unfold maxLen; omega) (by omega) (wf_of_bytes hl)
    exact ⟨K, fun k h => up_to (G := fun k => sallyportlaw10_DgramBytes.f k 53 1024 l) (sallyportlaw10_DgramBytes.mono 53 1024 l) hK k h⟩
  · obtain ⟨K, hK⟩ := dgramBytesLaw 0 0 l (by decide) (by decide) (by unfold maxLen; omega) (by omega) (wf_of_bytes hl)
    exact ⟨K, fun k h => up_to (G := fun k => sallyportlaw10_DgramBytes.f k 0 0 l) (sallyportlaw10_DgramBytes.mono 0 0 l) hK k h⟩
theorem names_back {l : List Int} (hl : Bytes l) (hn : l.length ≤ 1000000) : ∃ K, ∀ k, K ≤ k → sallyportlaw10_DgramBack.f k 53 1024 l [] = some true := by
  obtain ⟨K, hK⟩ := dgramBackLaw 53 1024 l [] (by decide) (by decide) (by unfold maxLen; omega) (by omega) (wf_of_bytes hl) (by unfold maxLen; simp) (by simp) (wf_of_bytes bytes_nil)
  exact ⟨K, fun k h => up_to (G := fun k => sallyportlaw10_DgramBack.f k 53 1024 l []) (sallyportlaw10_DgramBack.mono 53 1024 l []) hK k h⟩
theorem names_end : ∃ K, ∀ k, K ≤ k → sallyportlaw10_DgramNames.l0 k (dgramL ++ [255, 255]) (((dgramL ++ [255, 255]).length : Nat) : Int) 53 1024 = some true := by
  have hB := fun n => noughts_bytes n
  obtain ⟨K1, h1⟩ := (names_bytes (hB 2040) (by rw [List.length_replicate]; omega)).1
  obtain ⟨K2, h2⟩ := (names_bytes (hB 2041) (by rw [List.length_replicate]; omega)).1
  obtain ⟨K3, h3⟩ := (names_bytes bytes_nil (by simp)).2
  obtain ⟨K4, h4⟩ := names_reads (hB 70000) (by rw [List.length_replicate]; omega)
  obtain ⟨K5, h5⟩ := names_back (hB 2040) (by rw [List.length_replicate]; omega)
  have hW : Bytes (dgramL ++ [255, 255]) := (bytes_append dgramL_bytes ff_bytes)
  have hS : Bytes (((dgramL ++ [255, 255]).set 6 0).set 7 0) := bytes_set (bytes_set hW 6 (by omega) (by omega)) 7 (by omega) (by omega)
  have hF : Bytes [255, 247, 0, 0, 0, 8, 255, 255] := by
    intro x hx
    have : ∀ y ∈ [255, 247, 0, 0, 0, 8, 255, 255], (0 : Int) ≤ y ∧ y ≤ 255 := by decide
    exact this x hx
  have q1 : dgramRead (((dgramL ++ [255, 255]).set 6 0).set 7 0) = (0, 0, 110) := by rfl
  have q2 : dgramBytes 65527 0 [] = ([255, 247, 0, 0, 0, 8, 255, 255], 0) := by rfl
  have q3 : dgramRead [255, 247, 0, 0, 0, 8, 255, 255] = (65527, 0, 0) := by rfl
  refine ⟨K1 + K2 + K3 + K4 + K5 + 3000, fun k hk => ?_⟩
  obtain ⟨m, rfl⟩ : ∃ m, k = m + 1 := ⟨k - 1, by omega⟩
  simp only [sallyportlaw10_DgramNames.l0]
  rw [if_neg (by omega), copy_tells (dgramL ++ [255, 255]) (by decide)]
  simp only [Option.bind_some, Int.reduceToNat]
  rw [if_pos (by decide), if_pos (by decide), dgram_read hS (by decide) m (by simp [dgramL]; omega), q1]
  simp only [Option.bind_some]
  rw [dgram_bytes 65527 0 bytes_nil m (by omega), q2]
  simp only [Option.bind_some]
  rw [dgram_read hF (by decide) m (by simp; omega), q3]
  simp only [Option.bind_some]
  rw [if_pos trivial, if_pos trivial, eq_self _ (by decide) m (by simp; omega)]
  simp only [Option.bind_some, if_true]
  rw [if_neg (by decide)]
  rw [awake_dgram m (by omega)]
  simp only [Option.bind_some, if_true]
  rw [if_pos (by decide), h1 m (by omega)]
  simp only [Option.bind_some, if_true]
  rw [if_pos (by decide), h2 m (by omega)]
  simp only [Option.bind_some, if_true]
  rw [h3 m (by omega)]
  simp only [Option.bind_some, if_true]
  rw [if_pos (by decide), h4 m (by omega)]
  simp only [Option.bind_some, if_true]
  rw [h5 m (by omega)]
  rfl
theorem names_loop {X : List Int} (hX : Bytes X) (hn : X.length ≤ 100000) (hend : ∃ K, ∀ k, K ≤ k → sallyportlaw10_DgramNames.l0 k X (X.length : Int) 53 1024 = some true) : ∀ (d i : Nat), i + d = X.length → ∃ K, ∀ k, K ≤ k → sallyportlaw10_DgramNames.l0 k X (i : Int) 53 1024 = some true := by
  intro d
  induction d with
  | zero =>
    intro i hi
    obtain rfl : i = X.length := by omega
    exact hend
  | succ d ih =>
    intro i hi
    obtain ⟨K0, h0⟩ := ih (i + 1) (by omega)
    have b := rd_byte hX (i : Int)
    have x16 := xor8_range (x := rd X (i : Int)) (y := 16) b.1 b.2 (by omega) (by omega)
    obtain ⟨K1, h1⟩ := names_reads (l := X.set i (Go.bits .xor .u8 (rd X (i : Int)) 16)) (bytes_set hX i x16.1 x16.2) (by rw [List.length_set]; omega)
    obtain ⟨K2, h2⟩ := names_reads (l := X.take i) (bytes_take hX i) (by rw [List.length_take]; omega)
    obtain ⟨K3, h3⟩ := names_reads (l := X ++ X.take i) (bytes_append hX (bytes_take hX i)) (by rw [List.length_append, List.length_take]; omega)
    refine ⟨K0 + K1 + K2 + K3 + 1, fun k hk => ?_⟩
    obtain ⟨m, rfl⟩ : ∃ m, k = m + 1 := ⟨k - 1, by omega⟩
    have j := join_10 X (X.take i) (by rw [List.length_take]; omega)
    simp only [sallyportlaw10_DgramNames.l0]
    rw [if_pos (by omega), copy_tells X (by omega)]
    simp only [Option.bind_some, Int.toNat_natCast]
    rw [if_pos (by omega), if_pos (by omega), h1 m (by omega)]
    simp only [Option.bind_some, if_true]
    rw [if_pos (by omega), h2 m (by omega)]
    simp only [Option.bind_some, if_true]
    rw [j]
    simp only [Option.bind_some]
    rw [h3 m (by omega)]
    simp only [Option.bind_some, if_true]
    rw [wrap_i64 (by omega) (by omega)]
    exact h0 m (by omega)
theorem namesLaw : sallyportlaw10_DgramNames.Pure := by
  obtain ⟨K, h⟩ := names_loop (X := (dgramL ++ [255, 255])) (bytes_append dgramL_bytes ff_bytes) (by decide) names_end 10 0 (by decide)
  refine ⟨K, ?_⟩
  unfold sallyportlaw10_DgramNames.f sallyportlaw10_usual.f
  simp only [Option.bind_some]
  rw [show ([0, 53, 4, 0, 0, 10, 251, 192] : List Int) = dgramL from rfl, join_10 dgramL [255, 255] (by decide)]
  simp only [Option.bind_some]
  exact h K (Nat.le_refl _)
end Go.Proofs.Ytipdajgcepefgaa.M
