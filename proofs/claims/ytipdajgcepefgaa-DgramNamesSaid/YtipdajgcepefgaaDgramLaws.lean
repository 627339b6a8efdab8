/- The statements on dgrams: true for every input, as the printed functions tell. -/
import Derived.Test.YtipdajgcepefgaaPx0
import Derived.Test.YtipdajgcepefgaaPx10
import Derived.Test.YtipdajgcepefgaaPx13
import Derived.Test.YtipdajgcepefgaaPx14
import Derived.Test.YtipdajgcepefgaaPx17
import Derived.Test.YtipdajgcepefgaaPx18
import Derived.Test.YtipdajgcepefgaaPx2
import Derived.Test.YtipdajgcepefgaaPx6
import Derived.Test.YtipdajgcepefgaaPx7
import Derived.Test.YtipdajgcepefgaaDgramMath
namespace Go.Proofs.Ytipdajgcepefgaa.M
open Go Go.RowKit Go.Proofs.YtipdajgcepefgaaW.PrintWords Go.Proofs.Ytipdajgcepefgaa.P

def dgramL : List Int := [0, 53, 4, 0, 0, 10, 251, 192]
theorem dgramL_bytes : Bytes dgramL := by
  intro x hx
  have : ∀ y ∈ dgramL, 0 ≤ y ∧ y ≤ 255 := by decide
  exact this x hx
theorem ff_bytes : Bytes [255, 255] := bytes_cons (by omega) (by omega) (bytes_cons (by omega) (by omega) bytes_nil)
theorem awake_dgram (k : Nat) (hk : 2060 ≤ k) : sallyportlaw10_awake.f k = some true := by
  have hb := dgramL_bytes
  have r := dgram_read (bytes_append hb ff_bytes) (by decide) k (by simp [dgramL]; omega)
  have r3 := dgram_read (bytes_take hb 7) (by decide) k (by simp [dgramL]; omega)
  have b := dgram_bytes 53 1024 ff_bytes k hk
  have j := join_10 dgramL [255, 255] (by decide)
  have q := eq_self dgramL (by decide) k (by simp [dgramL]; omega)
  have e1 : dgramRead (dgramL ++ [255, 255]) = (53, 1024, 0) := by rfl
  have e2 : dgramRead (List.take 7 dgramL) = (0, 0, 6) := by rfl
  have e3 : dgramBytes 53 1024 [255, 255] = (dgramL, 0) := by rfl
  rw [e1] at r; rw [e2] at r3; rw [e3] at b
  unfold sallyportlaw10_awake.f sallyportlaw10_usual.f dgram_Size.f
  rw [show ([0, 53, 4, 0, 0, 10, 251, 192] : List Int) = dgramL from rfl]
  simp only [Option.bind_some]
  simp only [b, j, r, r3, q, Option.bind_some]
  rfl
theorem dgramBytes_len (a b : Int) (l : List Int) : (dgramBytes a b l).1.length ≤ 8 := by
  unfold dgramBytes
  split <;> simp

/-! DgramBytes -/
theorem dgramBytes_loop (x1 x5 x8 x10 : List Int) (K : Nat) (h8 : sallyportref00_EqBytes.f K x8 x10 = some true) (h5 : sallyportref00_EqBytes.f K x5 x1 = some true) (hk : 2060 ≤ K) : ∀ (d : Nat) (i : Nat) (x6 : List Int), i + d = x6.length → x6.length ≤ 140737488355328 → ∀ k, K + 1 + d = k →
    sallyportlaw10_DgramBytes.l0 k x1 x5 x6 x8 x10 (i : Int) = some true := by
  intro d
  induction d with
  | zero =>
    intro i x6 hi hn k hk'
    obtain rfl : k = K + 1 := by omega
    simp only [sallyportlaw10_DgramBytes.l0]
    rw [if_neg (by omega), h8]
    simp only [Option.bind_some, if_true]
    rw [h5]
    simp only [Option.bind_some, if_true]
    rw [awake_dgram K hk]
    rfl
  | succ d ih =>
    intro i x6 hi hn k hk'
    obtain rfl : k = (K + 1 + d) + 1 := by omega
    simp only [sallyportlaw10_DgramBytes.l0]
    rw [if_pos (by omega), if_pos (by omega), wrap_i64 (by omega) (by omega)]
    exact ih (i + 1) _ (by rw [List.length_set]; omega) (by rw [List.length_set]; exact hn) _ rfl
theorem dgramBytesLaw : sallyportlaw10_DgramBytes.Pure := by
  intro a b l ha hb _ hn hwf
  have ha := u16_of_wf ha; have hb := u16_of_wf hb
  have hl := bytes_of_wf hwf
  have hn' : l.length < 140737488355328 := by omega
  obtain ⟨K, hK⟩ : ∃ K, l.length + 3000 ≤ K := ⟨_, Nat.le_refl _⟩
  have hL := dgramBytes_len a b l
  have e0 := eq_self (dgramBytes a b l).1 (by omega) K (by omega)
  have e1 := eq_self l (Nat.le_of_lt hn') K (by omega)
  obtain ⟨K2, hK2⟩ : ∃ K2, K2 = K + 1 + (dgramBytes a b l).1.length := ⟨_, rfl⟩
  have lp := dgramBytes_loop l l (dgramBytes a b l).1 (dgramBytes a b l).1 K e0 e1 (by omega) (dgramBytes a b l).1.length 0 (dgramBytes a b l).1 (by omega) (by omega) K2 hK2.symm
  have f0 := eq_self (dgramBytes a b l).1 (by omega) K2 (by omega)
  have f1 := eq_self l (Nat.le_of_lt hn') K2 (by omega)
  refine ⟨K2, ?_⟩
  unfold sallyportlaw10_DgramBytes.f dgram_Size.f sallyportref10_Size.f dgram_Check.f sallyportref10_Check.f
  simp only [copy_tells l hn', dgram_bytes a b hl K2 (by omega), ref_bytes10 ha hb hl K2 (by omega), f0, f1, Option.bind_some, if_true]
  exact lp

/-! DgramReads -/
theorem dgramReadsLaw : sallyportlaw10_DgramReads.Pure := by
  intro l _ hn hwf
  have hl := bytes_of_wf hwf
  have hn' : l.length < 140737488355328 := by omega
  obtain ⟨K, hK⟩ : ∃ K, l.length + 3000 ≤ K := ⟨_, Nat.le_refl _⟩
  refine ⟨K, ?_⟩
  unfold sallyportlaw10_DgramReads.f
  simp only [copy_tells l hn', dgram_read hl (Nat.le_of_lt hn') K (by omega), ref_read10 hl hn' K (by omega), eq_self l (Nat.le_of_lt hn') K (by omega), awake_dgram K (by omega), Option.bind_some, if_true, beq_self_eq_true, Bool.and_self]

/-! DgramBack -/
theorem dgram_round {a b : Int} (ha : 0 ≤ a ∧ a ≤ 65535) (hb : 0 ≤ b ∧ b ≤ 65535) {l : List Int} (h : l.length ≤ 2040) : dgramRead ((dgramBytes a b l).1 ++ l) = (a, b, 0) := by
  have hf := fld_range (S (dgramAhead a b l.length) + S l)
  have hS : S (dgramAhead a b l.length) + S l = S [a / 256 % 256, a % 256, b / 256 % 256, b % 256, (8 + (l.length : Int)) / 256 % 256, (8 + (l.length : Int)) % 256] + S l := by
    simp only [dgramAhead, S]; omega
  unfold dgramBytes
  rw [if_pos h]
  rw [hS] at hf ⊢
  generalize hg : fld (S [a / 256 % 256, a % 256, b / 256 % 256, b % 256, (8 + (l.length : Int)) / 256 % 256, (8 + (l.length : Int)) % 256] + S l) = f at hf ⊢
  unfold dgramRead
  simp only [List.cons_append, List.nil_append, List.length_cons, List.take_succ_cons, List.take_zero, List.drop_succ_cons, List.drop_zero]
  rw [if_neg (by omega), hg]
  rw [show rd (a / 256 % 256 :: a % 256 :: b / 256 % 256 :: b % 256 :: (8 + (l.length : Int)) / 256 % 256 :: (8 + (l.length : Int)) % 256 :: f / 256 % 256 :: f % 256 :: l) 0 = a / 256 % 256 from rfl,
    show rd (a / 256 % 256 :: a % 256 :: b / 256 % 256 :: b % 256 :: (8 + (l.length : Int)) / 256 % 256 :: (8 + (l.length : Int)) % 256 :: f / 256 % 256 :: f % 256 :: l) 1 = a % 256 from rfl,
    show rd (a / 256 % 256 :: a % 256 :: b / 256 % 256 :: b % 256 :: (8 + (l.length : Int)) / 256 % 256 :: (8 + (l.length : Int)) % 256 :: f / 256 % 256 :: f % 256 :: l) 2 = b / 256 % 256 from rfl,
    show rd (a / 256 % 256 :: a % 256 :: b / 256 % 256 :: b % 256 :: (8 + (l.length : Int)) / 256 % 256 :: (8 + (l.length : Int)) % 256 :: f / 256 % 256 :: f % 256 :: l) 3 = b % 256 from rfl,
    show rd (a / 256 % 256 :: a % 256 :: b / 256 % 256 :: b % 256 :: (8 + (l.length : Int)) / 256 % 256 :: (8 + (l.length : Int)) % 256 :: f / 256 % 256 :: f % 256 :: l) 4 = (8 + (l.length : Int)) / 256 % 256 from rfl,
    show rd (a / 256 % 256 :: a % 256 :: b / 256 % 256 :: b % 256 :: (8 + (l.length : Int)) / 256 % 256 :: (8 + (l.length : Int)) % 256 :: f / 256 % 256 :: f % 256 :: l) 5 = (8 + (l.length : Int)) % 256 from rfl,
    show rd (a / 256 % 256 :: a % 256 :: b / 256 % 256 :: b % 256 :: (8 + (l.length : Int)) / 256 % 256 :: (8 + (l.length : Int)) % 256 :: f / 256 % 256 :: f % 256 :: l) 6 = f / 256 % 256 from rfl,
    show rd (a / 256 % 256 :: a % 256 :: b / 256 % 256 :: b % 256 :: (8 + (l.length : Int)) / 256 % 256 :: (8 + (l.length : Int)) % 256 :: f / 256 % 256 :: f % 256 :: l) 7 = f % 256 from rfl]
  rw [if_pos (by omega), if_pos (by omega), show a / 256 % 256 * 256 + a % 256 = a by omega, show b / 256 % 256 * 256 + b % 256 = b by omega]
/-- What is read is written just so. -/
theorem dgram_again {l : List Int} (hl : Bytes l) (hr : (dgramRead l).2.2 = 0) (hn : l.length ≤ 2048) : 8 ≤ l.length ∧ dgramBytes (dgramRead l).1 (dgramRead l).2.1 (l.drop 8) = (l.take 8, 0) := by
  have h8 : 8 ≤ l.length := by
    rcases Nat.lt_or_ge l.length 8 with h | h
    · unfold dgramRead at hr
      rw [if_pos (by omega)] at hr
      simp at hr
    · exact h
  refine ⟨h8, ?_⟩
  have b0 := rd_byte hl 0; have b1 := rd_byte hl 1; have b2 := rd_byte hl 2; have b3 := rd_byte hl 3
  have b4 := rd_byte hl 4; have b5 := rd_byte hl 5; have b6 := rd_byte hl 6; have b7 := rd_byte hl 7
  unfold dgramRead at hr ⊢
  rw [if_neg (by omega)] at hr ⊢
  by_cases h1 : rd l 4 * 256 + rd l 5 = (l.length : Int)
  · rw [if_pos h1] at hr ⊢
    by_cases h2 : rd l 6 * 256 + rd l 7 = fld (S (l.take 6) + S (l.drop 8))
    · rw [if_pos h2]
      unfold dgramBytes
      have hd : (l.drop 8).length = l.length - 8 := List.length_drop
      have hS : S (dgramAhead (rd l 0 * 256 + rd l 1) (rd l 2 * 256 + rd l 3) (l.drop 8).length) = S (l.take 6) := by
        rw [hd]
        obtain ⟨c0, c1, c2, c3, c4, c5, c6, c7, t, rfl⟩ := eight h8
        have r0 : rd (c0 :: c1 :: c2 :: c3 :: c4 :: c5 :: c6 :: c7 :: t) 0 = c0 := rfl
        have r1 : rd (c0 :: c1 :: c2 :: c3 :: c4 :: c5 :: c6 :: c7 :: t) 1 = c1 := rfl
        have r2 : rd (c0 :: c1 :: c2 :: c3 :: c4 :: c5 :: c6 :: c7 :: t) 2 = c2 := rfl
        have r3 : rd (c0 :: c1 :: c2 :: c3 :: c4 :: c5 :: c6 :: c7 :: t) 3 = c3 := rfl
        have r4 : rd (c0 :: c1 :: c2 :: c3 :: c4 :: c5 :: c6 :: c7 :: t) 4 = c4 := rfl
        have r5 : rd (c0 :: c1 :: c2 :: c3 :: c4 :: c5 :: c6 :: c7 :: t) 5 = c5 := rfl
        rw [r0] at b0; rw [r1] at b1; rw [r2] at b2; rw [r3] at b3; rw [r4] at b4 h1; rw [r5] at b5 h1
        rw [r0, r1, r2, r3]
        simp only [dgramAhead, S, List.take_succ_cons, List.take_zero]
        generalize (c0 :: c1 :: c2 :: c3 :: c4 :: c5 :: c6 :: c7 :: t).length = n at h1 h8 hn ⊢
        omega
      simp only
      rw [if_pos (by rw [hd]; omega), hS, ← h2, hd]
      have e0 := take_rd l 0 (by omega); have e1 := take_rd l 1 (by omega); have e2 := take_rd l 2 (by omega); have e3 := take_rd l 3 (by omega)
      have e4 := take_rd l 4 (by omega); have e5 := take_rd l 5 (by omega); have e6 := take_rd l 6 (by omega); have e7 := take_rd l 7 (by omega)
      simp only [Nat.reduceAdd, Nat.zero_add, Int.cast_ofNat_Int, List.take_zero, List.nil_append] at e0 e1 e2 e3 e4 e5 e6 e7
      rw [e7, e6, e5, e4, e3, e2, e1, e0]
      rw [show (rd l 0 * 256 + rd l 1) / 256 % 256 = rd l 0 by omega, show (rd l 0 * 256 + rd l 1) % 256 = rd l 1 by omega, show (rd l 2 * 256 + rd l 3) / 256 % 256 = rd l 2 by omega, show (rd l 2 * 256 + rd l 3) % 256 = rd l 3 by omega,
        show (8 + ((l.length - 8 : Nat) : Int)) / 256 % 256 = rd l 4 by omega, show (8 + ((l.length - 8 : Nat) : Int)) % 256 = rd l 5 by omega, show (rd l 6 * 256 + rd l 7) / 256 % 256 = rd l 6 by omega, show (rd l 6 * 256 + rd l 7) % 256 = rd l 7 by omega]
      rfl
    · rw [if_neg h2] at hr; simp at hr
  · rw [if_neg h1] at hr; simp at hr
theorem dgramRead_err {l : List Int} (h : ¬ (dgramRead l).2.2 = 0) : ((dgramRead l).1 == 0 && ((dgramRead l).2.1 == 0)) = true := by
  unfold dgramRead at h ⊢
  split
  · rfl
  · rename_i h1
    rw [if_neg h1] at h
    split
    · rename_i h2
      rw [if_pos h2] at h
      split
      · rename_i h3
        rw [if_pos h3] at h
        exact absurd rfl h
      · rfl
    · rfl
theorem dgramBytes_bytes (a b : Int) (l : List Int) : Bytes (dgramBytes a b l).1 := by
  unfold dgramBytes
  split
  · exact bytes_cons (by omega) (by omega) (bytes_cons (by omega) (by omega) (bytes_cons (by omega) (by omega) (bytes_cons (by omega) (by omega) (bytes_cons (by omega) (by omega) (bytes_cons (by omega) (by omega) (bytes_cons (by omega) (by omega) (bytes_cons (by omega) (by omega) bytes_nil)))))))
  · exact bytes_nil
theorem dgramBackLaw : sallyportlaw10_DgramBack.Pure := by
  intro a b l q ha hb _ hn hwf _ hn2 hwf2
  have ha := u16_of_wf ha; have hb := u16_of_wf hb
  have hl := bytes_of_wf hwf; have hq := bytes_of_wf hwf2
  obtain ⟨K, hK⟩ : ∃ K, l.length + q.length + 3000 ≤ K := ⟨_, Nat.le_refl _⟩
  refine ⟨K, ?_⟩
  have he := eq_self (q.take 8) (by rw [List.length_take]; omega) K (by rw [List.length_take]; omega)
  have hrq := dgram_read hq (by omega) K (by omega)
  have hbd : ∀ x y, dgram_Bytes.f K x y (q.drop 8) = some (dgramBytes x y (q.drop 8)) := fun x y => dgram_bytes x y (bytes_drop hq 8) K (by omega)
  unfold sallyportlaw10_DgramBack.f dgram_Check.f
  rw [awake_dgram K (by omega)]
  simp only [Option.bind_some, if_true]
  rw [dgram_bytes a b hl K (by omega)]
  simp only [Option.bind_some, hrq, hbd]
  have last : (if (dgramRead q).2.2 = 0 then (if (q.length : Int) > 2048 then (some true) else (if 8 ≤ (q.length : Int) then (if (dgramBytes (dgramRead q).1 (dgramRead q).2.1 (q.drop 8)).2 = 0 then ((sallyportref00_EqBytes.f K (dgramBytes (dgramRead q).1 (dgramRead q).2.1 (q.drop 8)).1 (q.take 8)).bind fun t => (some t)) else (some false)) else (none))) else (some ((dgramRead q).1 == 0 && ((dgramRead q).2.1 == 0)))) = some true := by
    by_cases h : (dgramRead q).2.2 = 0
    · rw [if_pos h]
      by_cases h2 : (q.length : Int) > 2048
      · rw [if_pos h2]
      · obtain ⟨h8, hg⟩ := dgram_again hq h (by omega)
        rw [if_neg h2, if_pos (by omega), hg]
        simp only [if_true]
        rw [he]; rfl
    · rw [if_neg h, dgramRead_err h]
  by_cases h1 : l.length ≤ 2040
  · have e2 : (dgramBytes a b l).2 = 0 := by unfold dgramBytes; rw [if_pos h1]
    have e3 : ((dgramBytes a b l).1.length : Int) = 8 := by unfold dgramBytes; rw [if_pos h1]; rfl
    have hB := dgramBytes_bytes a b l
    rw [if_pos e2, join_10 _ _ (by omega)]
    simp only [Option.bind_some]
    rw [dgram_read (bytes_append hB hl) (by rw [List.length_append]; omega) K (by rw [List.length_append]; omega), dgram_round ha hb h1]
    simp only [Option.bind_some]
    rw [if_pos e3]
    simp only [if_true]
    rw [if_neg (by simp)]
    exact last
  · have e2 : ¬ (dgramBytes a b l).2 = 0 := by unfold dgramBytes; rw [if_neg h1]; simp
    rw [if_neg e2, if_neg (by omega)]
    exact last
end Go.Proofs.Ytipdajgcepefgaa.M
