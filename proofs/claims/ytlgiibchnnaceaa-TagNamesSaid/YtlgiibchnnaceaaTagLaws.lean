/- The statements on tags: true for every input, as the printed functions tell. -/
import Derived.Test.YtlgiibchnnaceaaPx0
import Derived.Test.YtlgiibchnnaceaaPx12
import Derived.Test.YtlgiibchnnaceaaPx13
import Derived.Test.YtlgiibchnnaceaaPx14
import Derived.Test.YtlgiibchnnaceaaPx15
import Derived.Test.YtlgiibchnnaceaaPx16
import Derived.Test.YtlgiibchnnaceaaPx17
import Derived.Test.YtlgiibchnnaceaaPx19
import Derived.Test.YtlgiibchnnaceaaPx20
import Derived.Test.YtlgiibchnnaceaaPx21
import Derived.Test.YtlgiibchnnaceaaPx5
import Derived.Test.YtlgiibchnnaceaaTagMath
namespace Go.Proofs.Ytlgiibchnnaceaa.M
open Go Go.RowKit Go.Proofs.YtlgiibchnnaceaaW.PrintWords Go.Proofs.Ytlgiibchnnaceaa.P

theorem nat_and_4096 (n : Nat) : n &&& 4096 = n / 4096 % 2 * 4096 := by
  have hb : n.testBit 12 = decide (n / 4096 % 2 = 1) := Nat.testBit_eq_decide_div_mod_eq
  have key : ∀ j, (n &&& 2 ^ 12).testBit j = (n.testBit 12 && decide (12 = j)) := by
    intro j
    rw [Nat.testBit_and, Nat.testBit_two_pow]
    by_cases h : 12 = j
    · subst h; simp
    · simp [h]
  by_cases h : n / 4096 % 2 = 1
  · rw [h]
    refine Nat.eq_of_testBit_eq (fun j => ?_)
    rw [show (4096 : Nat) = 2 ^ 12 from by decide, key j, hb, decide_eq_true h, Nat.one_mul, Nat.testBit_two_pow, Bool.true_and]
  · have h' : n / 4096 % 2 = 0 := by omega
    rw [h']
    refine Nat.eq_of_testBit_eq (fun j => ?_)
    rw [show (4096 : Nat) = 2 ^ 12 from by decide, key j, hb, decide_eq_false h]
    simp
theorem and_4096 {x : Int} (h0 : 0 ≤ x) (h1 : x ≤ 65535) : Go.bits .and .u16 x 4096 = x / 4096 % 2 * 4096 := by
  rw [u16_and x 4096 h0 (by omega) (by omega) (by omega), show ((4096 : Int).toNat) = 4096 from rfl, nat_and_4096]
  omega
theorem or_tag {a b : Int} (h0 : 0 ≤ a) (h1 : a ≤ 7) (h2 : 0 ≤ b) (h3 : b ≤ 4095) : Go.bits .or .u16 (a * 8192) b = a * 8192 + b := by
  rw [u16_or (a * 8192) b (by omega) (by omega) (by omega) (by omega)]
  have := Nat.two_pow_add_eq_or_of_lt (i := 13) (b := b.toNat) (by omega) a.toNat
  have e : (a * 8192).toNat = 2 ^ 13 * a.toNat := by omega
  rw [e, ← this]
  omega
/-- What a tag's reading tells. -/
def tagRead (l : List Int) : Int × Int × Int × Int :=
  if (l.length : Int) < 4 then (0, 0, 0, 6) else if rd l 0 / 16 % 2 = 0 then (rd l 0 / 32, (rd l 0 * 256 + rd l 1) % 4096, rd l 2 * 256 + rd l 3, 0) else (0, 0, 0, 60)
theorem tag_read {l : List Int} (hl : Bytes l) : tag_Read.f l = some (tagRead l) := by
  unfold tag_Read.f tagRead
  by_cases h : (l.length : Int) < 4
  · rw [if_pos h, if_pos h]
  · have a0 := rd_byte hl 0; have a1 := rd_byte hl 1
    rw [if_neg h, if_neg h, word_tag hl (by omega)]
    simp only [Option.bind_some]
    rw [and_4096 (by omega) (by omega)]
    by_cases h2 : rd l 0 / 16 % 2 = 0
    · rw [if_pos (by omega), if_pos h2, if_pos (by omega), if_pos (by omega), word_tag (bytes_drop hl 2) (by rw [List.length_drop]; omega)]
      have e0 := rd_drop l 2 0; have e1 := rd_drop l 2 1
      simp only [Nat.add_zero, Nat.reduceAdd, Int.cast_ofNat_Int] at e0 e1
      simp only [Option.bind_some]
      rw [e0, e1, and_4095 (by omega) (by omega)]
    · rw [if_neg (by omega), if_neg h2]
theorem ref_read06 {l : List Int} (hl : Bytes l) (hn : l.length ≤ 140737488355328) (k : Nat) (hk : 3 ≤ k) : sallyportref06_Read.f k l = some (tagRead l) := by
  unfold sallyportref06_Read.f tagRead
  by_cases h : (l.length : Int) < 4
  · rw [if_pos h, if_pos h]
  · have a0 := rd_byte hl 0; have a1 := rd_byte hl 1; have a2 := rd_byte hl 2; have a3 := rd_byte hl 3
    have v0 := value2_06 hl 0 (by omega) hn k hk
    have v2 := value2_06 hl 2 (by omega) hn k hk
    simp only [Int.cast_ofNat_Int, Int.zero_add, Int.reduceAdd] at v0 v2
    have e : Int.tdiv (rd l 0) 16 % 256 = rd l 0 / 16 := by rw [tdiv_nn a0.1]; omega
    have e' : Int.tdiv (rd l 0) 32 % 256 = rd l 0 / 32 := by rw [tdiv_nn a0.1]; omega
    rw [if_neg h, if_neg h, e, e', v0, v2]
    by_cases h2 : rd l 0 / 16 % 2 = 0
    · rw [if_pos h2, if_pos h2]
      simp only [Option.bind_some]
      rw [tmod_nn (by omega), wrap_u16 (by omega) (by omega), wrap_u16 (by omega) (by omega)]
    · rw [if_neg h2, if_neg h2]
def tagCheck (p i : Int) : Int := if p > 7 then 60 else if i > 4095 then 60 else 0
theorem tag_check (p i t : Int) : tag_Check.f p i t = some (tagCheck p i) := by
  unfold tag_Check.f tagCheck
  split
  · rfl
  · split <;> rfl
theorem ref_check06 (p i t : Int) : sallyportref06_Check.f p i t = some (tagCheck p i) := by
  unfold sallyportref06_Check.f tagCheck
  split
  · rfl
  · split <;> rfl
/-- What a tag's bytes are. -/
def tagBytes (p i t : Int) (n : Nat) : List Int × Int :=
  if tagCheck p i = 0 then (if n ≤ 2044 then ([(p * 8192 + i) / 256 % 256, (p * 8192 + i) % 256, t / 256 % 256, t % 256], 0) else ([], 5)) else ([], tagCheck p i)
theorem tag_bytes {p i t : Int} (hp : 0 ≤ p ∧ p ≤ 255) (hi : 0 ≤ i ∧ i ≤ 65535) (l : List Int) : tag_Bytes.f p i t l = some (tagBytes p i t l.length) := by
  unfold tag_Bytes.f tagBytes
  rw [tag_check]
  simp only [Option.bind_some]
  by_cases h : tagCheck p i = 0
  · rw [if_pos h, if_pos h]
    have h' : p ≤ 7 ∧ i ≤ 4095 := by unfold tagCheck at h; split at h <;> (try split at h) <;> omega
    unfold tag_Bytes.bytes
    rw [wrap_u16 (x := p) (by omega) (by omega), wrap_u16 (x := p * 8192) (by omega) (by omega), or_tag (by omega) (by omega) (by omega) (by omega)]
    split <;> rfl
  · rw [if_neg h, if_neg h]
theorem ref_bytes06 {p i t : Int} (hp : 0 ≤ p ∧ p ≤ 255) (hi : 0 ≤ i ∧ i ≤ 65535) (ht : 0 ≤ t ∧ t ≤ 65535) (l : List Int) (k : Nat) (hk : 3 ≤ k) : sallyportref06_Bytes.f k p i t l = some (tagBytes p i t l.length) := by
  unfold sallyportref06_Bytes.f tagBytes
  rw [ref_check06]
  simp only [Option.bind_some]
  by_cases h : tagCheck p i = 0
  · rw [if_pos h, if_pos h]
    by_cases h2 : l.length ≤ 2044
    · rw [if_neg (by omega), if_pos h2, wrap_i64 (x := p) (by omega) (by omega), wrap_i64 (x := i) (by omega) (by omega), wrap_i64 (x := p * 8192) (by omega) (by omega), wrap_i64 (x := p * 8192 + i) (by omega) (by omega), wrap_i64 (x := t) (by omega) (by omega), number2_06 (by omega) (by omega) k hk, number2_06 (by omega) (by omega) k hk]
      simp
    · rw [if_pos (by omega), if_neg h2]
  · rw [if_neg h, if_neg h]
theorem tagBytes_bytes (p i t : Int) (n : Nat) : Bytes (tagBytes p i t n).1 := by
  unfold tagBytes
  split
  · split
    · exact bytes_cons (by omega) (by omega) (bytes_cons (by omega) (by omega) (bytes_cons (by omega) (by omega) (bytes_cons (by omega) (by omega) bytes_nil)))
    · exact bytes_nil
  · exact bytes_nil
theorem awake_tag (k : Nat) (hk : 10 ≤ k) : sallyportlaw06_awake.f k = some true := by
  have hb : Bytes [161, 35, 134, 221] := bytes_cons (by omega) (by omega) (bytes_cons (by omega) (by omega) (bytes_cons (by omega) (by omega) (bytes_cons (by omega) (by omega) bytes_nil)))
  have r := tag_read hb
  have r3 := tag_read (bytes_take hb 3)
  have b := tag_bytes (p := 5) (i := 291) (t := 34525) (by omega) (by omega) []
  have j := join_06 [161, 35, 134, 221] [] (by simp)
  have q := eq_self [161, 35, 134, 221] (by simp) k (by simp; omega)
  have e1 : tagRead [161, 35, 134, 221] = (5, 291, 34525, 0) := by decide
  have e2 : tagRead (List.take 3 [161, 35, 134, 221]) = (0, 0, 0, 6) := by decide
  have e3 : tagBytes 5 291 34525 ([] : List Int).length = ([161, 35, 134, 221], 0) := by decide
  rw [e1] at r; rw [e2] at r3; rw [e3] at b; rw [List.append_nil] at j
  unfold sallyportlaw06_awake.f sallyportlaw06_usual.f tag_Size.f
  simp only [Option.bind_some]
  simp only [b, j, r, r3, q, Option.bind_some]
  rfl

theorem tagReads : sallyportlaw06_TagReads.Pure := by
  intro l _ hn hwf
  have hl := bytes_of_wf hwf
  have hn' : l.length < 140737488355328 := by omega
  obtain ⟨K, hK⟩ : ∃ K, l.length + 30 ≤ K := ⟨_, Nat.le_refl _⟩
  refine ⟨K, ?_⟩
  unfold sallyportlaw06_TagReads.f
  simp only [copy_tells l hn', tag_read hl, ref_read06 hl (Nat.le_of_lt hn') K (by omega), eq_self l (Nat.le_of_lt hn') K (by omega), awake_tag K (by omega), Option.bind_some, if_true, beq_self_eq_true, Bool.and_self]

/-! TagBytes -/
theorem tagBytes_loop (x1 x5 x8 x10 : List Int) (K : Nat) (h8 : sallyportref00_EqBytes.f K x8 x10 = some true) (h5 : sallyportref00_EqBytes.f K x5 x1 = some true) (hk : 10 ≤ K) : ∀ (d : Nat) (i : Nat) (x6 : List Int), i + d = x6.length → x6.length ≤ 140737488355328 → ∀ k, K + 1 + d = k →
    sallyportlaw06_TagBytes.l0 k x1 x5 x6 x8 x10 (i : Int) = some true := by
  intro d
  induction d with
  | zero =>
    intro i x6 hi hn k hk'
    obtain rfl : k = K + 1 := by omega
    simp only [sallyportlaw06_TagBytes.l0]
    rw [if_neg (by omega), h8]
    simp only [Option.bind_some, if_true]
    rw [h5]
    simp only [Option.bind_some, if_true]
    rw [awake_tag K hk]
    rfl
  | succ d ih =>
    intro i x6 hi hn k hk'
    obtain rfl : k = (K + 1 + d) + 1 := by omega
    simp only [sallyportlaw06_TagBytes.l0]
    rw [if_pos (by omega), if_pos (by omega), wrap_i64 (by omega) (by omega)]
    exact ih (i + 1) _ (by rw [List.length_set]; omega) (by rw [List.length_set]; exact hn) _ rfl
theorem tagBytes_len (p i t : Int) (n : Nat) : (tagBytes p i t n).1.length ≤ 4 := by
  unfold tagBytes
  split
  · split <;> simp
  · simp
theorem tagBytesLaw : sallyportlaw06_TagBytes.Pure := by
  intro p i t l hp hi ht _ hn hwf
  have hp := u8_of_wf hp; have hi := u16_of_wf hi; have ht := u16_of_wf ht
  have hn' : l.length < 140737488355328 := by omega
  obtain ⟨K, hK⟩ : ∃ K, l.length + 30 ≤ K := ⟨_, Nat.le_refl _⟩
  have hL := tagBytes_len p i t l.length
  have e0 := eq_self (tagBytes p i t l.length).1 (by omega) K (by omega)
  have e1 := eq_self l (Nat.le_of_lt hn') K (by omega)
  obtain ⟨K2, hK2⟩ : ∃ K2, K2 = K + 1 + (tagBytes p i t l.length).1.length := ⟨_, rfl⟩
  have lp := tagBytes_loop l l (tagBytes p i t l.length).1 (tagBytes p i t l.length).1 K e0 e1 (by omega) (tagBytes p i t l.length).1.length 0 (tagBytes p i t l.length).1 (by omega) (by omega) K2 hK2.symm
  have f0 := eq_self (tagBytes p i t l.length).1 (by omega) K2 (by omega)
  have f1 := eq_self l (Nat.le_of_lt hn') K2 (by omega)
  refine ⟨K2, ?_⟩
  unfold sallyportlaw06_TagBytes.f tag_Size.f sallyportref06_Size.f
  simp only [copy_tells l hn', tag_bytes hp hi, ref_bytes06 hp hi ht l K2 (by omega), tag_check, ref_check06, f0, f1, Option.bind_some, if_true]
  exact lp


theorem tagRead_short {l : List Int} (h : (l.length : Int) < 4) : tagRead l = (0, 0, 0, 6) := by unfold tagRead; rw [if_pos h]
theorem tag_round {p i t : Int} (hp : 0 ≤ p ∧ p ≤ 255) (hi : 0 ≤ i ∧ i ≤ 65535) (ht : 0 ≤ t ∧ t ≤ 65535) (hc : tagCheck p i = 0) (l : List Int) :
    tagRead ([(p * 8192 + i) / 256 % 256, (p * 8192 + i) % 256, t / 256 % 256, t % 256] ++ l) = (p, i, t, 0) := by
  have h' : p ≤ 7 ∧ i ≤ 4095 := by unfold tagCheck at hc; split at hc <;> (try split at hc) <;> omega
  have e0 : rd ([(p * 8192 + i) / 256 % 256, (p * 8192 + i) % 256, t / 256 % 256, t % 256] ++ l) 0 = (p * 8192 + i) / 256 % 256 := rfl
  have e1 : rd ([(p * 8192 + i) / 256 % 256, (p * 8192 + i) % 256, t / 256 % 256, t % 256] ++ l) 1 = (p * 8192 + i) % 256 := rfl
  have e2 : rd ([(p * 8192 + i) / 256 % 256, (p * 8192 + i) % 256, t / 256 % 256, t % 256] ++ l) 2 = t / 256 % 256 := rfl
  have e3 : rd ([(p * 8192 + i) / 256 % 256, (p * 8192 + i) % 256, t / 256 % 256, t % 256] ++ l) 3 = t % 256 := rfl
  unfold tagRead
  rw [if_neg (by simp only [List.length_append, List.length_cons, List.length_nil]; omega), e0, e1, e2, e3, if_pos (by omega)]
  have a : (p * 8192 + i) / 256 % 256 / 32 = p := by omega
  have b : ((p * 8192 + i) / 256 % 256 * 256 + (p * 8192 + i) % 256) % 4096 = i := by omega
  have c : t / 256 % 256 * 256 + t % 256 = t := by omega
  rw [a, b, c]
theorem take4 {l : List Int} (h : 4 ≤ l.length) : l.take 4 = [rd l 0, rd l 1, rd l 2, rd l 3] := by
  have e := take_rd l 3 (by omega); have e2 := take_rd l 2 (by omega); have e1 := take_rd l 1 (by omega); have e0 := take_rd l 0 (by omega)
  simp only [Nat.reduceAdd, Nat.zero_add, Int.cast_ofNat_Int, List.take_zero, List.nil_append] at e e2 e1 e0
  rw [e, e2, e1, e0]; rfl
/-- What is read is written just so. -/
theorem tag_again {l : List Int} (hl : Bytes l) (h4 : 4 ≤ l.length) (hr : (tagRead l).2.2.2 = 0) (n : Nat) (hn : n ≤ 2044) :
    (0 ≤ (tagRead l).1 ∧ (tagRead l).1 ≤ 255) ∧ (0 ≤ (tagRead l).2.1 ∧ (tagRead l).2.1 ≤ 65535) ∧ tagBytes (tagRead l).1 (tagRead l).2.1 (tagRead l).2.2.1 n = (l.take 4, 0) := by
  have a0 := rd_byte hl 0; have a1 := rd_byte hl 1; have a2 := rd_byte hl 2; have a3 := rd_byte hl 3
  unfold tagRead at hr ⊢
  rw [if_neg (by omega)] at hr ⊢
  by_cases h2 : rd l 0 / 16 % 2 = 0
  · rw [if_pos h2]
    refine ⟨by simp only; omega, by simp only; omega, ?_⟩
    have hc : tagCheck (rd l 0 / 32) ((rd l 0 * 256 + rd l 1) % 4096) = 0 := by unfold tagCheck; rw [if_neg (by omega), if_neg (by omega)]
    unfold tagBytes
    simp only
    rw [if_pos hc, if_pos hn, take4 h4]
    have b0 : (rd l 0 / 32 * 8192 + (rd l 0 * 256 + rd l 1) % 4096) / 256 % 256 = rd l 0 := by omega
    have b1 : (rd l 0 / 32 * 8192 + (rd l 0 * 256 + rd l 1) % 4096) % 256 = rd l 1 := by omega
    have b2 : (rd l 2 * 256 + rd l 3) / 256 % 256 = rd l 2 := by omega
    have b3 : (rd l 2 * 256 + rd l 3) % 256 = rd l 3 := by omega
    rw [b0, b1, b2, b3]
  · rw [if_neg h2] at hr; simp at hr
theorem tagRead_err {l : List Int} (h : ¬ (tagRead l).2.2.2 = 0) : ((tagRead l).1 == 0 && ((tagRead l).2.1 == 0 && ((tagRead l).2.2.1 == 0))) = true := by
  unfold tagRead at h ⊢
  split
  · rfl
  · rename_i h1
    rw [if_neg h1] at h
    split
    · rename_i h2; rw [if_pos h2] at h; exact absurd rfl h
    · rfl
theorem tag_back2 {l : List Int} (hl : Bytes l) (K : Nat) (hK : 30 ≤ K) :
    ((tag_Read.f l).bind fun bt => (if bt.2.2.2 = 0 then (if (l.length : Int) > 2048 then (some true) else (if 4 ≤ (l.length : Int) then ((tag_Bytes.f bt.1 bt.2.1 bt.2.2.1 (l.drop 4)).bind fun bu => (if bu.2 = 0 then ((sallyportref00_EqBytes.f K bu.1 (l.take 4)).bind fun t => (some t)) else (some false))) else (none))) else (some (bt.1 == 0 && (bt.2.1 == 0 && (bt.2.2.1 == 0)))))) = some true := by
  rw [tag_read hl]
  simp only [Option.bind_some]
  by_cases h : (tagRead l).2.2.2 = 0
  · rw [if_pos h]
    by_cases h1 : (l.length : Int) > 2048
    · rw [if_pos h1]
    · rw [if_neg h1]
      have h4 : 4 ≤ l.length := by
        rcases Nat.lt_or_ge l.length 4 with h5 | h5
        · rw [tagRead_short (by omega)] at h; simp at h
        · exact h5
      obtain ⟨r1, r2, r3⟩ := tag_again hl h4 h (l.drop 4).length (by rw [List.length_drop]; omega)
      rw [if_pos (by omega), tag_bytes r1 r2, r3]
      simp only [Option.bind_some, if_true]
      rw [eq_self _ (by rw [List.length_take]; omega) K (by rw [List.length_take]; omega)]
      rfl
  · rw [if_neg h, tagRead_err h]
theorem tagBackLaw : sallyportlaw06_TagBack.Pure := by
  intro p i t l q hp hi ht _ hn hwf _ hn2 hwf2
  have hp := u8_of_wf hp; have hi := u16_of_wf hi; have ht := u16_of_wf ht
  have hl := bytes_of_wf hwf; have hq := bytes_of_wf hwf2
  obtain ⟨K, hK⟩ : ∃ K, 30 ≤ K := ⟨_, Nat.le_refl _⟩
  refine ⟨K, ?_⟩
  have b2 := tag_back2 hq K hK
  unfold sallyportlaw06_TagBack.f
  rw [awake_tag K (by omega)]
  simp only [Option.bind_some, if_true]
  rw [tag_bytes hp hi]
  simp only [Option.bind_some]
  by_cases hc : tagCheck p i = 0
  · by_cases h1 : l.length ≤ 2044
    · have e : tagBytes p i t l.length = ([(p * 8192 + i) / 256 % 256, (p * 8192 + i) % 256, t / 256 % 256, t % 256], 0) := by unfold tagBytes; rw [if_pos hc, if_pos h1]
      have hb := tagBytes_bytes p i t l.length
      rw [e] at hb ⊢
      simp only [if_true]
      rw [join_06 _ _ (by simp only [List.length_cons, List.length_nil]; omega)]
      simp only [Option.bind_some]
      rw [tag_read (bytes_append hb hl), tag_round hp hi ht hc]
      simp only [Option.bind_some]
      rw [if_pos (by simp)]
      simp only [if_true]
      rw [if_neg (by simp), tag_check, hc]
      simp only [Option.bind_some, if_true]
      exact b2
    · have e : tagBytes p i t l.length = ([], 5) := by unfold tagBytes; rw [if_pos hc, if_neg h1]
      rw [e]
      simp only
      rw [if_neg (by decide), tag_check, hc]
      simp only [Option.bind_some, if_true]
      rw [if_neg (by omega)]
      exact b2
  · have e : tagBytes p i t l.length = ([], tagCheck p i) := by unfold tagBytes; rw [if_neg hc]
    rw [e]
    simp only
    rw [if_neg hc, tag_check]
    simp only [Option.bind_some]
    rw [if_neg hc]
    exact b2
end Go.Proofs.Ytlgiibchnnaceaa.M
