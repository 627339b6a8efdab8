/- The statements on sums: true for every input, as the printed functions tell. -/
import Derived.Test.YtlgiibchnnaceaaPx0
import Derived.Test.YtlgiibchnnaceaaPx2
import Derived.Test.YtlgiibchnnaceaaPx3
import Derived.Test.YtlgiibchnnaceaaSums
namespace Go.Proofs.Ytlgiibchnnaceaa.M
open Go Go.RowKit Go.Proofs.YtlgiibchnnaceaaW.PrintWords Go.Proofs.Ytlgiibchnnaceaa.P

theorem awake_sums (k : Nat) (hk : 30 ≤ k) : sallyportlaw01_awake.f k = some true := by
  have b2 : ∀ a b : Int, 0 ≤ a → a ≤ 255 → 0 ≤ b → b ≤ 255 → Bytes [a, b] := fun a b h1 h2 h3 h4 => bytes_cons h1 h2 (bytes_cons h3 h4 bytes_nil)
  have d := diff_tells (b2 0 1 (by omega) (by omega) (by omega) (by omega)) (b2 0 3 (by omega) (by omega) (by omega) (by omega)) (by simp) (by simp) k (by simp; omega) (by simp; omega)
  have s := sum_tells (l := [1, 2, 3]) (bytes_cons (by omega) (by omega) (b2 2 3 (by omega) (by omega) (by omega) (by omega))) (by simp) k (by simp; omega)
  have f := field_tells (l := [69, 0, 0, 20]) (bytes_cons (by omega) (by omega) (bytes_cons (by omega) (by omega) (b2 0 20 (by omega) (by omega) (by omega) (by omega)))) (by simp) k (by simp; omega)
  have a := add_tells (a := 65535) (b := 1) (by omega) (by omega) k (by omega)
  have u := sub_tells (a := 3) (b := 5) (by omega) (by omega) k (by omega)
  have m := same_tells (a := 0) (b := 65535) (by omega) (by omega)
  have p := update_tells (f := 47851) (o := 20) (n := 40) (by omega) (by omega) (by omega) k (by omega)
  have e1 : (if [(0 : Int), 1].length = [(0 : Int), 3].length ∧ [(0 : Int), 1].length % 2 = 0 then (oc (oc (S [0, 3]) + (65535 - oc (S [0, 1]))), (0 : Int)) else (0, 2)) = (2, 0) := by decide
  have e2 : oc (S [1, 2, 3]) = 1026 := by decide
  have e3 : 65535 - oc (S [69, 0, 0, 20]) = 47851 := by decide
  have e4 : oc (65535 + 1) = 1 := by decide
  have e5 : oc (3 + (65535 - 5)) = 65533 := by decide
  have e6 : decide ((0 : Int) % 65535 = 65535 % 65535) = true := by decide
  have e7 : 65535 - oc (oc (65535 - 47851 + (65535 - 20)) + 40) = 47831 := by decide
  rw [e1] at d; rw [e2] at s; rw [e3] at f; rw [e4] at a; rw [e5] at u; rw [e6] at m; rw [e7] at p
  unfold sallyportlaw01_awake.f
  simp only [d, s, f, a, u, m, p, Option.bind_some, if_true]
  rfl

theorem sumsSums : sallyportlaw01_SumsSums.Pure := by
  intro l _ hn hwf
  have hl := bytes_of_wf hwf
  have hn' : l.length < 140737488355328 := by omega
  obtain ⟨K, hK⟩ : ∃ K, l.length + 30 ≤ K := ⟨_, Nat.le_refl _⟩
  refine ⟨K, ?_⟩
  unfold sallyportlaw01_SumsSums.f
  simp only [copy_tells l hn', sum_tells hl (Nat.le_of_lt hn') K (by omega), refsum_tells hl (Nat.le_of_lt hn') K (by omega), field_tells hl (Nat.le_of_lt hn') K (by omega), reffield_tells hl (Nat.le_of_lt hn') K (by omega), eq_tells l l (Nat.le_of_lt hn') K (by omega), awake_sums K (by omega), Option.bind_some, if_true, decide_true]

theorem sumsAdds : sallyportlaw01_SumsAdds.Pure := by
  intro a b c ha hb hc
  have ha := u16_of_wf ha; have hb := u16_of_wf hb; have hc := u16_of_wf hc
  obtain ⟨K, hK⟩ : ∃ K, 30 ≤ K := ⟨_, Nat.le_refl _⟩
  refine ⟨K, ?_⟩
  unfold sallyportlaw01_SumsAdds.f
  simp only [add_tells ha hb K (by omega), refadd_tells ha hb, sub_tells ha hb K (by omega), refsub_tells ha hb, same_tells ha.1 hb.1, refsame_tells ha.1 hb.1, update_tells ha hb hc K (by omega), refupdate_tells ha hb hc, awake_sums K (by omega), Option.bind_some, if_true, beq_self_eq_true]

theorem sumsDiffs : sallyportlaw01_SumsDiffs.Pure := by
  intro a b _ na hwa _ nb hwb
  have ha := bytes_of_wf hwa; have hb := bytes_of_wf hwb
  have na' : a.length < 140737488355328 := by omega
  have nb' : b.length < 140737488355328 := by omega
  obtain ⟨K, hK⟩ : ∃ K, a.length + b.length + 30 ≤ K := ⟨_, Nat.le_refl _⟩
  refine ⟨K, ?_⟩
  unfold sallyportlaw01_SumsDiffs.f
  simp only [copy_tells a na', copy_tells b nb', diff_tells ha hb (Nat.le_of_lt na') (Nat.le_of_lt nb') K (by omega) (by omega), refdiff_tells ha hb (Nat.le_of_lt na') (Nat.le_of_lt nb') K (by omega) (by omega), eq_tells a a (Nat.le_of_lt na') K (by omega), eq_tells b b (Nat.le_of_lt nb') K (by omega), awake_sums K (by omega), Option.bind_some, if_true, decide_true]

theorem sumsGroup : sallyportlaw01_SumsGroup.Pure := by
  intro a b c ha hb hc
  have ha := u16_of_wf ha; have hb := u16_of_wf hb; have hc := u16_of_wf hc
  obtain ⟨K, hK⟩ : ∃ K, 30 ≤ K := ⟨_, Nat.le_refl _⟩
  refine ⟨K, ?_⟩
  have r1 := oc_range (a + b); have r2 := oc_range (b + c); have r3 := oc_range (oc (a + b) + (65535 - b)); have r4 := oc_range (a + 65535)
  have m1 := oc_mod (a + b); have m2 := oc_mod (oc (a + b) + (65535 - b)); have m3 := oc_mod (a + 65535)
  have e1 : oc (b + a) = oc (a + b) := by rw [Int.add_comm]
  have e2 : oc (oc (a + b) + c) = oc (a + oc (b + c)) := by rw [oc_add (by omega) (by omega), oc_add' (by omega) (by omega), Int.add_assoc]
  have e3 : decide (oc (oc (a + b) + (65535 - b)) % 65535 = a % 65535) = true := decide_eq_true (by omega)
  have e5 : decide (b % 65535 = a % 65535) = decide (a % 65535 = b % 65535) := by simp only [eq_comm]
  have e6 : oc (a + 0) = a := by rw [Int.add_zero, oc_small ha.1 ha.2]
  have e7 : decide (oc (a + 65535) % 65535 = a % 65535) = true := decide_eq_true (by omega)
  unfold sallyportlaw01_SumsGroup.f
  simp only [awake_sums K (by omega), add_tells ha hb K (by omega), add_tells hb ha K (by omega), add_tells (oc_range (a + b)) hc K (by omega), add_tells hb hc K (by omega), add_tells ha (oc_range (b + c)) K (by omega), sub_tells (oc_range (a + b)) hb K (by omega), same_tells r3.1 ha.1, same_tells ha.1 ha.1, same_tells ha.1 hb.1, same_tells hb.1 ha.1, add_tells (b := 0) ha (by omega) K (by omega), add_tells (b := 65535) ha (by omega) K (by omega), same_tells r4.1 ha.1, e1, e2, e3, e5, e6, e7, Option.bind_some, if_true, decide_true, beq_self_eq_true]
end Go.Proofs.Ytlgiibchnnaceaa.M
