/- The chapter's sums are awake. -/
import Derived.Test.YtlgiibchnnaceaaPx0
import Derived.Test.YtlgiibchnnaceaaPx8
import Derived.Test.YtlgiibchnnaceaaSumsP
namespace Go.Proofs.Ytlgiibchnnaceaa.M
open Go Go.RowKit Go.Proofs.YtlgiibchnnaceaaW.PrintWords Go.Proofs.Ytlgiibchnnaceaa.P

theorem awake_sums (k : Nat) (hk : 30 ≤ k) : sallyportlaw01_awake.f k = some true := by
  have b2 : ∀ a b : Int, 0 ≤ a → a ≤ 255 → 0 ≤ b → b ≤ 255 → Bytes [a, b] := fun a b h1 h2 h3 h4 => bytes_cons h1 h2 (bytes_cons h3 h4 bytes_nil)
  have d := diff_tells (b2 0 1 (by omega) (by omega) (by omega) (by omega)) (b2 0 3 (by omega) (by omega) (by omega) (by omega)) (by simp) (by simp) k (by simp; omega) (by simp; omega)
  have s := sum_tells (l := [1, 2, 3]) (bytes_cons (by omega) (by omega) (b2 2 3 (by omega) (by omega) (by omega) (by omega))) (by simp) k (by simp; omega)
  have f := field_tells (l := [69, 0, 0, 20]) (bytes_cons (by omega) (by omega) (bytes_cons (by omega) (by omega) (b2 0 20 (by omega) (by omega) (by omega) (by omega)))) (by simp) k (by simp; omega)
  have a := add_tells (a := 65535) (b := 1) (by omega) (by omega) k (by omega)
  have u := sub_tells (a := 3) (b := 5) (by omega) (by omega) k (by omega)
  have m := same_tells (a := 0) (b := 65535) (by omega) (by omega)
  have p := update_tells (f := 47851) (o := 20) (n := 40) (by omega) (by omega) (by omega) k (by omega)
  have e1 : (if [(0 : Int), 1].length = [(0 : Int), 3].length ∧ [(0 : Int), 1].length % 2 = 0 then (oc (oc (S [0, 3]) + (65535 - oc (S [0, 1]))), (0 : Int)) else (0, 2)) = (2, 0) := by decide
  have e2 : oc (S [1, 2, 3]) = 1026 := by decide
  have e3 : 65535 - oc (S [69, 0, 0, 20]) = 47851 := by decide
  have e4 : oc (65535 + 1) = 1 := by decide
  have e5 : oc (3 + (65535 - 5)) = 65533 := by decide
  have e6 : decide ((0 : Int) % 65535 = 65535 % 65535) = true := by decide
  have e7 : 65535 - oc (oc (65535 - 47851 + (65535 - 20)) + 40) = 47831 := by decide
  rw [e1] at d; rw [e2] at s; rw [e3] at f; rw [e4] at a; rw [e5] at u; rw [e6] at m; rw [e7] at p
  unfold sallyportlaw01_awake.f
  simp only [d, s, f, a, u, m, p, Option.bind_some, if_true]
  rfl
end Go.Proofs.Ytlgiibchnnaceaa.M
