/- What the document's bytes of a net4 header are. -/
import Derived.Test.YtipdajgcepefgaaPx0
import Derived.Test.YtipdajgcepefgaaPx4
import Derived.Test.YtipdajgcepefgaaPx5
import Derived.Test.YtipdajgcepefgaaPx7
import Derived.Test.YtipdajgcepefgaaNet4Math
namespace Go.Proofs.Ytipdajgcepefgaa.M
open Go Go.RowKit Go.Proofs.YtipdajgcepefgaaW.PrintWords Go.Proofs.Ytipdajgcepefgaa.P
set_option linter.unusedVariables false

theorem ref_bytes07 {h0 : Int} {h1 : Int} {h2 : Int} {h3 : Int} {h4 : Int} {h5 : Int} {h6 : Int} {h7 : Int} {h8 : Int} {h9 : Int} {h10 : Int} {h11 : Int} (w0 : 0 ≤ h0 ∧ h0 ≤ 255) (w1 : 0 ≤ h1 ∧ h1 ≤ 255) (w2 : 0 ≤ h2 ∧ h2 ≤ 255) (w3 : 0 ≤ h3 ∧ h3 ≤ 65535) (w4 : 0 ≤ h4 ∧ h4 ≤ 255) (w5 : 0 ≤ h5 ∧ h5 ≤ 255) (w6 : 0 ≤ h6 ∧ h6 ≤ 255) (w7 : 0 ≤ h7 ∧ h7 ≤ 255) (w8 : 0 ≤ h8 ∧ h8 ≤ 255) (w9 : 0 ≤ h9 ∧ h9 ≤ 255) (w10 : 0 ≤ h10 ∧ h10 ≤ 255) (w11 : 0 ≤ h11 ∧ h11 ≤ 255) (l : List Int) (k : Nat) (hk : 2060 ≤ k) : sallyportref07_Bytes.f k h0 h1 h2 h3 h4 h5 h6 h7 h8 h9 h10 h11 l = some (net4Bytes h0 h1 h2 h3 h4 h5 h6 h7 h8 h9 h10 h11 l) := by
  unfold sallyportref07_Bytes.f net4Bytes sallyportref07_Check.f
  simp only [Option.bind_some, if_true]
  by_cases h : l.length ≤ 2028
  · have hB := ahead_bytes w0 w1 w2 w3 w4 w5 w6 w7 w8 w9 w10 w11 l.length
    have hg := fls_range (S (net4_Bytes.ahead h0 h1 h2 h3 h4 h5 h6 h7 h8 h9 h10 h11 l.length))
    have n1 := number2_07 (v := 20 + (l.length : Int)) (by omega) (by omega) k (by omega)
    have n2 := number2_07 (v := h3) (by omega) (by omega) k (by omega)
    have hd := reffield_tells hB (by simp [net4_Bytes.ahead]) k (by simp [net4_Bytes.ahead]; omega)
    rw [show 65535 - oc (S (net4_Bytes.ahead h0 h1 h2 h3 h4 h5 h6 h7 h8 h9 h10 h11 l.length)) = fls (S (net4_Bytes.ahead h0 h1 h2 h3 h4 h5 h6 h7 h8 h9 h10 h11 l.length)) from rfl] at hd
    rw [if_pos h, if_pos h, wrap_i64 (x := h3) (by omega) (by omega), n1, n2]
    simp only [Option.bind_some, List.nil_append, List.cons_append, List.length_nil, List.length_cons, Nat.zero_add, Nat.reduceAdd]
    have t1 : Int.tdiv (fls (S (net4_Bytes.ahead h0 h1 h2 h3 h4 h5 h6 h7 h8 h9 h10 h11 l.length))) 256 = fls (S (net4_Bytes.ahead h0 h1 h2 h3 h4 h5 h6 h7 h8 h9 h10 h11 l.length)) / 256 := Int.tdiv_eq_ediv_of_nonneg hg.1
    have t2 : Int.tmod (fls (S (net4_Bytes.ahead h0 h1 h2 h3 h4 h5 h6 h7 h8 h9 h10 h11 l.length))) 256 = fls (S (net4_Bytes.ahead h0 h1 h2 h3 h4 h5 h6 h7 h8 h9 h10 h11 l.length)) % 256 := Int.tmod_eq_emod_of_nonneg hg.1
    generalize fls (S (net4_Bytes.ahead h0 h1 h2 h3 h4 h5 h6 h7 h8 h9 h10 h11 l.length)) = g at *
    unfold net4_Bytes.ahead at hd
    unfold net4_Bytes.bytes
    rw [if_pos (by decide), if_pos (by decide), if_pos trivial, hd]
    simp only [Option.bind_some]
    rw [wrap_i64 (x := g) (by omega) (by omega), t1, t2, wrap_i64 (x := g / 256) (by omega) (by omega)]
    simp
  · rw [if_neg h, if_neg h]
end Go.Proofs.Ytipdajgcepefgaa.M
