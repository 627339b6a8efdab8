/- The statement Net6Back: its row. Conditions: none beyond the row's own. -/
import Derived.Test.YtaklgacadjipjaaRows
import Derived.Test.YtaklgacadjipjaaN6K
import Derived.WalkKit
import Derived.ProofKit
import Derived.OpenShut
import Derived.ShutString
import Derived.ChangeOld
import Derived.Below
import Derived.SizedLaws
namespace Go.Proofs.Ytaklgacadjipjaa.net6Back
open Go.ChangeShapes Go.WideShapes Go.ChangeAt Go.RowKit
open Go.ChangeMaps (open_string shut_string)
set_option linter.unusedVariables false
theorem own : ownKnob Try.prog.godebug = none := by kernel_rfl
theorem laidOut : laidOutB Try.prog = true := by kernel_rfl
set_option maxRecDepth 100000 in
theorem lifted (os : Os) (started : os.Started) (H : Type) (enc : TypeId × Value → H) :
    ReturnsInHanded {} Try.checked os 10 .any (Rows.net6BackSpec.pre6 enc Try.prog Try.f10 Rows.net6BackRow.domain false) (Rows.net6BackSpec.post enc Try.prog Try.f10 false true false false) := by
  refine returnsInHanded_of_change_sized (C := Try.checked) own started (by kernel_rfl) Try.func10
    (ChangeSpec.witness6 (enc := enc) (C := Try.checked) false ⟨#[], #[.agg #[.int .u8 0, .int .u32 0, .int .u8 0, .int .u8 0, .int .u8 0, .int .u8 0, .int .u8 0, .int .u8 0, .int .u8 0, .int .u8 0, .int .u8 0, .int .u8 0, .int .u8 0, .int .u8 0, .int .u8 0, .int .u8 0, .int .u8 0, .int .u8 0, .int .u8 0, .int .u8 0, .int .u8 0, .int .u8 0, .int .u8 0, .int .u8 0, .int .u8 0, .int .u8 0, .int .u8 0, .int .u8 0, .int .u8 0, .int .u8 0, .int .u8 0, .int .u8 0, .int .u8 0, .int .u8 0, .int .u8 0, .int .u8 0], .slice none 0 0, .slice none 0 0], []⟩ 8 (by kernel_rfl) (by kernel_rfl) (by kernel_rfl) (by kernel_rfl)) ?_
  intro W base args ds gs before hval0 hW hcnd hsz0 _
  have hsz : (DataW.weightsEach Try.prog (Try.f10.params.toList ++ Rows.net6BackSpec.plain.varTypes Try.prog) (ds ++ gs)).all (· ≤ reachBytes) = true := hsz0
  have hval : ∀ (j : Nat) t v, Try.f10.params[j]? = some t → args[j]? = some v → Value.okWide Try.prog W .any base t v := hval0
  have hW' := hW
  obtain ⟨p, q, hA0, hV, rfl, hfz, hnd⟩ := hW
  have hA : DataW.TrodAll enc Try.prog W 0 (fun _ => true) true Try.f10.params.toList args.toList ds p := hA0
  rw [Try.params10] at hA hval hsz
  obtain ⟨v0, vs0, d0, ds0, p0, q0, hargs, rfl, rfl, h0, r0⟩ := trodAll_cons hA
  obtain ⟨v1, vs1, d1, ds1, p1, q1, rfl, rfl, rfl, h1, r1⟩ := trodAll_cons r0
  obtain ⟨v2, vs2, d2, ds2, p2, q2, rfl, rfl, rfl, h2, r2⟩ := trodAll_cons r1
  obtain ⟨rfl, rfl, rfl⟩ := trodAll_nil r2
  obtain rfl : args = #[v0, v1, v2] := by cases args; simp_all
  obtain ⟨rfl, rfl⟩ := trodVars_none hV
  have k0 := h0
  have lt0 : ∀ x ∈ p0, x.block < W.heap.size := by obtain ⟨m, hm⟩ := k0; exact DataW.trod_lt m _ _ _ hm
  obtain ⟨xs0, g0, rfl⟩ := Sx.open_flat (ts := [5, 44, 5, 5, 5, 5, 5, 5, 5, 5, 5, 5, 5, 5, 5, 5, 5, 5, 5, 5, 5, 5, 5, 5, 5, 5, 5, 5, 5, 5, 5, 5, 5, 5, 5, 5]) Sx.k6 (by kernel_rfl) (by kernel_rfl) (by kernel_rfl) (by kernel_rfl) (hval 0 47 v0 rfl rfl)
  obtain ⟨a1, len1, cap1, rfl⟩ := okWide_slice Try.underlying26 (hval 1 26 v1 rfl rfl)
  have k1 := h1
  have lt1 : ∀ x ∈ p1, x.block < W.heap.size := by obtain ⟨m, hm⟩ := k1; exact DataW.trod_lt m _ _ _ hm
  obtain ⟨l1, pl1, R1⟩ := Sx.row_of (fun _ => rfl) Try.underlying26 Try.underlying5 (by kernel_rfl) h1
  have y1 : len1 * 1 ≤ 140737488351232 := Sx.ints_sized hsz (j := 1) (t := 26) rfl rfl Try.underlying26 Try.underlying5 (by kernel_rfl) (by kernel_rfl) h1
  obtain ⟨a2, len2, cap2, rfl⟩ := okWide_slice Try.underlying26 (hval 2 26 v2 rfl rfl)
  have k2 := h2
  have lt2 : ∀ x ∈ p2, x.block < W.heap.size := by obtain ⟨m, hm⟩ := k2; exact DataW.trod_lt m _ _ _ hm
  obtain ⟨l2, pl2, R2⟩ := Sx.row_of (fun _ => rfl) Try.underlying26 Try.underlying5 (by kernel_rfl) h2
  have y2 : len2 * 1 ≤ 140737488351232 := Sx.ints_sized hsz (j := 2) (t := 26) rfl rfl Try.underlying26 Try.underlying5 (by kernel_rfl) (by kernel_rfl) h2
  clear hA0 hval0 hsz0 hsz
  obtain ⟨ρ, hρ⟩ : ∃ ρ : Sx.Env, ρ = Sx.envL (xs0.map Sx.D.i ++ ([.l l1] ++ ([.l l2] ++ []))) := ⟨_, rfl⟩
  have e0 : Sx.AtEnv ρ 0 xs0 := by
    have := Sx.env_ints (pre := []) (post := [.l l1] ++ ([.l l2] ++ [])) (xs := xs0) (b := 0) (by simp)
    rw [hρ]; simpa using this
  have e1 : ρ 36 = .l l1 := by
    rw [hρ]; apply Sx.env_get
    simp [show xs0.length = 36 from by rw [← g0.1]; rfl]
  have e2 : ρ 37 = .l l2 := by
    rw [hρ]; apply Sx.env_get
    simp [show xs0.length = 36 from by rw [← g0.1]; rfl]
  have key := Sx.true_calls (Sx.n6back_ok) (ρ := ρ) (nb := 10000) (args := [.agg (Sx.ints Sx.k6 xs0).toArray, .slice a1 len1 cap1, .slice a2 len2 cap2]) (β := Sx.mapP [pl1, pl2]) (w := W)
    (Sx.inKs_val g0 e0 <| Sx.short_val e1 (by rw [R1.long]; omega) <| Sx.bytes_val e1 R1.wf <| Sx.short_val e2 (by rw [R2.long]; omega) <| Sx.bytes_val e2 R2.wf <| rfl)
    (by
      show Sx.repVs _ _ Sx.tN6Back.vs _
      exact ⟨⟨_, rfl, by simpa using Sx.cellsV_rep g0.1 e0⟩, Sx.slc_rep rfl e1 R1, Sx.slc_rep rfl e2 R2, trivial⟩)
    (Sx.in_cons R1.heap <| Sx.in_cons R2.heap <| Sx.in_nil) (Sx.mem_in (Sx.look_one ⟨rfl, pl1, rfl, Sx.row_mem e1 R1⟩ <| Sx.look_one ⟨rfl, pl2, rfl, Sx.row_mem e2 R2⟩ <| Sx.look_nil)) (Sx.mapP_free rfl)
  refine key.mono fun e W' ⟨he, bel⟩ => ?_
  subst he
  exact ⟨_, rfl, _, _, _, [], _, [], hW', trodAll_mk1 (shut_bool Try.underlying4 _), (trodAll_cons_mk (Below.trod laidOut (by kernel_rfl) (of_decide_eq_true (by kernel_rfl)) k0 bel lt0) (trodAll_cons_mk (Below.trod laidOut (by kernel_rfl) (of_decide_eq_true (by kernel_rfl)) k1 bel lt1) (trodAll_cons_mk (Below.trod laidOut (by kernel_rfl) (of_decide_eq_true (by kernel_rfl)) k2 bel lt2) trodAll_mk0))), rfl, bel.frame _, fun h => by cases h⟩
theorem over : Rows.net6BackRow.holds Try.pinned (OpenSpec.ofChange Rows.net6BackSpec) :=
  OpenClaim.holds_of_wide 10 Try.f10 rfl rfl rfl rfl rfl rfl rfl ⟨rfl, rfl, rfl, rfl, rfl⟩ rfl rfl rfl rfl rfl (by kernel_rfl) Try.func10 (by kernel_rfl)
    (of_decide_eq_true (by kernel_rfl)) (by unfold Func.isWrapper; first | (rw [if_pos (by decide +kernel)]; kernel_rfl) | (rw [if_neg (by decide +kernel)]; exact ⟨rfl, rfl⟩))
    (fun os started H enc _ => lifted os started H enc)
theorem proved : Rows.Net6BackSaid := over
#print axioms proved
end Go.Proofs.Ytaklgacadjipjaa.net6Back
namespace Go.Proofs.Ytaklgacadjipjaa
/-- The row, under a short name, for the claim. -/
theorem net6Back_holds : Rows.Net6BackSaid := net6Back.proved
end Go.Proofs.Ytaklgacadjipjaa
