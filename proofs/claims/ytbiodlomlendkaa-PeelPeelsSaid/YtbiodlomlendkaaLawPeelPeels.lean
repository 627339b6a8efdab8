/- The statement PeelPeels: its row. Conditions: none beyond the row's own. -/
import Derived.Test.YtbiodlomlendkaaRows
import Derived.Test.YtbiodlomlendkaaZ4
import Derived.WalkKit
import Derived.ProofKit
import Derived.OpenShut
import Derived.ShutString
import Derived.ChangeOld
import Derived.Below
import Derived.SizedLaws
namespace Go.Proofs.Ytbiodlomlendkaa.peelPeels
open Go.ChangeShapes Go.WideShapes Go.ChangeAt Go.RowKit
open Go.ChangeMaps (open_string shut_string)
set_option linter.unusedVariables false
theorem own : ownKnob Try.prog.godebug = none := by kernel_rfl
theorem laidOut : laidOutB Try.prog = true := by kernel_rfl
set_option maxRecDepth 100000 in
theorem lifted (os : Os) (started : os.Started) (H : Type) (enc : TypeId × Value → H) :
    ReturnsInHanded {} Try.checked os 3 .any (Rows.peelPeelsSpec.pre6 enc Try.prog Try.f3 Rows.peelPeelsRow.domain false) (Rows.peelPeelsSpec.post enc Try.prog Try.f3 false true false false) := by
  refine returnsInHanded_of_change_sized (C := Try.checked) own started (by kernel_rfl) Try.func3
    (ChangeSpec.witness6 (enc := enc) (C := Try.checked) false ⟨#[], #[.slice none 0 0], []⟩ 8 (by kernel_rfl) (by kernel_rfl) (by kernel_rfl) (by kernel_rfl)) ?_
  intro W base args ds gs before hval0 hW hcnd hsz0 _
  have hsz : (DataW.weightsEach Try.prog (Try.f3.params.toList ++ Rows.peelPeelsSpec.plain.varTypes Try.prog) (ds ++ gs)).all (· ≤ reachBytes) = true := hsz0
  have hval : ∀ (j : Nat) t v, Try.f3.params[j]? = some t → args[j]? = some v → Value.okWide Try.prog W .any base t v := hval0
  have hW' := hW
  obtain ⟨p, q, hA0, hV, rfl, hfz, hnd⟩ := hW
  have hA : DataW.TrodAll enc Try.prog W 0 (fun _ => true) true Try.f3.params.toList args.toList ds p := hA0
  rw [Try.params3] at hA hval hsz
  obtain ⟨v0, vs0, d0, ds0, p0, q0, hargs, rfl, rfl, h0, r0⟩ := trodAll_cons hA
  obtain ⟨rfl, rfl, rfl⟩ := trodAll_nil r0
  obtain rfl : args = #[v0] := by cases args; simp_all
  obtain ⟨rfl, rfl⟩ := trodVars_none hV
  obtain ⟨a0, len0, cap0, rfl⟩ := okWide_slice Try.underlying22 (hval 0 22 v0 rfl rfl)
  have k0 := h0
  have lt0 : ∀ x ∈ p0, x.block < W.heap.size := by obtain ⟨m, hm⟩ := k0; exact DataW.trod_lt m _ _ _ hm
  obtain ⟨l0, pl0, R0⟩ := Sx.row_of (fun _ => rfl) Try.underlying22 Try.underlying5 (by kernel_rfl) h0
  have y0 : len0 * 1 ≤ 140737488351232 := Sx.ints_sized hsz (j := 0) (t := 22) rfl rfl Try.underlying22 Try.underlying5 (by kernel_rfl) (by kernel_rfl) h0
  clear hA0 hval0 hsz0 hsz
  obtain ⟨ρ, hρ⟩ : ∃ ρ : Sx.Env, ρ = Sx.envL ([.l l0] ++ []) := ⟨_, rfl⟩
  have e0 : ρ 0 = .l l0 := by
    rw [hρ]; apply Sx.env_get
    rfl
  have key := Sx.true_calls (Sx.plPeels_ok) (ρ := ρ) (nb := 100000) (args := [.slice a0 len0 cap0]) (β := Sx.mapP [pl0]) (w := W)
    (Sx.short_val e0 (by rw [R0.long]; omega) <| Sx.bytes_val e0 R0.wf <| rfl)
    (by
      show Sx.repVs _ _ Sx.tPeels.vs _
      exact ⟨Sx.slc_rep rfl e0 R0, trivial⟩)
    (Sx.in_cons R0.heap <| Sx.in_nil) (Sx.mem_in (Sx.look_one ⟨rfl, pl0, rfl, Sx.row_mem e0 R0⟩ <| Sx.look_nil)) (Sx.mapP_free rfl)
  refine key.mono fun e W' ⟨he, bel⟩ => ?_
  subst he
  exact ⟨_, rfl, _, _, _, [], _, [], hW', trodAll_mk1 (shut_bool Try.underlying4 _), (trodAll_cons_mk (Below.trod laidOut (by kernel_rfl) (of_decide_eq_true (by kernel_rfl)) k0 bel lt0) trodAll_mk0), rfl, bel.frame _, fun h => by cases h⟩
theorem over : Rows.peelPeelsRow.holds Try.pinned (OpenSpec.ofChange Rows.peelPeelsSpec) :=
  OpenClaim.holds_of_wide 3 Try.f3 rfl rfl rfl rfl rfl rfl rfl ⟨rfl, rfl, rfl, rfl, rfl⟩ rfl rfl rfl rfl rfl (by kernel_rfl) Try.func3 (by kernel_rfl)
    (of_decide_eq_true (by kernel_rfl)) (by unfold Func.isWrapper; first | (rw [if_pos (by decide +kernel)]; kernel_rfl) | (rw [if_neg (by decide +kernel)]; exact ⟨rfl, rfl⟩))
    (fun os started H enc _ => lifted os started H enc)
theorem proved : Rows.PeelPeelsSaid := over
#print axioms proved
end Go.Proofs.Ytbiodlomlendkaa.peelPeels
namespace Go.Proofs.Ytbiodlomlendkaa
/-- The row, under a short name, for the claim. -/
theorem peelPeels_holds : Rows.PeelPeelsSaid := peelPeels.proved
end Go.Proofs.Ytbiodlomlendkaa
