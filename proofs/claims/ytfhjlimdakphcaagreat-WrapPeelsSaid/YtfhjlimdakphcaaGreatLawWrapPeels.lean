/- The statement WrapPeels: its row. Conditions: none beyond the row's own. -/
import Derived.Test.YtfhjlimdakphcaaGreatRows
import Derived.Test.YtfhjlimdakphcaaGreatP7
import Derived.WalkKit
import Derived.ProofKit
import Derived.OpenShut
import Derived.ShutString
import Derived.ChangeOld
import Derived.Below
import Derived.SizedLaws
namespace Go.Proofs.YtfhjlimdakphcaaGreat.wrapPeels
open Go.ChangeShapes Go.WideShapes Go.ChangeAt Go.RowKit
open Go.ChangeMaps (open_string shut_string)
set_option linter.unusedVariables false
theorem own : ownKnob Tryz.prog.godebug = none := by kernel_rfl
theorem laidOut : laidOutB Tryz.prog = true := by kernel_rfl
set_option maxRecDepth 100000 in
theorem lifted (os : Os) (started : os.Started) (H : Type) (enc : TypeId × Value → H) :
    ReturnsInHanded {} Tryz.checked os 6 .any (Rows.wrapPeelsSpec.pre6 enc Tryz.prog Tryz.f6 Rows.wrapPeelsRow.domain false) (Rows.wrapPeelsSpec.post enc Tryz.prog Tryz.f6 false true false false) := by
  refine returnsInHanded_of_change_sized (C := Tryz.checked) own started (by kernel_rfl) Tryz.func6
    (ChangeSpec.witness6 (enc := enc) (C := Tryz.checked) false ⟨#[], #[.slice none 0 0, .slice none 0 0], []⟩ 8 (by kernel_rfl) (by kernel_rfl) (by kernel_rfl) (by kernel_rfl)) ?_
  intro W base args ds gs before hval0 hW hcnd hsz0 _
  have hsz : (DataW.weightsEach Tryz.prog (Tryz.f6.params.toList ++ Rows.wrapPeelsSpec.plain.varTypes Tryz.prog) (ds ++ gs)).all (· ≤ reachBytes) = true := hsz0
  have hval : ∀ (j : Nat) t v, Tryz.f6.params[j]? = some t → args[j]? = some v → Value.okWide Tryz.prog W .any base t v := hval0
  have hW' := hW
  obtain ⟨p, q, hA0, hV, rfl, hfz, hnd⟩ := hW
  have hA : DataW.TrodAll enc Tryz.prog W 0 (fun _ => true) true Tryz.f6.params.toList args.toList ds p := hA0
  rw [Tryz.params6] at hA hval hsz
  obtain ⟨v0, vs0, d0, ds0, p0, q0, hargs, rfl, rfl, h0, r0⟩ := trodAll_cons hA
  obtain ⟨v1, vs1, d1, ds1, p1, q1, rfl, rfl, rfl, h1, r1⟩ := trodAll_cons r0
  obtain ⟨rfl, rfl, rfl⟩ := trodAll_nil r1
  obtain rfl : args = #[v0, v1] := by cases args; simp_all
  obtain ⟨rfl, rfl⟩ := trodVars_none hV
  obtain ⟨a0, len0, cap0, rfl⟩ := okWide_slice Tryz.underlying22 (hval 0 22 v0 rfl rfl)
  have k0 := h0
  have lt0 : ∀ x ∈ p0, x.block < W.heap.size := by obtain ⟨m, hm⟩ := k0; exact DataW.trod_lt m _ _ _ hm
  obtain ⟨l0, pl0, R0⟩ := Sx.row_of (fun _ => rfl) Tryz.underlying22 Tryz.underlying5 (by kernel_rfl) h0
  have y0 : len0 * 1 ≤ 140737488351232 := Sx.ints_sized hsz (j := 0) (t := 22) rfl rfl Tryz.underlying22 Tryz.underlying5 (by kernel_rfl) (by kernel_rfl) h0
  obtain ⟨a1, len1, cap1, rfl⟩ := okWide_slice Tryz.underlying64 (hval 1 64 v1 rfl rfl)
  have k1 := h1
  have lt1 : ∀ x ∈ p1, x.block < W.heap.size := by obtain ⟨m, hm⟩ := k1; exact DataW.trod_lt m _ _ _ hm
  obtain ⟨l1, pl1, R1⟩ := Sx.rows_of (mix := false) (ks := Sx.kHead) (e := 49) (F := 8) (ko := (List.range (Sx.kHead).length).map (Sx.kAtM false Sx.kHead)) (fun _ => rfl) Tryz.underlying64 (by kernel_rfl) rfl (by kernel_rfl) (by decide) (fun h => by cases h) h1
  have y1 : len1 ≤ 140737488351232 ∧ len1 * _ ≤ 140737488351232 := Sx.rows_sized hsz (j := 1) (t := 64) rfl rfl Tryz.underlying64 rfl (of_decide_eq_true (by kernel_rfl)) h1
  clear hA0 hval0 hsz0 hsz
  obtain ⟨ρ, hρ⟩ : ∃ ρ : Sx.Env, ρ = Sx.envL ([.l l0] ++ ([.i (len1 : Int)] ++ ([.l l1] ++ []))) := ⟨_, rfl⟩
  have e0 : ρ 0 = .l l0 := by
    rw [hρ]; apply Sx.env_get
    rfl
  have e1n : ρ 1 = .i (len1 : Int) := by
    rw [hρ]; apply Sx.env_get
    rfl
  have e1 : ρ 2 = .l l1 := by
    rw [hρ]; apply Sx.env_get
    rfl
  have key := Sx.true_calls (Sx.peels_ok) (ρ := ρ) (nb := 200000) (args := [.slice a0 len0 cap0, .slice a1 len1 cap1]) (β := Sx.mapP [pl0, pl1]) (w := W)
    (Sx.short_val e0 (by rw [R0.long]; omega) <| Sx.bytes_val e0 R0.wf <| Sx.rowS_val (st := 73) e1n e1 rfl R1 y1.1 <| rfl)
    (by
      show Sx.repVs _ _ Sx.tWPeels.vs _
      exact ⟨Sx.slc_rep rfl e0 R0, Sx.slcS_rep rfl rfl e1n R1, trivial⟩)
    (Sx.in_cons R0.heap <| Sx.in_cons R1.heap <| Sx.in_nil) (Sx.mem_in (Sx.look_one ⟨rfl, pl0, rfl, Sx.row_mem e0 R0⟩ <| Sx.look_one ⟨rfl, pl1, rfl, Sx.rowS_mem e1 R1⟩ <| Sx.look_nil)) (Sx.mapP_free rfl)
  refine key.mono fun e W' ⟨he, bel⟩ => ?_
  subst he
  exact ⟨_, rfl, _, _, _, [], _, [], hW', trodAll_mk1 (shut_bool Tryz.underlying4 _), (trodAll_cons_mk (Below.trod laidOut (by kernel_rfl) (of_decide_eq_true (by kernel_rfl)) k0 bel lt0) (trodAll_cons_mk (Below.trod laidOut (by kernel_rfl) (of_decide_eq_true (by kernel_rfl)) k1 bel lt1) trodAll_mk0)), rfl, bel.frame _, fun h => by cases h⟩
theorem over : Rows.wrapPeelsRow.holds Tryz.pinned (OpenSpec.ofChange Rows.wrapPeelsSpec) :=
  OpenClaim.holds_of_wide 6 Tryz.f6 rfl rfl rfl rfl rfl rfl rfl ⟨rfl, rfl, rfl, rfl, rfl⟩ rfl rfl rfl rfl rfl (by kernel_rfl) Tryz.func6 (by kernel_rfl)
    (of_decide_eq_true (by kernel_rfl)) (by unfold Func.isWrapper; first | (rw [if_pos (by decide +kernel)]; kernel_rfl) | (rw [if_neg (by decide +kernel)]; exact ⟨rfl, rfl⟩))
    (fun os started H enc _ => lifted os started H enc)
theorem proved : Rows.WrapPeelsSaid := over
#print axioms proved
end Go.Proofs.YtfhjlimdakphcaaGreat.wrapPeels
namespace Go.Proofs.YtfhjlimdakphcaaGreat
/-- The row, under a short name, for the claim. -/
theorem wrapPeels_holds : Rows.WrapPeelsSaid := wrapPeels.proved
end Go.Proofs.YtfhjlimdakphcaaGreat
