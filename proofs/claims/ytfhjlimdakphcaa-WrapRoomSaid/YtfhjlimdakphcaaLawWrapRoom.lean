/- The statement WrapRoom: its row. Conditions: none beyond the row's own. -/
import Derived.Test.YtfhjlimdakphcaaRows
import Derived.Test.YtfhjlimdakphcaaU6
import Derived.WalkKit
import Derived.ProofKit
import Derived.OpenShut
import Derived.ShutString
import Derived.ChangeOld
import Derived.Below
import Derived.SizedLaws
namespace Go.Proofs.Ytfhjlimdakphcaa.wrapRoom
open Go.ChangeShapes Go.WideShapes Go.ChangeAt Go.RowKit
open Go.ChangeMaps (open_string shut_string)
set_option linter.unusedVariables false
theorem own : ownKnob Try.prog.godebug = none := by kernel_rfl
theorem laidOut : laidOutB Try.prog = true := by kernel_rfl
set_option maxRecDepth 100000 in
theorem lifted (os : Os) (started : os.Started) (H : Type) (enc : TypeId × Value → H) :
    ReturnsInHanded {} Try.checked os 3 .any (Rows.wrapRoomSpec.pre6 enc Try.prog Try.f3 Rows.wrapRoomRow.domain false) (Rows.wrapRoomSpec.post enc Try.prog Try.f3 false true false false) := by
  refine returnsInHanded_of_change_sized (C := Try.checked) own started (by kernel_rfl) Try.func3
    (ChangeSpec.witness6 (enc := enc) (C := Try.checked) false ⟨#[], #[.slice none 0 0, .agg #[.int .i64 0, .int .i64 0, .int .i64 0, .int .i64 0], .slice none 0 0], []⟩ 8 (by kernel_rfl) (by kernel_rfl) (by kernel_rfl) (by kernel_rfl)) ?_
  intro W base args ds gs before hval0 hW hcnd hsz0 _
  have hsz : (DataW.weightsEach Try.prog (Try.f3.params.toList ++ Rows.wrapRoomSpec.plain.varTypes Try.prog) (ds ++ gs)).all (· ≤ reachBytes) = true := hsz0
  have hval : ∀ (j : Nat) t v, Try.f3.params[j]? = some t → args[j]? = some v → Value.okWide Try.prog W .any base t v := hval0
  have hW' := hW
  obtain ⟨p, q, hA0, hV, rfl, hfz, hnd⟩ := hW
  have hA : DataW.TrodAll enc Try.prog W 0 (fun _ => true) true Try.f3.params.toList args.toList ds p := hA0
  rw [Try.params3] at hA hval hsz
  obtain ⟨v0, vs0, d0, ds0, p0, q0, hargs, rfl, rfl, h0, r0⟩ := trodAll_cons hA
  obtain ⟨v1, vs1, d1, ds1, p1, q1, rfl, rfl, rfl, h1, r1⟩ := trodAll_cons r0
  obtain ⟨v2, vs2, d2, ds2, p2, q2, rfl, rfl, rfl, h2, r2⟩ := trodAll_cons r1
  obtain ⟨rfl, rfl, rfl⟩ := trodAll_nil r2
  obtain rfl : args = #[v0, v1, v2] := by cases args; simp_all
  obtain ⟨rfl, rfl⟩ := trodVars_none hV
  obtain ⟨a0, len0, cap0, rfl⟩ := okWide_slice Try.underlying22 (hval 0 22 v0 rfl rfl)
  have k0 := h0
  have lt0 : ∀ x ∈ p0, x.block < W.heap.size := by obtain ⟨m, hm⟩ := k0; exact DataW.trod_lt m _ _ _ hm
  obtain ⟨l0, pl0, R0⟩ := Sx.row_of (fun _ => rfl) Try.underlying22 Try.underlying5 (by kernel_rfl) h0
  have y0 : len0 * 1 ≤ 140737488351232 := Sx.ints_sized hsz (j := 0) (t := 22) rfl rfl Try.underlying22 Try.underlying5 (by kernel_rfl) (by kernel_rfl) h0
  have k1 := h1
  have lt1 : ∀ x ∈ p1, x.block < W.heap.size := by obtain ⟨m, hm⟩ := k1; exact DataW.trod_lt m _ _ _ hm
  obtain ⟨xs1, g1, rfl⟩ := Sx.open_flat (ts := [3, 3, 3, 3]) Sx.k4 (by kernel_rfl) (by kernel_rfl) (by kernel_rfl) (by kernel_rfl) (hval 1 23 v1 rfl rfl)
  obtain ⟨a2, len2, cap2, rfl⟩ := okWide_slice Try.underlying24 (hval 2 24 v2 rfl rfl)
  have k2 := h2
  have lt2 : ∀ x ∈ p2, x.block < W.heap.size := by obtain ⟨m, hm⟩ := k2; exact DataW.trod_lt m _ _ _ hm
  obtain ⟨l2, pl2, R2⟩ := Sx.rows_of (mix := true) (ks := Sx.kDo) (e := 51) (F := 8) (ko := (List.range (Sx.kDo).length).map (Sx.kAtM true Sx.kDo)) (fun _ => rfl) Try.underlying24 (by kernel_rfl) rfl (by kernel_rfl) (by decide) (fun _ => rfl) h2
  have y2 : len2 ≤ 140737488351232 := Sx.rows_sized hsz (j := 2) (t := 24) rfl rfl Try.underlying24 rfl (of_decide_eq_true (by kernel_rfl)) h2
  clear hA0 hval0 hsz0 hsz
  obtain ⟨ρ, hρ⟩ : ∃ ρ : Sx.Env, ρ = Sx.envL ([.l l0] ++ (xs1.map Sx.D.i ++ ([.i (len2 : Int)] ++ ([.l l2] ++ [])))) := ⟨_, rfl⟩
  have e0 : ρ 0 = .l l0 := by
    rw [hρ]; apply Sx.env_get
    rfl
  have e1 : Sx.AtEnv ρ 1 xs1 := by
    have := Sx.env_ints (pre := [.l l0]) (post := [.i (len2 : Int)] ++ ([.l l2] ++ [])) (xs := xs1) (b := 1) (by simp)
    rw [hρ]; simpa using this
  have e2n : ρ 5 = .i (len2 : Int) := by
    rw [hρ]; apply Sx.env_get
    simp [show xs1.length = 4 from by rw [← g1.1]; rfl]
  have e2 : ρ 6 = .l l2 := by
    rw [hρ]; apply Sx.env_get
    simp [show xs1.length = 4 from by rw [← g1.1]; rfl]
  have key := Sx.true_calls (Sx.room_ok) (ρ := ρ) (nb := 100000) (args := [.slice a0 len0 cap0, .agg (Sx.ints Sx.k4 xs1).toArray, .slice a2 len2 cap2]) (β := Sx.mapP [pl0, pl2]) (w := W)
    (Sx.short_val e0 (by rw [R0.long]; omega) <| Sx.bytes_val e0 R0.wf <| Sx.inKs_val g1 e1 <| Sx.rowS_val (st := 75) e2n e2 rfl R2 y2 <| rfl)
    (by
      show Sx.repVs _ _ Sx.tRoom.vs _
      exact ⟨Sx.slc_rep rfl e0 R0, ⟨_, rfl, by simpa using Sx.cellsV_rep g1.1 e1⟩, Sx.slcS_rep rfl rfl e2n R2, trivial⟩)
    (Sx.in_cons R0.heap <| Sx.in_cons R2.heap <| Sx.in_nil) (Sx.mem_in (Sx.look_one ⟨rfl, pl0, rfl, Sx.row_mem e0 R0⟩ <| Sx.look_one ⟨rfl, pl2, rfl, Sx.mixS_mem e2 R2⟩ <| Sx.look_nil)) (Sx.mapP_free rfl)
  refine key.mono fun e W' ⟨he, bel⟩ => ?_
  subst he
  exact ⟨_, rfl, _, _, _, [], _, [], hW', trodAll_mk1 (shut_bool Try.underlying4 _), (trodAll_cons_mk (Below.trod laidOut (by kernel_rfl) (of_decide_eq_true (by kernel_rfl)) k0 bel lt0) (trodAll_cons_mk (Below.trod laidOut (by kernel_rfl) (of_decide_eq_true (by kernel_rfl)) k1 bel lt1) (trodAll_cons_mk (Below.trod laidOut (by kernel_rfl) (of_decide_eq_true (by kernel_rfl)) k2 bel lt2) trodAll_mk0))), rfl, bel.frame _, fun h => by cases h⟩
theorem over : Rows.wrapRoomRow.holds Try.pinned (OpenSpec.ofChange Rows.wrapRoomSpec) :=
  OpenClaim.holds_of_wide 3 Try.f3 rfl rfl rfl rfl rfl rfl rfl ⟨rfl, rfl, rfl, rfl, rfl⟩ rfl rfl rfl rfl rfl (by kernel_rfl) Try.func3 (by kernel_rfl)
    (of_decide_eq_true (by kernel_rfl)) (by unfold Func.isWrapper; first | (rw [if_pos (by decide +kernel)]; kernel_rfl) | (rw [if_neg (by decide +kernel)]; exact ⟨rfl, rfl⟩))
    (fun os started H enc _ => lifted os started H enc)
theorem proved : Rows.WrapRoomSaid := over
#print axioms proved
end Go.Proofs.Ytfhjlimdakphcaa.wrapRoom
namespace Go.Proofs.Ytfhjlimdakphcaa
/-- The row, under a short name, for the claim. -/
theorem wrapRoom_holds : Rows.WrapRoomSaid := wrapRoom.proved
end Go.Proofs.Ytfhjlimdakphcaa
