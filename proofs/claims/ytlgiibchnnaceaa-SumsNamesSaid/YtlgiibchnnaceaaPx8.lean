/- Contracts of the functions that the statements reach, and the statements: written by a program of this repo (wip/patch_print.py); Lean checks every line; no conditions. -/
import Derived.Test.YtlgiibchnnaceaaPx0
import Derived.Test.YtlgiibchnnaceaaPx3
import Derived.Test.YtlgiibchnnaceaaPx4
import Derived.Test.YtlgiibchnnaceaaPx5
import Derived.Test.YtlgiibchnnaceaaPx6
import Derived.Test.YtlgiibchnnaceaaPx7
namespace Go.Proofs.Ytlgiibchnnaceaa.P
open Go.RowKit Go.Proofs.YtlgiibchnnaceaaW.PrintWords Go.Proofs.YtlgiibchnnaceaaW.PrintLast Go.Proofs.YtlgiibchnnaceaaW.PrintMore
attribute [local go_sem] max2_int min2_int max_two min_two max_three min_three max_four min_four Go.Proofs.YtlgiibchnnaceaaW.Own.u16_all   -- for this text's walks alone
set_option linter.unusedVariables false
set_option linter.unusedSimpArgs false

/-! ### sallyportlaw01_awake: function 21 -/
def sallyportlaw01_awake.f (k : Nat)  : Option (Bool) := (sums_Diff.f k (([0, 1] : List Int)) (([0, 3] : List Int))).bind fun bt128 => ((sums_Sum.f k (([1, 2, 3] : List Int))).bind fun t133 => (if t133 = 1026 then ((sums_Field.f k (([69, 0, 0, 20] : List Int))).bind fun t137 => (if t137 = 47851 then ((sums_Add.f k 65535 1).bind fun t138 => (if t138 = 1 then ((sums_Sub.f k 3 5).bind fun t139 => (if t139 = 65533 then ((sums_Same.f 0 65535).bind fun t140 => (if t140 = true then (if bt128.1 = 2 then (if bt128.2 = 0 then ((sums_Update.f k 47851 20 40).bind fun t141 => (some (t141 == 47831))) else (some false)) else (some false)) else (some false))) else (some false))) else (some false))) else (some false))) else (some false)))
theorem sallyportlaw01_awake.mono : ∀ k, LeO (sallyportlaw01_awake.f k ) (sallyportlaw01_awake.f (k + 1) ) := by
  intro  k
  unfold sallyportlaw01_awake.f
  repeat' first
      | (with_reducible exact sums_Add.mono _ _ _)
      | (with_reducible exact sums_Diff.mono _ _ _)
      | (with_reducible exact sums_Field.mono _ _)
      | (with_reducible exact sums_Sub.mono _ _ _)
      | (with_reducible exact sums_Sum.mono _ _)
      | (with_reducible exact sums_Update.mono _ _ _ _)
      | (with_reducible exact LeO.refl _)
      | (with_reducible exact LeO.none _)
      | (with_reducible refine LeO.ite ?_ ?_)
      | (with_reducible refine LeO.bind ?_ (fun _ => ?_))
      | exact sums_Add.mono _ _ _
      | exact sums_Diff.mono _ _ _
      | exact sums_Field.mono _ _
      | exact sums_Sub.mono _ _ _
      | exact sums_Sum.mono _ _
      | exact sums_Update.mono _ _ _ _
      | exact LeO.none _
      | refine LeO.ite ?_ ?_
      | refine LeO.bind ?_ (fun _ => ?_)
set_option maxHeartbeats 8000000 in
set_option maxRecDepth 100000 in
theorem sallyportlaw01_awake.calls (k : Nat)  (r : Bool) (hr_ : Aside0 (r = true)) (w : World) (h : sallyportlaw01_awake.f k  = some r) :
    Calls Try.prog 21 #[] w fun e w' => e = .returned (.bool r) ∧ Below w.heap.size w w' := by
  have HB := Aside0.mk (Below.refl w.heap.size w)
  have H : ((sums_Diff.f k (([0, 1] : List Int)) (([0, 3] : List Int))).bind fun bt128 => ((sums_Sum.f k (([1, 2, 3] : List Int))).bind fun t133 => (if t133 = 1026 then ((sums_Field.f k (([69, 0, 0, 20] : List Int))).bind fun t137 => (if t137 = 47851 then ((sums_Add.f k 65535 1).bind fun t138 => (if t138 = 1 then ((sums_Sub.f k 3 5).bind fun t139 => (if t139 = 65533 then ((sums_Same.f 0 65535).bind fun t140 => (if t140 = true then (if bt128.1 = 2 then (if bt128.2 = 0 then ((sums_Update.f k 47851 20 40).bind fun t141 => (some (t141 == 47831))) else (some false)) else (some false)) else (some false))) else (some false))) else (some false))) else (some false))) else (some false)))) = some r := h
  clear h
  obtain ⟨y122, hy122⟩ : ∃ y_ : List Int, y_ = (([0, 1] : List Int)) := ⟨_, rfl⟩
  replace H : ((sums_Diff.f k y122 (([0, 3] : List Int))).bind fun bt128 => ((sums_Sum.f k (([1, 2, 3] : List Int))).bind fun t133 => (if t133 = 1026 then ((sums_Field.f k (([69, 0, 0, 20] : List Int))).bind fun t137 => (if t137 = 47851 then ((sums_Add.f k 65535 1).bind fun t138 => (if t138 = 1 then ((sums_Sub.f k 3 5).bind fun t139 => (if t139 = 65533 then ((sums_Same.f 0 65535).bind fun t140 => (if t140 = true then (if bt128.1 = 2 then (if bt128.2 = 0 then ((sums_Update.f k 47851 20 40).bind fun t141 => (some (t141 == 47831))) else (some false)) else (some false)) else (some false))) else (some false))) else (some false))) else (some false))) else (some false)))) = some r := by first | (rw [hy122]; with_reducible exact H) | (have H2_ := (Option.bind_some _ _).symm.trans H; rw [hy122]; with_reducible exact H2_) | (have H2_ := (Option.bind_some _ _).symm.trans H; with_reducible exact H2_) | with_reducible exact H | (rw [hy122]; exact H) | exact H
  have Ny122 := Aside0.mk hy122
  clear hy122
  obtain ⟨y125, hy125⟩ : ∃ y_ : List Int, y_ = (([0, 3] : List Int)) := ⟨_, rfl⟩
  replace H : ((sums_Diff.f k y122 y125).bind fun bt128 => ((sums_Sum.f k (([1, 2, 3] : List Int))).bind fun t133 => (if t133 = 1026 then ((sums_Field.f k (([69, 0, 0, 20] : List Int))).bind fun t137 => (if t137 = 47851 then ((sums_Add.f k 65535 1).bind fun t138 => (if t138 = 1 then ((sums_Sub.f k 3 5).bind fun t139 => (if t139 = 65533 then ((sums_Same.f 0 65535).bind fun t140 => (if t140 = true then (if bt128.1 = 2 then (if bt128.2 = 0 then ((sums_Update.f k 47851 20 40).bind fun t141 => (some (t141 == 47831))) else (some false)) else (some false)) else (some false))) else (some false))) else (some false))) else (some false))) else (some false)))) = some r := by first | (rw [hy125]; with_reducible exact H) | (have H2_ := (Option.bind_some _ _).symm.trans H; rw [hy125]; with_reducible exact H2_) | (have H2_ := (Option.bind_some _ _).symm.trans H; with_reducible exact H2_) | with_reducible exact H | (rw [hy125]; exact H) | exact H
  have Ny125 := Aside0.mk hy125
  clear hy125
  replace H := Option.bind_eq_some_iff.mp H
  obtain ⟨⟨t128, t129⟩, A10, H⟩ := H
  replace H : ((sums_Sum.f k (([1, 2, 3] : List Int))).bind fun t133 => (if t133 = 1026 then ((sums_Field.f k (([69, 0, 0, 20] : List Int))).bind fun t137 => (if t137 = 47851 then ((sums_Add.f k 65535 1).bind fun t138 => (if t138 = 1 then ((sums_Sub.f k 3 5).bind fun t139 => (if t139 = 65533 then ((sums_Same.f 0 65535).bind fun t140 => (if t140 = true then (if t128 = 2 then (if t129 = 0 then ((sums_Update.f k 47851 20 40).bind fun t141 => (some (t141 == 47831))) else (some false)) else (some false)) else (some false))) else (some false))) else (some false))) else (some false))) else (some false))) = some r := H
  have A1 := Aside0.mk A10
  clear A10
  obtain ⟨y130, hy130⟩ : ∃ y_ : List Int, y_ = (([1, 2, 3] : List Int)) := ⟨_, rfl⟩
  replace H : ((sums_Sum.f k y130).bind fun t133 => (if t133 = 1026 then ((sums_Field.f k (([69, 0, 0, 20] : List Int))).bind fun t137 => (if t137 = 47851 then ((sums_Add.f k 65535 1).bind fun t138 => (if t138 = 1 then ((sums_Sub.f k 3 5).bind fun t139 => (if t139 = 65533 then ((sums_Same.f 0 65535).bind fun t140 => (if t140 = true then (if t128 = 2 then (if t129 = 0 then ((sums_Update.f k 47851 20 40).bind fun t141 => (some (t141 == 47831))) else (some false)) else (some false)) else (some false))) else (some false))) else (some false))) else (some false))) else (some false))) = some r := by first | (rw [hy130]; with_reducible exact H) | (have H2_ := (Option.bind_some _ _).symm.trans H; rw [hy130]; with_reducible exact H2_) | (have H2_ := (Option.bind_some _ _).symm.trans H; with_reducible exact H2_) | with_reducible exact H | (rw [hy130]; exact H) | exact H
  have Ny130 := Aside0.mk hy130
  clear hy130
  replace H := Option.bind_eq_some_iff.mp H
  obtain ⟨t133, A20, H⟩ := H
  replace H : (if t133 = 1026 then ((sums_Field.f k (([69, 0, 0, 20] : List Int))).bind fun t137 => (if t137 = 47851 then ((sums_Add.f k 65535 1).bind fun t138 => (if t138 = 1 then ((sums_Sub.f k 3 5).bind fun t139 => (if t139 = 65533 then ((sums_Same.f 0 65535).bind fun t140 => (if t140 = true then (if t128 = 2 then (if t129 = 0 then ((sums_Update.f k 47851 20 40).bind fun t141 => (some (t141 == 47831))) else (some false)) else (some false)) else (some false))) else (some false))) else (some false))) else (some false))) else (some false)) = some r := H
  have A2 := Aside0.mk A20
  clear A20
  by_cases c3 : t133 = 1026
  · rw [if_pos c3] at H
    have c3b0 : (t133 == 1026) = true := beq_iff_eq.mpr c3
    have c3b1 : (t133 != 1026) = false := bne_eq_false_iff_eq.mpr c3
    clear c3
    obtain ⟨y134, hy134⟩ : ∃ y_ : List Int, y_ = (([69, 0, 0, 20] : List Int)) := ⟨_, rfl⟩
    replace H : ((sums_Field.f k y134).bind fun t137 => (if t137 = 47851 then ((sums_Add.f k 65535 1).bind fun t138 => (if t138 = 1 then ((sums_Sub.f k 3 5).bind fun t139 => (if t139 = 65533 then ((sums_Same.f 0 65535).bind fun t140 => (if t140 = true then (if t128 = 2 then (if t129 = 0 then ((sums_Update.f k 47851 20 40).bind fun t141 => (some (t141 == 47831))) else (some false)) else (some false)) else (some false))) else (some false))) else (some false))) else (some false))) = some r := by first | (rw [hy134]; with_reducible exact H) | (have H2_ := (Option.bind_some _ _).symm.trans H; rw [hy134]; with_reducible exact H2_) | (have H2_ := (Option.bind_some _ _).symm.trans H; with_reducible exact H2_) | with_reducible exact H | (rw [hy134]; exact H) | exact H
    have Ny134 := Aside0.mk hy134
    clear hy134
    replace H := Option.bind_eq_some_iff.mp H
    obtain ⟨t137, A40, H⟩ := H
    replace H : (if t137 = 47851 then ((sums_Add.f k 65535 1).bind fun t138 => (if t138 = 1 then ((sums_Sub.f k 3 5).bind fun t139 => (if t139 = 65533 then ((sums_Same.f 0 65535).bind fun t140 => (if t140 = true then (if t128 = 2 then (if t129 = 0 then ((sums_Update.f k 47851 20 40).bind fun t141 => (some (t141 == 47831))) else (some false)) else (some false)) else (some false))) else (some false))) else (some false))) else (some false)) = some r := H
    have A4 := Aside0.mk A40
    clear A40
    by_cases c5 : t137 = 47851
    · rw [if_pos c5] at H
      have c5b0 : (t137 == 47851) = true := beq_iff_eq.mpr c5
      have c5b1 : (t137 != 47851) = false := bne_eq_false_iff_eq.mpr c5
      clear c5
      replace H := Option.bind_eq_some_iff.mp H
      obtain ⟨t138, A60, H⟩ := H
      replace H : (if t138 = 1 then ((sums_Sub.f k 3 5).bind fun t139 => (if t139 = 65533 then ((sums_Same.f 0 65535).bind fun t140 => (if t140 = true then (if t128 = 2 then (if t129 = 0 then ((sums_Update.f k 47851 20 40).bind fun t141 => (some (t141 == 47831))) else (some false)) else (some false)) else (some false))) else (some false))) else (some false)) = some r := H
      have A6 := Aside0.mk A60
      clear A60
      by_cases c7 : t138 = 1
      · rw [if_pos c7] at H
        have c7b0 : (t138 == 1) = true := beq_iff_eq.mpr c7
        have c7b1 : (t138 != 1) = false := bne_eq_false_iff_eq.mpr c7
        clear c7
        replace H := Option.bind_eq_some_iff.mp H
        obtain ⟨t139, A80, H⟩ := H
        replace H : (if t139 = 65533 then ((sums_Same.f 0 65535).bind fun t140 => (if t140 = true then (if t128 = 2 then (if t129 = 0 then ((sums_Update.f k 47851 20 40).bind fun t141 => (some (t141 == 47831))) else (some false)) else (some false)) else (some false))) else (some false)) = some r := H
        have A8 := Aside0.mk A80
        clear A80
        by_cases c9 : t139 = 65533
        · rw [if_pos c9] at H
          have c9b0 : (t139 == 65533) = true := beq_iff_eq.mpr c9
          have c9b1 : (t139 != 65533) = false := bne_eq_false_iff_eq.mpr c9
          clear c9
          replace H := Option.bind_eq_some_iff.mp H
          obtain ⟨t140, A100, H⟩ := H
          replace H : (if t140 = true then (if t128 = 2 then (if t129 = 0 then ((sums_Update.f k 47851 20 40).bind fun t141 => (some (t141 == 47831))) else (some false)) else (some false)) else (some false)) = some r := H
          have A10 := Aside0.mk A100
          clear A100
          by_cases c11 : t140 = true
          · subst c11
            have H1 : (if t128 = 2 then (if t129 = 0 then ((sums_Update.f k 47851 20 40).bind fun t141 => (some (t141 == 47831))) else (some false)) else (some false)) = some r := by rw [if_pos rfl] at H; exact H
            clear H
            have H := H1
            clear H1
            by_cases c12 : t128 = 2
            · rw [if_pos c12] at H
              have c12b0 : (t128 == 2) = true := beq_iff_eq.mpr c12
              have c12b1 : (t128 != 2) = false := bne_eq_false_iff_eq.mpr c12
              clear c12
              by_cases c13 : t129 = 0
              · rw [if_pos c13] at H
                have c13b0 : (t129 == 0) = true := beq_iff_eq.mpr c13
                have c13b1 : (t129 != 0) = false := bne_eq_false_iff_eq.mpr c13
                clear c13
                replace H := Option.bind_eq_some_iff.mp H
                obtain ⟨t141, A140, H⟩ := H
                replace H : (some (t141 == 47831)) = some r := H
                have A14 := Aside0.mk A140
                clear A140
                obtain rfl := Option.some.inj H
                go_enter Try.func21, Try.ntmps21
                go_wp2_with (first | ((with_reducible refine gate_dst (N := 4) rfl ?_); (try (refine gate_guard (by rfl) ?_; dsimp only)); refine Kd.R_lit (Kd.int .u8) _ 5 ?hg (N := 4) ?hd (xs := ([0, 1] : List Int)) (inner := [.int .u8 0, .int .u8 1]) (ok := fun _ => True) (okp := fun _ => True) ?hr ?hp (fun _ hk => hk) trivial (Below.refl _ _) (Nat.le_refl _) (by simp) ?_; (case hd => rfl); (case hg => rfl); (case hr => first | (go_simp; done) | (go_simp; rfl)); (case hp => exact (Reps.one (show Kd.M (Kd.int .u8) _ _ _ 0 [.int .u8 0] from rfl) (Reps.one (show Kd.M (Kd.int .u8) _ _ _ 1 [.int .u8 1] from rfl) (Reps.none _ _)))); intro v123 w15 ho16 hb hg_ hnew_; clear hg_ hnew_; (first | rw [← Ny122.out] at ho16 | (simp only [Int.reduceToNat] at ho16; rw [← Ny122.out] at ho16)); have n0_ := Aside0.mk (Kd.R_lower ho16 (below_size (by repeat (first | (with_reducible first | exact HB.out | apply below_alloc | apply pw_below_drewN | apply below_drew1) | exact HB.out)))); have n1_ := Aside0.mk (below_step (by repeat (first | (with_reducible first | exact HB.out | apply below_alloc | apply pw_below_drewN | apply below_drew1) | exact HB.out)) hb); clear HB; have HO124 := n0_; have HB := n1_; clear n0_ n1_; clear hb ho16) | ((with_reducible refine gate_dst (N := 5) rfl ?_); (try (refine gate_guard (by rfl) ?_; dsimp only)); refine Kd.R_lit (Kd.int .u8) _ 5 ?hg (N := 5) ?hd (xs := ([0, 3] : List Int)) (inner := [.int .u8 0, .int .u8 3]) (ok := fun _ => True) (okp := fun _ => True) ?hr ?hp (fun _ hk => hk) trivial (Below.refl _ _) (Nat.le_refl _) (by simp) ?_; (case hd => rfl); (case hg => rfl); (case hr => first | (go_simp; done) | (go_simp; rfl)); (case hp => exact (Reps.one (show Kd.M (Kd.int .u8) _ _ _ 0 [.int .u8 0] from rfl) (Reps.one (show Kd.M (Kd.int .u8) _ _ _ 3 [.int .u8 3] from rfl) (Reps.none _ _)))); intro v126 w17 ho18 hb hg_ hnew_; clear hg_ hnew_; (first | rw [← Ny125.out] at ho18 | (simp only [Int.reduceToNat] at ho18; rw [← Ny125.out] at ho18)); have n0_ := Aside0.mk (Kd.R_elder' (by (with_reducible repeat (first | apply Kd.R_alloc | apply Kd.R_drewN | apply Kd.R_drew)); exact HO124.out) (Kd.R_base ho18) hb); have n1_ := Aside0.mk (Kd.R_lower (Kd.R_new' ho18 (Kd.R_lt (by (with_reducible repeat (first | apply Kd.R_alloc | apply Kd.R_drewN | apply Kd.R_drew)); exact HO124.out))) (below_size (by repeat (first | (with_reducible first | exact HB.out | apply below_alloc | apply pw_below_drewN | apply below_drew1) | exact HB.out)))); have n2_ := Aside0.mk (below_step (by repeat (first | (with_reducible first | exact HB.out | apply below_alloc | apply pw_below_drewN | apply below_drew1) | exact HB.out)) hb); clear HO124; clear HB; have HO124 := n0_; have HO127 := n1_; have HB := n2_; clear n0_ n1_ n2_; clear hb ho18; obtain ⟨Ao19, co19, eo19⟩ := Kd.R_slice HO124.out; subst eo19; obtain ⟨Ao20, co20, eo20⟩ := Kd.R_slice HO127.out; subst eo20) | ((with_reducible refine gate_callee (f := 30) rfl ?_); refine goesL_ (some 6) rfl rfl Try.func30 (by kernel_rfl) rfl #[.slice Ao19 y122.length co19, .slice Ao20 y125.length co20] rfl (by (try simp only [List.map_toArray, List.map_cons, List.map_nil]); first | done | rfl | (simp only [List.length_drop, List.length_take]; rfl)) ?_; (with_reducible refine (sums_Diff.calls k _ _ y122 _ _ y125 t128 t129 _ ?side1 ?side2 ?side3 ?side4 A1.out).mono ?_); (case side1 => repeat (first | exact (Kd.R_reads' HO124.out).2.2 | (with_reducible refine Kd.C_alloc ?_ _) | (with_reducible refine Kd.C_drewN ?_ _) | (with_reducible refine Kd.C_drew ?_))); (case side2 => exact (Kd.R_reads' HO124.out).2.1); (case side3 => repeat (first | exact (Kd.R_reads' HO127.out).2.2 | (with_reducible refine Kd.C_alloc ?_ _) | (with_reducible refine Kd.C_drewN ?_ _) | (with_reducible refine Kd.C_drew ?_))); (case side4 => exact (Kd.R_reads' HO127.out).2.1); rintro e w' ⟨rfl, ⟨nd, rfl⟩⟩; refine ⟨_, rfl, ?_⟩) | ((with_reducible refine gate_dst (N := 9) rfl ?_); (try (refine gate_guard (by rfl) ?_; dsimp only)); refine Kd.R_lit (Kd.int .u8) _ 5 ?hg (N := 9) ?hd (xs := ([1, 2, 3] : List Int)) (inner := [.int .u8 1, .int .u8 2, .int .u8 3]) (ok := fun _ => True) (okp := fun _ => True) ?hr ?hp (fun _ hk => hk) trivial (Below.refl _ _) (Nat.le_refl _) (by simp) ?_; (case hd => rfl); (case hg => rfl); (case hr => first | (go_simp; done) | (go_simp; rfl)); (case hp => exact (Reps.one (show Kd.M (Kd.int .u8) _ _ _ 1 [.int .u8 1] from rfl) (Reps.one (show Kd.M (Kd.int .u8) _ _ _ 2 [.int .u8 2] from rfl) (Reps.one (show Kd.M (Kd.int .u8) _ _ _ 3 [.int .u8 3] from rfl) (Reps.none _ _))))); intro v131 w21 ho22 hb hg_ hnew_; clear hg_ hnew_; (first | rw [← Ny130.out] at ho22 | (simp only [Int.reduceToNat] at ho22; rw [← Ny130.out] at ho22)); have n0_ := Aside0.mk (Kd.R_elder' (by (with_reducible repeat (first | apply Kd.R_alloc | apply Kd.R_drewN | apply Kd.R_drew)); exact HO124.out) (Kd.R_base ho22) hb); have n1_ := Aside0.mk (Kd.R_elder' (by (with_reducible repeat (first | apply Kd.R_alloc | apply Kd.R_drewN | apply Kd.R_drew)); exact HO127.out) (Kd.R_base ho22) hb); have n2_ := Aside0.mk (Kd.R_lower (Kd.R_new' (Kd.R_new' ho22 (Kd.R_lt (by (with_reducible repeat (first | apply Kd.R_alloc | apply Kd.R_drewN | apply Kd.R_drew)); exact HO124.out))) (Kd.R_lt (by (with_reducible repeat (first | apply Kd.R_alloc | apply Kd.R_drewN | apply Kd.R_drew)); exact HO127.out))) (below_size (by repeat (first | (with_reducible first | exact HB.out | apply below_alloc | apply pw_below_drewN | apply below_drew1) | exact HB.out)))); have n3_ := Aside0.mk (below_step (by repeat (first | (with_reducible first | exact HB.out | apply below_alloc | apply pw_below_drewN | apply below_drew1) | exact HB.out)) hb); clear HO124; clear HO127; clear HB; have HO124 := n0_; have HO127 := n1_; have HO132 := n2_; have HB := n3_; clear n0_ n1_ n2_ n3_; clear hb ho22; obtain ⟨Ao23, co23, eo23⟩ := Kd.R_slice HO132.out; subst eo23) | ((with_reducible refine gate_callee (f := 16) rfl ?_); refine goesL_ (some 10) rfl rfl Try.func16 (by kernel_rfl) rfl #[.slice Ao23 y130.length co23] rfl (by (try simp only [List.map_toArray, List.map_cons, List.map_nil]); first | done | rfl | (simp only [List.length_drop, List.length_take]; rfl)) ?_; (with_reducible refine (sums_Sum.calls k _ _ y130 t133 _ ?side1 ?side2 A2.out).mono ?_); (case side1 => repeat (first | exact (Kd.R_reads' HO132.out).2.2 | (with_reducible refine Kd.C_alloc ?_ _) | (with_reducible refine Kd.C_drewN ?_ _) | (with_reducible refine Kd.C_drew ?_))); (case side2 => exact (Kd.R_reads' HO132.out).2.1); rintro e w' ⟨rfl, ⟨nd, rfl⟩⟩; refine ⟨_, rfl, ?_⟩) | ((with_reducible refine gate_dst (N := 13) rfl ?_); (try (refine gate_guard (by rfl) ?_; dsimp only)); refine Kd.R_lit (Kd.int .u8) _ 5 ?hg (N := 13) ?hd (xs := ([69, 0, 0, 20] : List Int)) (inner := [.int .u8 69, .int .u8 0, .int .u8 0, .int .u8 20]) (ok := fun _ => True) (okp := fun _ => True) ?hr ?hp (fun _ hk => hk) trivial (Below.refl _ _) (Nat.le_refl _) (by simp) ?_; (case hd => rfl); (case hg => rfl); (case hr => first | (go_simp; done) | (go_simp; rfl)); (case hp => exact (Reps.one (show Kd.M (Kd.int .u8) _ _ _ 69 [.int .u8 69] from rfl) (Reps.one (show Kd.M (Kd.int .u8) _ _ _ 0 [.int .u8 0] from rfl) (Reps.one (show Kd.M (Kd.int .u8) _ _ _ 0 [.int .u8 0] from rfl) (Reps.one (show Kd.M (Kd.int .u8) _ _ _ 20 [.int .u8 20] from rfl) (Reps.none _ _)))))); intro v135 w24 ho25 hb hg_ hnew_; clear hg_ hnew_; (first | rw [← Ny134.out] at ho25 | (simp only [Int.reduceToNat] at ho25; rw [← Ny134.out] at ho25)); have n0_ := Aside0.mk (Kd.R_elder' (by (with_reducible repeat (first | apply Kd.R_alloc | apply Kd.R_drewN | apply Kd.R_drew)); exact HO124.out) (Kd.R_base ho25) hb); have n1_ := Aside0.mk (Kd.R_elder' (by (with_reducible repeat (first | apply Kd.R_alloc | apply Kd.R_drewN | apply Kd.R_drew)); exact HO127.out) (Kd.R_base ho25) hb); have n2_ := Aside0.mk (Kd.R_elder' (by (with_reducible repeat (first | apply Kd.R_alloc | apply Kd.R_drewN | apply Kd.R_drew)); exact HO132.out) (Kd.R_base ho25) hb); have n3_ := Aside0.mk (Kd.R_lower (Kd.R_new' (Kd.R_new' (Kd.R_new' ho25 (Kd.R_lt (by (with_reducible repeat (first | apply Kd.R_alloc | apply Kd.R_drewN | apply Kd.R_drew)); exact HO124.out))) (Kd.R_lt (by (with_reducible repeat (first | apply Kd.R_alloc | apply Kd.R_drewN | apply Kd.R_drew)); exact HO127.out))) (Kd.R_lt (by (with_reducible repeat (first | apply Kd.R_alloc | apply Kd.R_drewN | apply Kd.R_drew)); exact HO132.out))) (below_size (by repeat (first | (with_reducible first | exact HB.out | apply below_alloc | apply pw_below_drewN | apply below_drew1) | exact HB.out)))); have n4_ := Aside0.mk (below_step (by repeat (first | (with_reducible first | exact HB.out | apply below_alloc | apply pw_below_drewN | apply below_drew1) | exact HB.out)) hb); clear HO124; clear HO127; clear HO132; clear HB; have HO124 := n0_; have HO127 := n1_; have HO132 := n2_; have HO136 := n3_; have HB := n4_; clear n0_ n1_ n2_ n3_ n4_; clear hb ho25; obtain ⟨Ao26, co26, eo26⟩ := Kd.R_slice HO136.out; subst eo26) | (go_at_call 18; (with_reducible refine (sums_Field.calls k _ _ y134 t137 _ ?side1 ?side2 A4.out).mono ?_); (case side1 => repeat (first | exact (Kd.R_reads' HO136.out).2.2 | (with_reducible refine Kd.C_alloc ?_ _) | (with_reducible refine Kd.C_drewN ?_ _) | (with_reducible refine Kd.C_drew ?_))); (case side2 => exact (Kd.R_reads' HO136.out).2.1); rintro e w' ⟨rfl, ⟨nd, rfl⟩⟩) | (go_at_call 22; (with_reducible refine (sums_Add.calls k 65535 1 t138 _ A6.out).mono ?_); rintro e w' ⟨rfl, ⟨nd, rfl⟩⟩) | (go_at_call 24; (with_reducible refine (sums_Sub.calls k 3 5 t139 _ A8.out).mono ?_); rintro e w' ⟨rfl, ⟨nd, rfl⟩⟩) | (go_at_call 26; (with_reducible refine (sums_Same.calls 0 65535 true _ A10.out).mono ?_); rintro e w' ⟨rfl, ⟨nd, rfl⟩⟩) | (go_at_call 28; (with_reducible refine (sums_Update.calls k 47851 20 40 t141 _ A14.out).mono ?_); rintro e w' ⟨rfl, ⟨nd, rfl⟩⟩))
                go_ret
                exact ⟨by first | rfl | (simp [errW_none, errW_some] <;> rfl) | (simp [*, errW_none, errW_some] <;> rfl), by repeat (first | (with_reducible first | exact HB.out | apply below_alloc | apply pw_below_drewN | apply below_drew1) | exact HB.out)⟩
              · rw [if_neg c13] at H
                have c13b0 : (t129 == 0) = false := beq_eq_false_iff_ne.mpr c13
                have c13b1 : (t129 != 0) = true := bne_iff_ne.mpr c13
                obtain rfl := Option.some.inj H
                exact absurd hr_.out (by decide)
            · rw [if_neg c12] at H
              have c12b0 : (t128 == 2) = false := beq_eq_false_iff_ne.mpr c12
              have c12b1 : (t128 != 2) = true := bne_iff_ne.mpr c12
              obtain rfl := Option.some.inj H
              exact absurd hr_.out (by decide)
          · replace c11 := Bool.eq_false_iff.mpr c11
            subst c11
            have H1 : (some false) = some r := by rw [if_neg (show ¬ (false = true) by decide)] at H; exact H
            clear H
            have H := H1
            clear H1
            obtain rfl := Option.some.inj H
            exact absurd hr_.out (by decide)
        · rw [if_neg c9] at H
          have c9b0 : (t139 == 65533) = false := beq_eq_false_iff_ne.mpr c9
          have c9b1 : (t139 != 65533) = true := bne_iff_ne.mpr c9
          obtain rfl := Option.some.inj H
          exact absurd hr_.out (by decide)
      · rw [if_neg c7] at H
        have c7b0 : (t138 == 1) = false := beq_eq_false_iff_ne.mpr c7
        have c7b1 : (t138 != 1) = true := bne_iff_ne.mpr c7
        obtain rfl := Option.some.inj H
        exact absurd hr_.out (by decide)
    · rw [if_neg c5] at H
      have c5b0 : (t137 == 47851) = false := beq_eq_false_iff_ne.mpr c5
      have c5b1 : (t137 != 47851) = true := bne_iff_ne.mpr c5
      obtain rfl := Option.some.inj H
      exact absurd hr_.out (by decide)
  · rw [if_neg c3] at H
    have c3b0 : (t133 == 1026) = false := beq_eq_false_iff_ne.mpr c3
    have c3b1 : (t133 != 1026) = true := bne_iff_ne.mpr c3
    obtain rfl := Option.some.inj H
    exact absurd hr_.out (by decide)

end Go.Proofs.Ytlgiibchnnaceaa.P
