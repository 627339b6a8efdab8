/- Contracts of the functions that the statements reach, and the statements: written by a program of this repo (wip/patch_print.py); Lean checks every line; no conditions. -/
import Derived.Test.YtipdajgcepefgaaPx0
import Derived.Test.YtipdajgcepefgaaPx1
import Derived.Test.YtipdajgcepefgaaPx2
import Derived.Test.YtipdajgcepefgaaPx6
import Derived.Test.YtipdajgcepefgaaPx12
import Derived.Test.YtipdajgcepefgaaPx13
import Derived.Test.YtipdajgcepefgaaPx14
import Derived.Test.YtipdajgcepefgaaPx17
import Derived.Test.YtipdajgcepefgaaPx18
namespace Go.Proofs.Ytipdajgcepefgaa.P
open Go.RowKit Go.Proofs.YtipdajgcepefgaaW.PrintWords Go.Proofs.YtipdajgcepefgaaW.PrintLast Go.Proofs.YtipdajgcepefgaaW.PrintMore
attribute [local go_sem] max2_int min2_int max_two min_two max_three min_three max_four min_four Go.Proofs.YtipdajgcepefgaaW.Own.u16_all   -- for this text's walks alone
set_option linter.unusedVariables false
set_option linter.unusedSimpArgs false

attribute [local go_sem high] eqA47
/-! ### sallyportlaw10_DgramNames: function 12 -/
def sallyportlaw10_DgramNames.l0 : Nat → List Int → Int → Int → Int → Option (Bool)
  | 0, _, _, _, _ => none
  | k + 1, x4, x5, x339000, x339001 => if x5 < (x4.length : Int) then ((sallyportref00_CopyBytes.f x4).bind fun t342 => (if 0 ≤ x5 then (if x5 < (t342.length : Int) then ((sallyportlaw10_DgramReads.f k (t342.set (x5 : Int).toNat (Go.bits .xor .u8 (rd t342 x5) 16))).bind fun t347 => (if t347 = true then (if x5 ≤ (x4.length : Int) then ((sallyportlaw10_DgramReads.f k (x4.take (x5 : Int).toNat)).bind fun t352 => (if t352 = true then ((sallyportlaw10_join.f x4 (x4.take (x5 : Int).toNat)).bind fun t357 => ((sallyportlaw10_DgramReads.f k t357).bind fun t360 => (if t360 = true then (sallyportlaw10_DgramNames.l0 k x4 (wrap64 (x5 + 1)) x339000 x339001) else (some false)))) else (some false))) else (none)) else (some false))) else (none)) else (none))) else ((sallyportref00_CopyBytes.f x4).bind fun t361 => (if 6 < (t361.length : Int) then (if 7 < (t361.length : Int) then ((dgram_Read.f k ((t361.set (6 : Int).toNat 0).set (7 : Int).toNat 0)).bind fun bt366 => ((dgram_Bytes.f k 65527 0 ([] : List Int)).bind fun bt370 => ((dgram_Read.f k bt370.1).bind fun bt374 => (if bt366.2.2 = 110 then (if bt370.2 = 0 then ((sallyportref00_EqBytes.f k bt370.1 (([255, 247, 0, 0, 0, 8, 255, 255] : List Int))).bind fun t381 => (if t381 = true then (if bt374.2.2 = 0 then (if (!(bt374.1 == 65527) || (!(bt374.2.1 == 0))) = true then (some false) else ((sallyportlaw10_awake.f k).bind fun t382 => (if t382 = true then (if 2040 ≤ 281474976710656 then ((sallyportlaw10_DgramBytes.f k x339000 x339001 (List.replicate 2040 0)).bind fun t386 => (if t386 = true then (if 2041 ≤ 281474976710656 then ((sallyportlaw10_DgramBytes.f k x339000 x339001 (List.replicate 2041 0)).bind fun t390 => (if t390 = true then ((sallyportlaw10_DgramBytes.f k 0 0 ([] : List Int)).bind fun t391 => (if t391 = true then (if 70000 ≤ 281474976710656 then ((sallyportlaw10_DgramReads.f k (List.replicate 70000 0)).bind fun t395 => (if t395 = true then ((sallyportlaw10_DgramBack.f k x339000 x339001 (List.replicate 2040 0) ([] : List Int)).bind fun t399 => (some t399)) else (some false))) else (none)) else (some false))) else (some false))) else (none)) else (some false))) else (none)) else (some false)))) else (some false)) else (some false))) else (some false)) else (some false))))) else (none)) else (none)))
def sallyportlaw10_DgramNames.f (k : Nat)  : Option (Bool) := (sallyportlaw10_usual.f).bind fun bt330 => ((sallyportlaw10_join.f bt330.2.2.2 bt330.2.2.1).bind fun t339 => (sallyportlaw10_DgramNames.l0 k t339 0 bt330.1 bt330.2.1))
theorem sallyportlaw10_DgramNames.mono_l : ∀ k, (∀ y0 y1 y2 y3, LeO (sallyportlaw10_DgramNames.l0 k y0 y1 y2 y3) (sallyportlaw10_DgramNames.l0 (k + 1) y0 y1 y2 y3))
  | 0 => fun _ _ _ _ r h => by simp [sallyportlaw10_DgramNames.l0] at h
  | k + 1 => by
    have ih0 := sallyportlaw10_DgramNames.mono_l k
    · intro y0 y1 y2 y3
      unfold sallyportlaw10_DgramNames.l0
      repeat' first
      | (with_reducible exact ih0 _ _ _ _)
      | (with_reducible exact dgram_Bytes.mono _ _ _ _)
      | (with_reducible exact dgram_Read.mono _ _)
      | (with_reducible exact sallyportlaw10_DgramBack.mono _ _ _ _ _)
      | (with_reducible exact sallyportlaw10_DgramBytes.mono _ _ _ _)
      | (with_reducible exact sallyportlaw10_DgramReads.mono _ _)
      | (with_reducible exact sallyportlaw10_awake.mono _)
      | (with_reducible exact sallyportref00_EqBytes.mono _ _ _)
      | (with_reducible exact LeO.refl _)
      | (with_reducible exact LeO.none _)
      | (with_reducible refine LeO.ite ?_ ?_)
      | (with_reducible refine LeO.bind ?_ (fun _ => ?_))
      | exact ih0 _ _ _ _
      | exact dgram_Bytes.mono _ _ _ _
      | exact dgram_Read.mono _ _
      | exact sallyportlaw10_DgramBack.mono _ _ _ _ _
      | exact sallyportlaw10_DgramBytes.mono _ _ _ _
      | exact sallyportlaw10_DgramReads.mono _ _
      | exact sallyportlaw10_awake.mono _
      | exact sallyportref00_EqBytes.mono _ _ _
      | exact LeO.none _
      | refine LeO.ite ?_ ?_
      | refine LeO.bind ?_ (fun _ => ?_)
theorem sallyportlaw10_DgramNames.mono : ∀ k, LeO (sallyportlaw10_DgramNames.f k ) (sallyportlaw10_DgramNames.f (k + 1) ) := by
  intro  k
  have ih0 := sallyportlaw10_DgramNames.mono_l k
  unfold sallyportlaw10_DgramNames.f
  repeat' first
      | (with_reducible exact ih0 _ _ _ _)
      | (with_reducible exact dgram_Bytes.mono _ _ _ _)
      | (with_reducible exact dgram_Read.mono _ _)
      | (with_reducible exact sallyportlaw10_DgramBack.mono _ _ _ _ _)
      | (with_reducible exact sallyportlaw10_DgramBytes.mono _ _ _ _)
      | (with_reducible exact sallyportlaw10_DgramReads.mono _ _)
      | (with_reducible exact sallyportlaw10_awake.mono _)
      | (with_reducible exact sallyportref00_EqBytes.mono _ _ _)
      | (with_reducible exact LeO.refl _)
      | (with_reducible exact LeO.none _)
      | (with_reducible refine LeO.ite ?_ ?_)
      | (with_reducible refine LeO.bind ?_ (fun _ => ?_))
      | exact ih0 _ _ _ _
      | exact dgram_Bytes.mono _ _ _ _
      | exact dgram_Read.mono _ _
      | exact sallyportlaw10_DgramBack.mono _ _ _ _ _
      | exact sallyportlaw10_DgramBytes.mono _ _ _ _
      | exact sallyportlaw10_DgramReads.mono _ _
      | exact sallyportlaw10_awake.mono _
      | exact sallyportref00_EqBytes.mono _ _ _
      | exact LeO.none _
      | refine LeO.ite ?_ ?_
      | refine LeO.bind ?_ (fun _ => ?_)
def sallyportlaw10_DgramNames.T18 : Bool × List (List Nat × List Nat) := (true, [([], []), ([0, 0], [0]), ([0, 1], [0, 1]), ([2, 1], [2]), ([3], [3]), ([3], [3]), ([4, 5, 3, 3], [3, 4, 5]), ([3, 6], [3, 6]), ([7, 6], [7]), ([8], [8]), ([8], [8]), ([9, 10, 8, 8], [8, 9, 10]), ([8, 11], [8, 11]), ([12, 11], [12]), ([13], [13]), ([14, 13, 13], [13, 14]), ([13, 15], [13, 15]), ([16, 15], [16]), ([17], [17]), ([18, 17, 17], [17, 18]), ([17, 19], [17, 19]), ([20, 19], [20]), ([21], [21]), ([21], [21]), ([22, 23, 21, 21], [21, 22, 23]), ([21, 24], [21, 24]), ([25, 24, 0, 1, 2, 3, 4, 5, 6, 7, 8, 9, 10, 11, 12, 13, 14, 15, 16, 17, 18, 19, 20, 21, 22, 23, 24, 25], [25])])
def sallyportlaw10_DgramNames.B18 : List Nat := [0, 1, 3, 7, 15, 15, 63, 127, 255, 511, 511, 2047, 4095, 8191, 16383, 32767, 65535, 131071, 262143, 524287, 1048575, 2097151, 4194303, 4194303, 16777215, 33554431, 67108863]
theorem sallyportlaw10_DgramNames.tab18 : rtab .any (opsOf Try.f12 18) = sallyportlaw10_DgramNames.T18 := by kernel_rfl
theorem sallyportlaw10_DgramNames.bits18 : waitsOk sallyportlaw10_DgramNames.T18.2 sallyportlaw10_DgramNames.B18 = true := by kernel_rfl
set_option maxHeartbeats 8000000 in
set_option maxRecDepth 100000 in
theorem sallyportlaw10_DgramNames.calls (k : Nat)  (r : Bool) (hr_ : Aside0 (r = true)) (w : World) (h : sallyportlaw10_DgramNames.f k  = some r) :
    Calls Try.prog 12 #[] w fun e w' => e = .returned (.bool r) ∧ Below w.heap.size w w' := by
  have hu47 := Try.underlying47
  have HB := Aside0.mk (Below.refl w.heap.size w)
  have H : ((sallyportlaw10_usual.f).bind fun bt330 => ((sallyportlaw10_join.f bt330.2.2.2 bt330.2.2.1).bind fun t339 => (sallyportlaw10_DgramNames.l0 k t339 0 bt330.1 bt330.2.1))) = some r := h
  clear h
  replace H := Option.bind_eq_some_iff.mp H
  obtain ⟨⟨t330, t331, t332, t335⟩, A10, H⟩ := H
  replace H : ((sallyportlaw10_join.f t335 t332).bind fun t339 => (sallyportlaw10_DgramNames.l0 k t339 0 t330 t331)) = some r := H
  have A1 := Aside0.mk A10
  clear A10
  replace H := Option.bind_eq_some_iff.mp H
  obtain ⟨t339, A20, H⟩ := H
  replace H : (sallyportlaw10_DgramNames.l0 k t339 0 t330 t331) = some r := H
  have A2 := Aside0.mk A20
  clear A20
  have H' := Aside0.mk H
  clear H
  go_enter Try.func12, Try.ntmps12
  go_wp2_with (first | ((with_reducible refine gate_callee (f := 42) rfl ?_); refine goesL_ (some 15) rfl rfl Try.func42 (by kernel_rfl) rfl #[] rfl (by (try simp only [List.map_toArray, List.map_cons, List.map_nil]); first | done | rfl | (simp only [List.length_drop, List.length_take]; rfl)) ?_; (with_reducible refine (sallyportlaw10_usual.calls  t330 t331 t332 t335 _ A1.out).mono ?_); rintro e w3 ⟨v333, v336, rfl, ho0, ho1, hb⟩; refine ⟨_, rfl, ?_⟩; have n0_ := Aside0.mk (Kd.R_lower ho0 (below_size (by repeat (first | (with_reducible first | exact HB.out | apply below_alloc | apply pw_below_drewN | apply below_drew1) | exact HB.out)))); have n1_ := Aside0.mk (Kd.R_lower ho1 (below_size (by repeat (first | (with_reducible first | exact HB.out | apply below_alloc | apply pw_below_drewN | apply below_drew1) | exact HB.out)))); have n2_ := Aside0.mk (below_step (by repeat (first | (with_reducible first | exact HB.out | apply below_alloc | apply pw_below_drewN | apply below_drew1) | exact HB.out)) hb); clear HB; have HO334 := n0_; have HO337 := n1_; have HB := n2_; clear n0_ n1_ n2_; (try clear hb); (try clear hb2); (try clear hk); (try clear hi); (try clear ho0); (try clear ho1)) | ((with_reducible refine gate_dst (N := 1) rfl ?_); (try (refine gate_guard (by rfl) ?_; dsimp only)); refine box_event ?hg (N := 1) ?hd (cs := #[.int .u16 0, .int .u16 0]) (t := 47) ?hr ?_; (case hd => rfl); (case hg => rfl); (case hr => first | (go_simp; done) | (go_simp; rfl)); intro gb338 hg w4 hbox hb; have n0_ := Aside0.mk (Kd.R_below (by (with_reducible repeat (first | apply Kd.R_alloc | apply Kd.R_drewN | apply Kd.R_drew)); exact HO334.out) hb); have n1_ := Aside0.mk (Kd.R_below (by (with_reducible repeat (first | apply Kd.R_alloc | apply Kd.R_drewN | apply Kd.R_drew)); exact HO337.out) hb); have n2_ := Aside0.mk (below_step (by repeat (first | (with_reducible first | exact HB.out | apply below_alloc | apply pw_below_drewN | apply below_drew1) | exact HB.out)) hb); have n3_ := Aside0.mk (hbox); have n4_ := Aside0.mk ((by rw [hg]; exact (below_size (by repeat (first | (with_reducible first | exact HB.out | apply below_alloc | apply pw_below_drewN | apply below_drew1) | exact HB.out))) : w.heap.size ≤ gb338)); have n5_ := Aside0.mk ((by rw [hg]; exact (below_size (by repeat (first | (with_reducible first | exact HB.out | apply below_alloc | apply pw_below_drewN | apply below_drew1) | exact HB.out))) : w.heap.size ≤ gb338)); clear HO334; clear HO337; clear HB; have HO334 := n0_; have HO337 := n1_; have HB := n2_; have BK338 := n3_; have GW338 := n4_; have GE338 := n5_; clear n0_ n1_ n2_ n3_ n4_ n5_; clear hb hbox hg; have hcz5_0 : w4.cell? ⟨gb338, 0, none⟩ = some (.int .u16 0) := (blk_cell BK338.out 0).trans rfl; have hcz5_1 : w4.cell? ⟨gb338, 1, none⟩ = some (.int .u16 0) := (blk_cell BK338.out 1).trans rfl; have hfz5_0 := blk_frozen BK338.out 0; have hfz5_1 := blk_frozen BK338.out 1; obtain ⟨Ao6, co6, eo6⟩ := Kd.R_slice HO337.out; subst eo6; obtain ⟨Ao7, co7, eo7⟩ := Kd.R_slice HO334.out; subst eo7) | ((with_reducible refine gate_callee (f := 41) rfl ?_); refine goesL_ (some 21) rfl rfl Try.func41 (by kernel_rfl) rfl #[.slice Ao6 t335.length co6, .slice Ao7 t332.length co7] rfl (by (try simp only [List.map_toArray, List.map_cons, List.map_nil]); first | done | rfl | (simp only [List.length_drop, List.length_take]; rfl)) ?_; (with_reducible refine (sallyportlaw10_join.calls _ _ t335 _ _ t332 t339 _ ?side1 ?side2 ?side3 ?side4 A2.out).mono ?_); (case side1 => refine (Kd.R_reads' (e := 5) (base := w.heap.size) (ok := fun k_ => some k_ ≠ (.slice Ao7 t332.length co7 : Value).ownBlock) (n := t335.length) (c := co6) ?_).2.2; exact (by (with_reducible repeat (first | apply Kd.R_alloc | apply Kd.R_drewN | apply Kd.R_drew)); exact (Kd.R_mono (Kd.R_far (p := ⟨gb338, 1, none⟩) (Kd.R_far (p := ⟨gb338, 0, none⟩) (Kd.R_types HO337.out BK338.out (by decide)) (fun _ hk => hk.2) (.int .u16 t330)) (fun _ hk => hk.2) (.int .u16 t331)) (fun _ h_ => h_.1)))); (case side2 => exact (Kd.R_reads' HO337.out).2.1); (case side3 => refine (Kd.R_reads' (e := 5) (base := w.heap.size) (ok := fun k_ => some k_ ≠ (.slice Ao6 t335.length co6 : Value).ownBlock) (n := t332.length) (c := co7) ?_).2.2; exact (by (with_reducible repeat (first | apply Kd.R_alloc | apply Kd.R_drewN | apply Kd.R_drew)); exact (Kd.R_mono (Kd.R_far (p := ⟨gb338, 1, none⟩) (Kd.R_far (p := ⟨gb338, 0, none⟩) (Kd.R_types HO334.out BK338.out (by decide)) (fun _ hk => hk.2) (.int .u16 t330)) (fun _ hk => hk.2) (.int .u16 t331)) (fun _ h_ => h_.1)))); (case side4 => exact (Kd.R_reads' HO334.out).2.1); rintro e w8 ⟨v340, rfl, ho0, hb⟩; refine ⟨_, rfl, ?_⟩; have n0_ := Aside0.mk (Kd.R_elder' (by (with_reducible repeat (first | apply Kd.R_alloc | apply Kd.R_drewN | apply Kd.R_drew)); exact (Kd.R_mono (Kd.R_far (p := ⟨gb338, 1, none⟩) (Kd.R_far (p := ⟨gb338, 0, none⟩) (Kd.R_types HO334.out BK338.out (by decide)) (fun _ hk => hk.2) (.int .u16 t330)) (fun _ hk => hk.2) (.int .u16 t331)) (fun _ h_ => h_.1))) (Kd.R_base ho0) hb); have n1_ := Aside0.mk (Kd.R_elder' (by (with_reducible repeat (first | apply Kd.R_alloc | apply Kd.R_drewN | apply Kd.R_drew)); exact (Kd.R_mono (Kd.R_far (p := ⟨gb338, 1, none⟩) (Kd.R_far (p := ⟨gb338, 0, none⟩) (Kd.R_types HO337.out BK338.out (by decide)) (fun _ hk => hk.2) (.int .u16 t330)) (fun _ hk => hk.2) (.int .u16 t331)) (fun _ h_ => h_.1))) (Kd.R_base ho0) hb); have n2_ := Aside0.mk (Kd.R_lower (Kd.R_new' (Kd.R_new' ho0 (Kd.R_lt (by (with_reducible repeat (first | apply Kd.R_alloc | apply Kd.R_drewN | apply Kd.R_drew)); exact (Kd.R_mono (Kd.R_far (p := ⟨gb338, 1, none⟩) (Kd.R_far (p := ⟨gb338, 0, none⟩) (Kd.R_types HO334.out BK338.out (by decide)) (fun _ hk => hk.2) (.int .u16 t330)) (fun _ hk => hk.2) (.int .u16 t331)) (fun _ h_ => h_.1))))) (Kd.R_lt (by (with_reducible repeat (first | apply Kd.R_alloc | apply Kd.R_drewN | apply Kd.R_drew)); exact (Kd.R_mono (Kd.R_far (p := ⟨gb338, 1, none⟩) (Kd.R_far (p := ⟨gb338, 0, none⟩) (Kd.R_types HO337.out BK338.out (by decide)) (fun _ hk => hk.2) (.int .u16 t330)) (fun _ hk => hk.2) (.int .u16 t331)) (fun _ h_ => h_.1))))) (below_size (by repeat (first | (with_reducible first | exact HB.out | apply below_alloc | apply pw_below_drewN | apply below_drew1 | refine below_set ?_ GE338.out) | exact HB.out)))); have n3_ := Aside0.mk (blk_below (g := gb338) (o := .cells #[.int .u16 t330, .int .u16 t331] 47 (0, 0)) (by (with_reducible repeat (first | refine blk_drewN ?_ _ | refine blk_drew ?_ | refine blk_alloc ?_ _)); refine blk_put (cs := #[.int .u16 t330, .int .u16 0]) ?_ 1 _ rfl; (with_reducible repeat (first | refine blk_drewN ?_ _ | refine blk_drew ?_ | refine blk_alloc ?_ _)); refine blk_put (cs := #[.int .u16 0, .int .u16 0]) ?_ 0 _ rfl; (with_reducible repeat (first | refine blk_drewN ?_ _ | refine blk_drew ?_ | refine blk_alloc ?_ _)); exact BK338.out) hb); have n4_ := Aside0.mk (below_step (by repeat (first | (with_reducible first | exact HB.out | apply below_alloc | apply pw_below_drewN | apply below_drew1 | refine below_set ?_ GE338.out) | exact HB.out)) hb); clear HO334; clear HO337; clear BK338; clear HB; have HO334 := n0_; have HO337 := n1_; have HO341 := n2_; have BK338 := n3_; have HB := n4_; clear n0_ n1_ n2_ n3_ n4_; (try clear hb); (try clear hb2); (try clear hk); (try clear hi); (try clear ho0)))
  go_loopg [5] k (fun kq v5 w' => ∃ (x4_1 : List Int) (x5_1 : Int), v5 = .int .i64 x5_1 ∧ Aside0 (sallyportlaw10_DgramNames.l0 kq x4_1 x5_1 t330 t331 = some r) ∧ Aside0 (kq ≤ k) ∧ Aside0 (Kd.R (Kd.int .u8) 5 w' w.heap.size (fun _ => True) v340 x4_1) ∧ Aside0 (w'.heap[gb338]? = some (.cells #[.int .u16 t330, .int .u16 t331] 47 (0, 0))) ∧ Aside0 (Below w.heap.size w w'))
  case atStart => exact ⟨(t339), (0), (by first | rfl | (simp; done) | (simp [*]; done)), H', ⟨Nat.le_refl _⟩, ⟨by (with_reducible repeat (first | apply Kd.R_alloc | apply Kd.R_drewN | apply Kd.R_drew)); exact Kd.R_mono HO341.out (fun _ hk => trivial)⟩, ⟨by (with_reducible repeat (first | refine blk_drewN ?_ _ | refine blk_drew ?_ | refine blk_alloc ?_ _)); exact BK338.out⟩, ⟨by repeat (first | (with_reducible first | exact HB.out | apply below_alloc | apply pw_below_drewN | apply below_drew1 | refine below_set ?_ GE338.out) | exact HB.out)⟩⟩
  case round =>
    clear H'
    try clear c1
    try clear p2
    try clear c4
    try clear hcz5_0
    try clear hcz5_1
    try clear hfz5_0
    try clear hfz5_1
    obtain ⟨x4_1, x5_1, rfl, HA, HK1, HO_4, BK338, HB⟩ := hrel
    cases gk with
    | zero => exact absurd HA.out (by simp [sallyportlaw10_DgramNames.l0])
    | succ k1 =>
      have H := HA.out
      clear HA
      simp only [sallyportlaw10_DgramNames.l0] at H
      by_cases c9 : x5_1 < (x4_1.length : Int)
      · rw [if_pos c9] at H
        have c9b0 : decide (x5_1 < (x4_1.length : Int)) = true := decide_eq_true c9
        clear c9
        replace H := Option.bind_eq_some_iff.mp H
        obtain ⟨t342, A100, H⟩ := H
        replace H : (if 0 ≤ x5_1 then (if x5_1 < (t342.length : Int) then ((sallyportlaw10_DgramReads.f k1 (t342.set (x5_1 : Int).toNat (Go.bits .xor .u8 (rd t342 x5_1) 16))).bind fun t347 => (if t347 = true then (if x5_1 ≤ (x4_1.length : Int) then ((sallyportlaw10_DgramReads.f k1 (x4_1.take (x5_1 : Int).toNat)).bind fun t352 => (if t352 = true then ((sallyportlaw10_join.f x4_1 (x4_1.take (x5_1 : Int).toNat)).bind fun t357 => ((sallyportlaw10_DgramReads.f k1 t357).bind fun t360 => (if t360 = true then (sallyportlaw10_DgramNames.l0 k1 x4_1 (wrap64 (x5_1 + 1)) t330 t331) else (some false)))) else (some false))) else (none)) else (some false))) else (none)) else (none)) = some r := H
        have A10 := Aside0.mk A100
        clear A100
        by_cases c11 : 0 ≤ x5_1
        · rw [if_pos c11] at H
          have c11b0 : decide (0 ≤ x5_1) = true := decide_eq_true c11
          clear c11
          by_cases c12 : x5_1 < (t342.length : Int)
          · rw [if_pos c12] at H
            have c12b0 : decide (x5_1 < (t342.length : Int)) = true := decide_eq_true c12
            clear c12
            obtain ⟨y346, hy346⟩ : ∃ y_ : List Int, y_ = (t342.set (x5_1 : Int).toNat (Go.bits .xor .u8 (rd t342 x5_1) 16)) := ⟨_, rfl⟩
            replace H : ((sallyportlaw10_DgramReads.f k1 y346).bind fun t347 => (if t347 = true then (if x5_1 ≤ (x4_1.length : Int) then ((sallyportlaw10_DgramReads.f k1 (x4_1.take (x5_1 : Int).toNat)).bind fun t352 => (if t352 = true then ((sallyportlaw10_join.f x4_1 (x4_1.take (x5_1 : Int).toNat)).bind fun t357 => ((sallyportlaw10_DgramReads.f k1 t357).bind fun t360 => (if t360 = true then (sallyportlaw10_DgramNames.l0 k1 x4_1 (wrap64 (x5_1 + 1)) t330 t331) else (some false)))) else (some false))) else (none)) else (some false))) = some r := by first | (rw [hy346]; with_reducible exact H) | (have H2_ := (Option.bind_some _ _).symm.trans H; rw [hy346]; with_reducible exact H2_) | (have H2_ := (Option.bind_some _ _).symm.trans H; with_reducible exact H2_) | with_reducible exact H | (rw [hy346]; exact H) | exact H
            have Ny346 := Aside0.mk hy346
            clear hy346
            replace H := Option.bind_eq_some_iff.mp H
            obtain ⟨t347, A140, H⟩ := H
            replace H : (if t347 = true then (if x5_1 ≤ (x4_1.length : Int) then ((sallyportlaw10_DgramReads.f k1 (x4_1.take (x5_1 : Int).toNat)).bind fun t352 => (if t352 = true then ((sallyportlaw10_join.f x4_1 (x4_1.take (x5_1 : Int).toNat)).bind fun t357 => ((sallyportlaw10_DgramReads.f k1 t357).bind fun t360 => (if t360 = true then (sallyportlaw10_DgramNames.l0 k1 x4_1 (wrap64 (x5_1 + 1)) t330 t331) else (some false)))) else (some false))) else (none)) else (some false)) = some r := H
            have A14 := Aside0.mk A140
            clear A140
            by_cases c15 : t347 = true
            · subst c15
              have H1 : (if x5_1 ≤ (x4_1.length : Int) then ((sallyportlaw10_DgramReads.f k1 (x4_1.take (x5_1 : Int).toNat)).bind fun t352 => (if t352 = true then ((sallyportlaw10_join.f x4_1 (x4_1.take (x5_1 : Int).toNat)).bind fun t357 => ((sallyportlaw10_DgramReads.f k1 t357).bind fun t360 => (if t360 = true then (sallyportlaw10_DgramNames.l0 k1 x4_1 (wrap64 (x5_1 + 1)) t330 t331) else (some false)))) else (some false))) else (none)) = some r := by rw [if_pos rfl] at H; exact H
              clear H
              have H := H1
              clear H1
              have c16b0 := eq_true (of_decide_eq_true (by first | (with_reducible assumption) | assumption) : 0 ≤ x5_1)
              by_cases c17 : x5_1 ≤ (x4_1.length : Int)
              · rw [if_pos c17] at H
                have c17b0 := eq_true c17
                have c17b1 : decide (x5_1 ≤ (x4_1.length : Int)) = true := decide_eq_true c17
                clear c17
                obtain ⟨y348, hy348⟩ : ∃ y_ : List Int, y_ = (x4_1.take (x5_1 : Int).toNat) := ⟨_, rfl⟩
                replace H : ((sallyportlaw10_DgramReads.f k1 y348).bind fun t352 => (if t352 = true then ((sallyportlaw10_join.f x4_1 (x4_1.take (x5_1 : Int).toNat)).bind fun t357 => ((sallyportlaw10_DgramReads.f k1 t357).bind fun t360 => (if t360 = true then (sallyportlaw10_DgramNames.l0 k1 x4_1 (wrap64 (x5_1 + 1)) t330 t331) else (some false)))) else (some false))) = some r := by first | (rw [hy348]; with_reducible exact H) | (have H2_ := (Option.bind_some _ _).symm.trans H; rw [hy348]; with_reducible exact H2_) | (have H2_ := (Option.bind_some _ _).symm.trans H; with_reducible exact H2_) | with_reducible exact H | (rw [hy348]; exact H) | exact H
                have Ny348 := Aside0.mk hy348
                clear hy348
                replace H := Option.bind_eq_some_iff.mp H
                obtain ⟨t352, A180, H⟩ := H
                replace H : (if t352 = true then ((sallyportlaw10_join.f x4_1 (x4_1.take (x5_1 : Int).toNat)).bind fun t357 => ((sallyportlaw10_DgramReads.f k1 t357).bind fun t360 => (if t360 = true then (sallyportlaw10_DgramNames.l0 k1 x4_1 (wrap64 (x5_1 + 1)) t330 t331) else (some false)))) else (some false)) = some r := H
                have A18 := Aside0.mk A180
                clear A180
                by_cases c19 : t352 = true
                · subst c19
                  have H1 : ((sallyportlaw10_join.f x4_1 (x4_1.take (x5_1 : Int).toNat)).bind fun t357 => ((sallyportlaw10_DgramReads.f k1 t357).bind fun t360 => (if t360 = true then (sallyportlaw10_DgramNames.l0 k1 x4_1 (wrap64 (x5_1 + 1)) t330 t331) else (some false)))) = some r := by rw [if_pos rfl] at H; exact H
                  clear H
                  have H := H1
                  clear H1
                  have c20b0 := eq_true (of_decide_eq_true (by first | (with_reducible assumption) | assumption) : 0 ≤ x5_1)
                  have c21b0 := eq_true (of_decide_eq_true (by first | (with_reducible assumption) | assumption) : x5_1 ≤ (x4_1.length : Int))
                  have hy353 := Ny348.out
                  replace H : ((sallyportlaw10_join.f x4_1 y348).bind fun t357 => ((sallyportlaw10_DgramReads.f k1 t357).bind fun t360 => (if t360 = true then (sallyportlaw10_DgramNames.l0 k1 x4_1 (wrap64 (x5_1 + 1)) t330 t331) else (some false)))) = some r := by first | (rw [hy353]; with_reducible exact H) | (have H2_ := (Option.bind_some _ _).symm.trans H; rw [hy353]; with_reducible exact H2_) | (have H2_ := (Option.bind_some _ _).symm.trans H; with_reducible exact H2_) | with_reducible exact H | (rw [hy353]; exact H) | exact H
                  have Ny353 := Aside0.mk hy353
                  clear hy353
                  replace H := Option.bind_eq_some_iff.mp H
                  obtain ⟨t357, A220, H⟩ := H
                  replace H : ((sallyportlaw10_DgramReads.f k1 t357).bind fun t360 => (if t360 = true then (sallyportlaw10_DgramNames.l0 k1 x4_1 (wrap64 (x5_1 + 1)) t330 t331) else (some false))) = some r := H
                  have A22 := Aside0.mk A220
                  clear A220
                  replace H := Option.bind_eq_some_iff.mp H
                  obtain ⟨t360, A230, H⟩ := H
                  replace H : (if t360 = true then (sallyportlaw10_DgramNames.l0 k1 x4_1 (wrap64 (x5_1 + 1)) t330 t331) else (some false)) = some r := H
                  have A23 := Aside0.mk A230
                  clear A230
                  by_cases c24 : t360 = true
                  · subst c24
                    have H1 : (sallyportlaw10_DgramNames.l0 k1 x4_1 (wrap64 (x5_1 + 1)) t330 t331) = some r := by rw [if_pos rfl] at H; exact H
                    clear H
                    have H := H1
                    clear H1
                    have H' := Aside0.mk H
                    clear H
                    obtain ⟨Ao25, co25, eo25⟩ := Kd.R_slice HO_4.out
                    subst eo25
                    go_wp2_with (first | ((with_reducible refine gate_callee (f := 18) rfl ?_); refine goesL_ (some 29) rfl rfl Try.func18 (by kernel_rfl) rfl #[.slice Ao25 x4_1.length co25] rfl (by (try simp only [List.map_toArray, List.map_cons, List.map_nil]); first | done | rfl | (simp only [List.length_drop, List.length_take]; rfl)) ?_; (with_reducible refine (sallyportref00_CopyBytes.calls _ _ x4_1 t342 _ ?side1 ?side2 A10.out).mono ?_); (case side1 => repeat (first | exact (Kd.R_reads' HO_4.out).2.2 | (with_reducible refine Kd.C_alloc ?_ _) | (with_reducible refine Kd.C_drewN ?_ _) | (with_reducible refine Kd.C_drew ?_))); (case side2 => exact (Kd.R_reads' HO_4.out).2.1); rintro e w26 ⟨v343, rfl, ho0, hb⟩; refine ⟨_, rfl, ?_⟩; have n0_ := Aside0.mk (Kd.R_elder' (by (with_reducible repeat (first | apply Kd.R_alloc | apply Kd.R_drewN | apply Kd.R_drew)); exact HO_4.out) (Kd.R_base ho0) hb); have n1_ := Aside0.mk (Kd.R_lower (Kd.R_new' ho0 (Kd.R_lt (by (with_reducible repeat (first | apply Kd.R_alloc | apply Kd.R_drewN | apply Kd.R_drew)); exact HO_4.out))) (below_size (by repeat (first | (with_reducible first | exact HB.out | apply below_alloc | apply pw_below_drewN | apply below_drew1 | refine below_set ?_ GE338.out) | exact HB.out)))); have n2_ := Aside0.mk (blk_below (g := gb338) (o := .cells #[.int .u16 t330, .int .u16 t331] 47 (0, 0)) (by (with_reducible repeat (first | refine blk_drewN ?_ _ | refine blk_drew ?_ | refine blk_alloc ?_ _)); exact BK338.out) hb); have n3_ := Aside0.mk (below_step (by repeat (first | (with_reducible first | exact HB.out | apply below_alloc | apply pw_below_drewN | apply below_drew1 | refine below_set ?_ GE338.out) | exact HB.out)) hb); clear HO_4; clear BK338; clear HB; have HO_4 := n0_; have HO344 := n1_; have BK338 := n2_; have HB := n3_; clear n0_ n1_ n2_ n3_; (try clear hb); (try clear hb2); (try clear hk); (try clear hi); (try clear ho0); obtain ⟨Ao27, co27, eo27⟩ := Kd.R_slice HO344.out; subst eo27; have p345 : 0 ≤ (x5_1 : Int) := of_decide_eq_true (by first | (with_reducible assumption) | assumption); have q345 : x5_1 < (t342.length : Int) := of_decide_eq_true (by first | (with_reducible assumption) | assumption); obtain ⟨ad345, e345, hx345_0⟩ := Kd.at_int (Kd.R_reads' HO344.out).2.2 x5_1 p345 q345; cases e345; replace p345 := eq_true p345; replace q345 := eq_true q345; have p13 : 0 ≤ (x5_1 : Int) := of_decide_eq_true (by first | (with_reducible assumption) | assumption); have q13 : (x5_1 : Int) < ((t342.length : Int) : Int) := of_decide_eq_true (by first | (with_reducible assumption) | assumption); obtain ⟨go13, co13, eo13, gb13, gl13, cl13, HG13⟩ := Kd.R_form HO344.out (by omega); (first | cases eo13 | (injection eo13 with ea_ en_ ec_; (first | subst ea_ | (injection ea_ with ea_; subst ea_)); subst ec_; clear en_)); have GB13 := Aside0.mk gb13; have GG13 := Aside0.mk HG13; clear gb13 gl13 HG13; (first | simp only [add_plain] at hx345_0 | skip); obtain ⟨hx13_0, hf13_0⟩ := Kd.R_celln 0 HO344.out (x5_1 : Int) p13 q13; replace p13 := eq_true p13; replace q13 := eq_true q13; have n_ := Aside0.mk (Kd.R_mono (ok' := (fun k_ => some k_ ≠ (.slice Ao25 x4_1.length co25 : Value).ownBlock)) HO344.out (fun k_ hk => by first | exact hk.2 | exact hk | (simp [hk]; done))); clear HO344; have HO344 := n_; clear n_; obtain ⟨hy28_, hz28_⟩ := Kd.R_celln 0 HO344.out (x5_1 : Int) (of_decide_eq_true (by first | (with_reducible assumption) | assumption)) (of_decide_eq_true (by first | (with_reducible assumption) | assumption)); have HP28 := Kd.R_putg HO344.out (x5_1 : Int) (Go.bits .xor .u8 (rd t342 x5_1) 16)) | ((with_reducible refine gate_store (t := 5) (p := 37) rfl ?_); refine store_event (t := 5) (p := 37) (v := ?vo_w29) (w1 := (w26.setCell ⟨go13, (x5_1 : Int).toNat, none⟩ (.int .u8 (Go.bits .xor .u8 (rd t342 x5_1) 16)))) ?hg ?ho ?hn ?hr ?_; (case ho => rfl); (case hg => rfl); (case hn => rfl); (case hr => first | (go_simp; done) | (go_simp; rfl)); intro w29 hw; have hg : w26.grownBy w29 (some go13) := (by rw [hw]; exact HP28.2); have hp_ : Kd.R (Kd.int .u8) 5 w29 w.heap.size (fun k_ => some k_ ≠ (.slice Ao25 x4_1.length co25 : Value).ownBlock) (.slice (some ⟨go13, 0, none⟩) t342.length co27) y346 := (by rw [hw, Ny346.out]; exact HP28.1); clear HP28; have n0_ := Aside0.mk (Kd.R_after (v := (.slice (some ⟨go13, 0, none⟩) t342.length co27)) (v1 := (.slice (some ⟨go13, 0, none⟩) t342.length co27)) (ok := (fun _ => True)) (by (with_reducible repeat (first | apply Kd.R_alloc | apply Kd.R_drewN | apply Kd.R_drew)); exact HO_4.out) hg (.inl rfl)); have n1_ := Aside0.mk (blk_grown (g := gb338) (o := .cells #[.int .u16 t330, .int .u16 t331] 47 (0, 0)) (by (with_reducible repeat (first | refine blk_drewN ?_ _ | refine blk_drew ?_ | refine blk_alloc ?_ _)); exact BK338.out) hg (Kd.R_ne HO344.out BK338.out (by decide))); have n2_ := Aside0.mk (hp_); have n3_ := Aside0.mk ((by rw [hw]; exact below_set (HB.out) GB13.out : Below w.heap.size w w29)); clear HO_4; clear BK338; clear HO344; clear HB; have HO_4 := n0_; have BK338 := n1_; have HO344 := n2_; have HB := n3_; clear n0_ n1_ n2_ n3_; clear hg hw hp_) | ((with_reducible refine gate_callee (f := 9) rfl ?_); refine goesL_ (some 39) rfl rfl Try.func9 (by kernel_rfl) rfl #[.slice (some ⟨go13, 0, none⟩) y346.length co27] rfl (by (try simp only [List.map_toArray, List.map_cons, List.map_nil]); first | done | (rw [show y346.length = t342.length from (Kd.R_reads' HO344.out).1.symm] <;> rfl) | rfl | (simp only [List.length_drop, List.length_take]; rfl)) ?_; (with_reducible refine (sallyportlaw10_DgramReads.calls k1 _ _ y346 true ⟨by first | rfl | exact hr_.out⟩ _ ?side1 ?side2 A14.out).mono ?_); (case side1 => repeat (first | exact (Kd.R_reads' HO344.out).2.2 | (with_reducible refine Kd.C_alloc ?_ _) | (with_reducible refine Kd.C_drewN ?_ _) | (with_reducible refine Kd.C_drew ?_))); (case side2 => rw [show y346.length = t342.length from (Kd.R_reads' HO344.out).1.symm]; exact (Kd.R_reads' HO344.out).2.1); rintro e w30 ⟨rfl, hb⟩; refine ⟨_, rfl, ?_⟩; have n0_ := Aside0.mk (Kd.R_below (by (with_reducible repeat (first | apply Kd.R_alloc | apply Kd.R_drewN | apply Kd.R_drew)); exact HO_4.out) hb); have n1_ := Aside0.mk (Kd.R_below (by (with_reducible repeat (first | apply Kd.R_alloc | apply Kd.R_drewN | apply Kd.R_drew)); exact HO344.out) hb); have n2_ := Aside0.mk (blk_below (g := gb338) (o := .cells #[.int .u16 t330, .int .u16 t331] 47 (0, 0)) (by (with_reducible repeat (first | refine blk_drewN ?_ _ | refine blk_drew ?_ | refine blk_alloc ?_ _)); exact BK338.out) hb); have n3_ := Aside0.mk (below_step (by repeat (first | (with_reducible first | exact HB.out | apply below_alloc | apply pw_below_drewN | apply below_drew1 | refine below_set ?_ GE338.out) | exact HB.out)) hb); clear HO_4; clear HO344; clear BK338; clear HB; have HO_4 := n0_; have HO344 := n1_; have BK338 := n2_; have HB := n3_; clear n0_ n1_ n2_ n3_; (try clear hb); (try clear hb2); (try clear hk); (try clear hi); have q31 : (x5_1 : Int) ≤ ((x4_1.length : Int) : Int) := of_decide_eq_true (by first | (with_reducible assumption) | assumption); obtain ⟨i031, hi031, _, hsz31, _⟩ := info_parts info5; have hroom31 : x4_1.length ≤ co25 := (Kd.R_reads' HO_4.out).2.1; have hC31 : Kd.C (Kd.int .u8) _ Ao25 x4_1.length x4_1 := (Kd.R_reads' HO_4.out).2.2; have hcut31 := cut_to (P := Try.prog) 26 5 .i64 Try.underlying26 hi031 Ao25 x4_1.length co25 x5_1 (of_decide_eq_true (by first | (with_reducible assumption) | assumption)) q31 hroom31; have hr31 := Kd.C_take (m := (x5_1 : Int).toNat) hC31 (by omega); have hy31 : y348.length = (x5_1 : Int).toNat := (by rw [Ny348.out, List.length_take]; omega); rw [← Ny348.out] at hr31; rw [← hy31] at hcut31; have HR351 := Aside0.mk hr31; have HC351 := Aside0.mk (show y348.length ≤ co25 from by omega); clear hr31 hC31 hroom31 hi031 hsz31; have KY31 := Aside0.mk hy31; clear hy31; have KL31 := Aside0.mk (show (x5_1 : Int).toNat ≤ x4_1.length from by omega); replace q31 := eq_true q31) | (go_at_call 9; (with_reducible refine (sallyportlaw10_DgramReads.calls k1 _ _ y348 true ⟨by first | rfl | exact hr_.out⟩ _ ?side1 ?side2 A18.out).mono ?_); (case side1 => repeat (first | exact (by repeat (first | (with_reducible exact HR351.out) | (with_reducible refine Kd.C_alloc ?_ _) | (with_reducible refine Kd.C_drewN ?_ _) | (with_reducible refine Kd.C_drew ?_) | exact HR351.out)) | (with_reducible refine Kd.C_alloc ?_ _) | (with_reducible refine Kd.C_drewN ?_ _) | (with_reducible refine Kd.C_drew ?_))); (case side2 => exact HC351.out); rintro e w32 ⟨rfl, hb⟩; have n0_ := Aside0.mk (Kd.R_below (by (with_reducible repeat (first | apply Kd.R_alloc | apply Kd.R_drewN | apply Kd.R_drew)); exact HO_4.out) hb); have n1_ := Aside0.mk (Kd.R_below (by (with_reducible repeat (first | apply Kd.R_alloc | apply Kd.R_drewN | apply Kd.R_drew)); exact HO344.out) hb); have n2_ := Aside0.mk (blk_below (g := gb338) (o := .cells #[.int .u16 t330, .int .u16 t331] 47 (0, 0)) (by (with_reducible repeat (first | refine blk_drewN ?_ _ | refine blk_drew ?_ | refine blk_alloc ?_ _)); exact BK338.out) hb); have n3_ := Aside0.mk (Kd.C_below (by repeat (first | (with_reducible exact HR351.out) | (with_reducible refine Kd.C_alloc ?_ _) | (with_reducible refine Kd.C_drewN ?_ _) | (with_reducible refine Kd.C_drew ?_) | exact HR351.out)) hb); have n4_ := Aside0.mk (below_step (by repeat (first | (with_reducible first | exact HB.out | apply below_alloc | apply pw_below_drewN | apply below_drew1 | refine below_set ?_ GE338.out) | exact HB.out)) hb); clear HO_4; clear HO344; clear BK338; clear HR351; clear HB; have HO_4 := n0_; have HO344 := n1_; have BK338 := n2_; have HR351 := n3_; have HB := n4_; clear n0_ n1_ n2_ n3_ n4_; (try clear hb); (try clear hb2); (try clear hk); (try clear hi); have q33 : (x5_1 : Int) ≤ ((x4_1.length : Int) : Int) := of_decide_eq_true (by first | (with_reducible assumption) | assumption); obtain ⟨i033, hi033, _, hsz33, _⟩ := info_parts info5; have hroom33 : x4_1.length ≤ co25 := (Kd.R_reads' HO_4.out).2.1; have hC33 : Kd.C (Kd.int .u8) _ Ao25 x4_1.length x4_1 := (Kd.R_reads' HO_4.out).2.2; have hcut33 := cut_to (P := Try.prog) 26 5 .i64 Try.underlying26 hi033 Ao25 x4_1.length co25 x5_1 (of_decide_eq_true (by first | (with_reducible assumption) | assumption)) q33 hroom33; have hr33 := Kd.C_take (m := (x5_1 : Int).toNat) hC33 (by omega); have hy33 : y348.length = (x5_1 : Int).toNat := (by rw [Ny353.out, List.length_take]; omega); rw [← Ny353.out] at hr33; rw [← hy33] at hcut33; have HR356 := Aside0.mk hr33; have HC356 := Aside0.mk (show y348.length ≤ co25 from by omega); clear hr33 hC33 hroom33 hi033 hsz33; have KY33 := Aside0.mk hy33; clear hy33; have KL33 := Aside0.mk (show (x5_1 : Int).toNat ≤ x4_1.length from by omega); replace q33 := eq_true q33) | (go_at_call 41; (with_reducible refine (sallyportlaw10_join.calls _ _ x4_1 _ _ y348 t357 _ ?side1 ?side2 ?side3 ?side4 A22.out).mono ?_); (case side1 => repeat (first | exact (Kd.R_reads' HO_4.out).2.2 | (with_reducible refine Kd.C_alloc ?_ _) | (with_reducible refine Kd.C_drewN ?_ _) | (with_reducible refine Kd.C_drew ?_))); (case side2 => exact (Kd.R_reads' HO_4.out).2.1); (case side3 => repeat (first | exact (by repeat (first | (with_reducible exact HR356.out) | (with_reducible refine Kd.C_alloc ?_ _) | (with_reducible refine Kd.C_drewN ?_ _) | (with_reducible refine Kd.C_drew ?_) | exact HR356.out)) | (with_reducible refine Kd.C_alloc ?_ _) | (with_reducible refine Kd.C_drewN ?_ _) | (with_reducible refine Kd.C_drew ?_))); (case side4 => exact HC356.out); rintro e w34 ⟨v358, rfl, ho0, hb⟩; have n0_ := Aside0.mk (Kd.R_elder' (by (with_reducible repeat (first | apply Kd.R_alloc | apply Kd.R_drewN | apply Kd.R_drew)); exact HO_4.out) (Kd.R_base ho0) hb); have n1_ := Aside0.mk (Kd.R_elder' (by (with_reducible repeat (first | apply Kd.R_alloc | apply Kd.R_drewN | apply Kd.R_drew)); exact HO344.out) (Kd.R_base ho0) hb); have n2_ := Aside0.mk (Kd.R_lower (Kd.R_new' (Kd.R_new' ho0 (Kd.R_lt (by (with_reducible repeat (first | apply Kd.R_alloc | apply Kd.R_drewN | apply Kd.R_drew)); exact HO_4.out))) (Kd.R_lt (by (with_reducible repeat (first | apply Kd.R_alloc | apply Kd.R_drewN | apply Kd.R_drew)); exact HO344.out))) (below_size (by repeat (first | (with_reducible first | exact HB.out | apply below_alloc | apply pw_below_drewN | apply below_drew1 | refine below_set ?_ GE338.out) | exact HB.out)))); have n3_ := Aside0.mk (blk_below (g := gb338) (o := .cells #[.int .u16 t330, .int .u16 t331] 47 (0, 0)) (by (with_reducible repeat (first | refine blk_drewN ?_ _ | refine blk_drew ?_ | refine blk_alloc ?_ _)); exact BK338.out) hb); have n4_ := Aside0.mk (Kd.C_below (by repeat (first | (with_reducible exact HR351.out) | (with_reducible refine Kd.C_alloc ?_ _) | (with_reducible refine Kd.C_drewN ?_ _) | (with_reducible refine Kd.C_drew ?_) | exact HR351.out)) hb); have n5_ := Aside0.mk (Kd.C_below (by repeat (first | (with_reducible exact HR356.out) | (with_reducible refine Kd.C_alloc ?_ _) | (with_reducible refine Kd.C_drewN ?_ _) | (with_reducible refine Kd.C_drew ?_) | exact HR356.out)) hb); have n6_ := Aside0.mk (below_step (by repeat (first | (with_reducible first | exact HB.out | apply below_alloc | apply pw_below_drewN | apply below_drew1 | refine below_set ?_ GE338.out) | exact HB.out)) hb); clear HO_4; clear HO344; clear BK338; clear HR351; clear HR356; clear HB; have HO_4 := n0_; have HO344 := n1_; have HO359 := n2_; have BK338 := n3_; have HR351 := n4_; have HR356 := n5_; have HB := n6_; clear n0_ n1_ n2_ n3_ n4_ n5_ n6_; (try clear hb); (try clear hb2); (try clear hk); (try clear hi); (try clear ho0); obtain ⟨Ao35, co35, eo35⟩ := Kd.R_slice HO359.out; subst eo35) | (go_at_call 9; (with_reducible refine (sallyportlaw10_DgramReads.calls k1 _ _ t357 true ⟨by first | rfl | exact hr_.out⟩ _ ?side1 ?side2 A23.out).mono ?_); (case side1 => repeat (first | exact (Kd.R_reads' HO359.out).2.2 | (with_reducible refine Kd.C_alloc ?_ _) | (with_reducible refine Kd.C_drewN ?_ _) | (with_reducible refine Kd.C_drew ?_))); (case side2 => exact (Kd.R_reads' HO359.out).2.1); rintro e w36 ⟨rfl, hb⟩; have n0_ := Aside0.mk (Kd.R_below (by (with_reducible repeat (first | apply Kd.R_alloc | apply Kd.R_drewN | apply Kd.R_drew)); exact HO_4.out) hb); have n1_ := Aside0.mk (Kd.R_below (by (with_reducible repeat (first | apply Kd.R_alloc | apply Kd.R_drewN | apply Kd.R_drew)); exact HO344.out) hb); have n2_ := Aside0.mk (Kd.R_below (by (with_reducible repeat (first | apply Kd.R_alloc | apply Kd.R_drewN | apply Kd.R_drew)); exact HO359.out) hb); have n3_ := Aside0.mk (blk_below (g := gb338) (o := .cells #[.int .u16 t330, .int .u16 t331] 47 (0, 0)) (by (with_reducible repeat (first | refine blk_drewN ?_ _ | refine blk_drew ?_ | refine blk_alloc ?_ _)); exact BK338.out) hb); have n4_ := Aside0.mk (Kd.C_below (by repeat (first | (with_reducible exact HR351.out) | (with_reducible refine Kd.C_alloc ?_ _) | (with_reducible refine Kd.C_drewN ?_ _) | (with_reducible refine Kd.C_drew ?_) | exact HR351.out)) hb); have n5_ := Aside0.mk (Kd.C_below (by repeat (first | (with_reducible exact HR356.out) | (with_reducible refine Kd.C_alloc ?_ _) | (with_reducible refine Kd.C_drewN ?_ _) | (with_reducible refine Kd.C_drew ?_) | exact HR356.out)) hb); have n6_ := Aside0.mk (below_step (by repeat (first | (with_reducible first | exact HB.out | apply below_alloc | apply pw_below_drewN | apply below_drew1 | refine below_set ?_ GE338.out) | exact HB.out)) hb); clear HO_4; clear HO344; clear HO359; clear BK338; clear HR351; clear HR356; clear HB; have HO_4 := n0_; have HO344 := n1_; have HO359 := n2_; have BK338 := n3_; have HR351 := n4_; have HR356 := n5_; have HB := n6_; clear n0_ n1_ n2_ n3_ n4_ n5_ n6_; (try clear hb); (try clear hb2); (try clear hk); (try clear hi)))
                    go_roundg k1
                    case measure => have := HK1.out; omega
                    case rel => exact ⟨(x4_1), (wrap64 (x5_1 + 1)), (by first | rfl | (simp; done) | (simp [*]; done)), H', ⟨by have := HK1.out; omega⟩, ⟨by (with_reducible repeat (first | apply Kd.R_alloc | apply Kd.R_drewN | apply Kd.R_drew)); exact Kd.R_mono HO_4.out (fun _ hk => trivial)⟩, ⟨by (with_reducible repeat (first | refine blk_drewN ?_ _ | refine blk_drew ?_ | refine blk_alloc ?_ _)); exact BK338.out⟩, ⟨by repeat (first | (with_reducible first | exact HB.out | apply below_alloc | apply pw_below_drewN | apply below_drew1 | refine below_set ?_ GE338.out) | exact HB.out)⟩⟩
                  · replace c24 := Bool.eq_false_iff.mpr c24
                    subst c24
                    have H1 : (some false) = some r := by rw [if_neg (show ¬ (false = true) by decide)] at H; exact H
                    clear H
                    have H := H1
                    clear H1
                    obtain rfl := Option.some.inj H
                    exact absurd hr_.out (by decide)
                · replace c19 := Bool.eq_false_iff.mpr c19
                  subst c19
                  have H1 : (some false) = some r := by rw [if_neg (show ¬ (false = true) by decide)] at H; exact H
                  clear H
                  have H := H1
                  clear H1
                  obtain rfl := Option.some.inj H
                  exact absurd hr_.out (by decide)
              · rw [if_neg c17] at H
                exact absurd H (by simp)
            · replace c15 := Bool.eq_false_iff.mpr c15
              subst c15
              have H1 : (some false) = some r := by rw [if_neg (show ¬ (false = true) by decide)] at H; exact H
              clear H
              have H := H1
              clear H1
              obtain rfl := Option.some.inj H
              exact absurd hr_.out (by decide)
          · rw [if_neg c12] at H
            exact absurd H (by simp)
        · rw [if_neg c11] at H
          exact absurd H (by simp)
      · rw [if_neg c9] at H
        have c9b0 : decide (x5_1 < (x4_1.length : Int)) = false := decide_eq_false c9
        clear c9
        replace H := Option.bind_eq_some_iff.mp H
        obtain ⟨t361, A370, H⟩ := H
        replace H : (if 6 < (t361.length : Int) then (if 7 < (t361.length : Int) then ((dgram_Read.f k1 ((t361.set (6 : Int).toNat 0).set (7 : Int).toNat 0)).bind fun bt366 => ((dgram_Bytes.f k1 65527 0 ([] : List Int)).bind fun bt370 => ((dgram_Read.f k1 bt370.1).bind fun bt374 => (if bt366.2.2 = 110 then (if bt370.2 = 0 then ((sallyportref00_EqBytes.f k1 bt370.1 (([255, 247, 0, 0, 0, 8, 255, 255] : List Int))).bind fun t381 => (if t381 = true then (if bt374.2.2 = 0 then (if (!(bt374.1 == 65527) || (!(bt374.2.1 == 0))) = true then (some false) else ((sallyportlaw10_awake.f k1).bind fun t382 => (if t382 = true then (if 2040 ≤ 281474976710656 then ((sallyportlaw10_DgramBytes.f k1 t330 t331 (List.replicate 2040 0)).bind fun t386 => (if t386 = true then (if 2041 ≤ 281474976710656 then ((sallyportlaw10_DgramBytes.f k1 t330 t331 (List.replicate 2041 0)).bind fun t390 => (if t390 = true then ((sallyportlaw10_DgramBytes.f k1 0 0 ([] : List Int)).bind fun t391 => (if t391 = true then (if 70000 ≤ 281474976710656 then ((sallyportlaw10_DgramReads.f k1 (List.replicate 70000 0)).bind fun t395 => (if t395 = true then ((sallyportlaw10_DgramBack.f k1 t330 t331 (List.replicate 2040 0) ([] : List Int)).bind fun t399 => (some t399)) else (some false))) else (none)) else (some false))) else (some false))) else (none)) else (some false))) else (none)) else (some false)))) else (some false)) else (some false))) else (some false)) else (some false))))) else (none)) else (none)) = some r := H
        have A37 := Aside0.mk A370
        clear A370
        by_cases c38 : 6 < (t361.length : Int)
        · rw [if_pos c38] at H
          have c38b0 : decide (6 < (t361.length : Int)) = true := decide_eq_true c38
          have c38b1 : decide (6 < t361.length) = true := decide_eq_true (by omega)
          clear c38
          obtain ⟨y364, hy364⟩ : ∃ y_ : List Int, y_ = (t361.set (6 : Int).toNat 0) := ⟨_, rfl⟩
          replace H : (if 7 < (t361.length : Int) then ((dgram_Read.f k1 (y364.set (7 : Int).toNat 0)).bind fun bt366 => ((dgram_Bytes.f k1 65527 0 ([] : List Int)).bind fun bt370 => ((dgram_Read.f k1 bt370.1).bind fun bt374 => (if bt366.2.2 = 110 then (if bt370.2 = 0 then ((sallyportref00_EqBytes.f k1 bt370.1 (([255, 247, 0, 0, 0, 8, 255, 255] : List Int))).bind fun t381 => (if t381 = true then (if bt374.2.2 = 0 then (if (!(bt374.1 == 65527) || (!(bt374.2.1 == 0))) = true then (some false) else ((sallyportlaw10_awake.f k1).bind fun t382 => (if t382 = true then (if 2040 ≤ 281474976710656 then ((sallyportlaw10_DgramBytes.f k1 t330 t331 (List.replicate 2040 0)).bind fun t386 => (if t386 = true then (if 2041 ≤ 281474976710656 then ((sallyportlaw10_DgramBytes.f k1 t330 t331 (List.replicate 2041 0)).bind fun t390 => (if t390 = true then ((sallyportlaw10_DgramBytes.f k1 0 0 ([] : List Int)).bind fun t391 => (if t391 = true then (if 70000 ≤ 281474976710656 then ((sallyportlaw10_DgramReads.f k1 (List.replicate 70000 0)).bind fun t395 => (if t395 = true then ((sallyportlaw10_DgramBack.f k1 t330 t331 (List.replicate 2040 0) ([] : List Int)).bind fun t399 => (some t399)) else (some false))) else (none)) else (some false))) else (some false))) else (none)) else (some false))) else (none)) else (some false)))) else (some false)) else (some false))) else (some false)) else (some false))))) else (none)) = some r := by first | (rw [hy364]; with_reducible exact H) | (have H2_ := (Option.bind_some _ _).symm.trans H; rw [hy364]; with_reducible exact H2_) | (have H2_ := (Option.bind_some _ _).symm.trans H; with_reducible exact H2_) | with_reducible exact H | (rw [hy364]; exact H) | exact H
          have Ny364 := Aside0.mk hy364
          clear hy364
          by_cases c40 : 7 < (t361.length : Int)
          · rw [if_pos c40] at H
            have c40b0 : decide (7 < (t361.length : Int)) = true := decide_eq_true c40
            have c40b1 : decide (7 < t361.length) = true := decide_eq_true (by omega)
            clear c40
            obtain ⟨y365, hy365⟩ : ∃ y_ : List Int, y_ = (y364.set (7 : Int).toNat 0) := ⟨_, rfl⟩
            replace H : ((dgram_Read.f k1 y365).bind fun bt366 => ((dgram_Bytes.f k1 65527 0 ([] : List Int)).bind fun bt370 => ((dgram_Read.f k1 bt370.1).bind fun bt374 => (if bt366.2.2 = 110 then (if bt370.2 = 0 then ((sallyportref00_EqBytes.f k1 bt370.1 (([255, 247, 0, 0, 0, 8, 255, 255] : List Int))).bind fun t381 => (if t381 = true then (if bt374.2.2 = 0 then (if (!(bt374.1 == 65527) || (!(bt374.2.1 == 0))) = true then (some false) else ((sallyportlaw10_awake.f k1).bind fun t382 => (if t382 = true then (if 2040 ≤ 281474976710656 then ((sallyportlaw10_DgramBytes.f k1 t330 t331 (List.replicate 2040 0)).bind fun t386 => (if t386 = true then (if 2041 ≤ 281474976710656 then ((sallyportlaw10_DgramBytes.f k1 t330 t331 (List.replicate 2041 0)).bind fun t390 => (if t390 = true then ((sallyportlaw10_DgramBytes.f k1 0 0 ([] : List Int)).bind fun t391 => (if t391 = true then (if 70000 ≤ 281474976710656 then ((sallyportlaw10_DgramReads.f k1 (List.replicate 70000 0)).bind fun t395 => (if t395 = true then ((sallyportlaw10_DgramBack.f k1 t330 t331 (List.replicate 2040 0) ([] : List Int)).bind fun t399 => (some t399)) else (some false))) else (none)) else (some false))) else (some false))) else (none)) else (some false))) else (none)) else (some false)))) else (some false)) else (some false))) else (some false)) else (some false))))) = some r := by first | (rw [hy365]; with_reducible exact H) | (have H2_ := (Option.bind_some _ _).symm.trans H; rw [hy365]; with_reducible exact H2_) | (have H2_ := (Option.bind_some _ _).symm.trans H; with_reducible exact H2_) | with_reducible exact H | (rw [hy365]; exact H) | exact H
            have Ny365 := Aside0.mk hy365
            clear hy365
            replace H := Option.bind_eq_some_iff.mp H
            obtain ⟨⟨t366, t367, t368⟩, A420, H⟩ := H
            replace H : ((dgram_Bytes.f k1 65527 0 ([] : List Int)).bind fun bt370 => ((dgram_Read.f k1 bt370.1).bind fun bt374 => (if t368 = 110 then (if bt370.2 = 0 then ((sallyportref00_EqBytes.f k1 bt370.1 (([255, 247, 0, 0, 0, 8, 255, 255] : List Int))).bind fun t381 => (if t381 = true then (if bt374.2.2 = 0 then (if (!(bt374.1 == 65527) || (!(bt374.2.1 == 0))) = true then (some false) else ((sallyportlaw10_awake.f k1).bind fun t382 => (if t382 = true then (if 2040 ≤ 281474976710656 then ((sallyportlaw10_DgramBytes.f k1 t330 t331 (List.replicate 2040 0)).bind fun t386 => (if t386 = true then (if 2041 ≤ 281474976710656 then ((sallyportlaw10_DgramBytes.f k1 t330 t331 (List.replicate 2041 0)).bind fun t390 => (if t390 = true then ((sallyportlaw10_DgramBytes.f k1 0 0 ([] : List Int)).bind fun t391 => (if t391 = true then (if 70000 ≤ 281474976710656 then ((sallyportlaw10_DgramReads.f k1 (List.replicate 70000 0)).bind fun t395 => (if t395 = true then ((sallyportlaw10_DgramBack.f k1 t330 t331 (List.replicate 2040 0) ([] : List Int)).bind fun t399 => (some t399)) else (some false))) else (none)) else (some false))) else (some false))) else (none)) else (some false))) else (none)) else (some false)))) else (some false)) else (some false))) else (some false)) else (some false)))) = some r := H
            have A42 := Aside0.mk A420
            clear A420
            replace H := Option.bind_eq_some_iff.mp H
            obtain ⟨⟨t370, t373⟩, A430, H⟩ := H
            replace H : ((dgram_Read.f k1 t370).bind fun bt374 => (if t368 = 110 then (if t373 = 0 then ((sallyportref00_EqBytes.f k1 t370 (([255, 247, 0, 0, 0, 8, 255, 255] : List Int))).bind fun t381 => (if t381 = true then (if bt374.2.2 = 0 then (if (!(bt374.1 == 65527) || (!(bt374.2.1 == 0))) = true then (some false) else ((sallyportlaw10_awake.f k1).bind fun t382 => (if t382 = true then (if 2040 ≤ 281474976710656 then ((sallyportlaw10_DgramBytes.f k1 t330 t331 (List.replicate 2040 0)).bind fun t386 => (if t386 = true then (if 2041 ≤ 281474976710656 then ((sallyportlaw10_DgramBytes.f k1 t330 t331 (List.replicate 2041 0)).bind fun t390 => (if t390 = true then ((sallyportlaw10_DgramBytes.f k1 0 0 ([] : List Int)).bind fun t391 => (if t391 = true then (if 70000 ≤ 281474976710656 then ((sallyportlaw10_DgramReads.f k1 (List.replicate 70000 0)).bind fun t395 => (if t395 = true then ((sallyportlaw10_DgramBack.f k1 t330 t331 (List.replicate 2040 0) ([] : List Int)).bind fun t399 => (some t399)) else (some false))) else (none)) else (some false))) else (some false))) else (none)) else (some false))) else (none)) else (some false)))) else (some false)) else (some false))) else (some false)) else (some false))) = some r := H
            have A43 := Aside0.mk A430
            clear A430
            replace H := Option.bind_eq_some_iff.mp H
            obtain ⟨⟨t374, t375, t376⟩, A440, H⟩ := H
            replace H : (if t368 = 110 then (if t373 = 0 then ((sallyportref00_EqBytes.f k1 t370 (([255, 247, 0, 0, 0, 8, 255, 255] : List Int))).bind fun t381 => (if t381 = true then (if t376 = 0 then (if (!(t374 == 65527) || (!(t375 == 0))) = true then (some false) else ((sallyportlaw10_awake.f k1).bind fun t382 => (if t382 = true then (if 2040 ≤ 281474976710656 then ((sallyportlaw10_DgramBytes.f k1 t330 t331 (List.replicate 2040 0)).bind fun t386 => (if t386 = true then (if 2041 ≤ 281474976710656 then ((sallyportlaw10_DgramBytes.f k1 t330 t331 (List.replicate 2041 0)).bind fun t390 => (if t390 = true then ((sallyportlaw10_DgramBytes.f k1 0 0 ([] : List Int)).bind fun t391 => (if t391 = true then (if 70000 ≤ 281474976710656 then ((sallyportlaw10_DgramReads.f k1 (List.replicate 70000 0)).bind fun t395 => (if t395 = true then ((sallyportlaw10_DgramBack.f k1 t330 t331 (List.replicate 2040 0) ([] : List Int)).bind fun t399 => (some t399)) else (some false))) else (none)) else (some false))) else (some false))) else (none)) else (some false))) else (none)) else (some false)))) else (some false)) else (some false))) else (some false)) else (some false)) = some r := H
            have A44 := Aside0.mk A440
            clear A440
            by_cases c45 : t368 = 110
            · rw [if_pos c45] at H
              have c45b0 : (t368 == 110) = true := beq_iff_eq.mpr c45
              have c45b1 : (t368 != 110) = false := bne_eq_false_iff_eq.mpr c45
              clear c45
              by_cases c46 : t373 = 0
              · rw [if_pos c46] at H
                have c46b0 : (t373 == 0) = true := beq_iff_eq.mpr c46
                have c46b1 : (t373 != 0) = false := bne_eq_false_iff_eq.mpr c46
                clear c46
                obtain ⟨y378, hy378⟩ : ∃ y_ : List Int, y_ = (([255, 247, 0, 0, 0, 8, 255, 255] : List Int)) := ⟨_, rfl⟩
                replace H : ((sallyportref00_EqBytes.f k1 t370 y378).bind fun t381 => (if t381 = true then (if t376 = 0 then (if (!(t374 == 65527) || (!(t375 == 0))) = true then (some false) else ((sallyportlaw10_awake.f k1).bind fun t382 => (if t382 = true then (if 2040 ≤ 281474976710656 then ((sallyportlaw10_DgramBytes.f k1 t330 t331 (List.replicate 2040 0)).bind fun t386 => (if t386 = true then (if 2041 ≤ 281474976710656 then ((sallyportlaw10_DgramBytes.f k1 t330 t331 (List.replicate 2041 0)).bind fun t390 => (if t390 = true then ((sallyportlaw10_DgramBytes.f k1 0 0 ([] : List Int)).bind fun t391 => (if t391 = true then (if 70000 ≤ 281474976710656 then ((sallyportlaw10_DgramReads.f k1 (List.replicate 70000 0)).bind fun t395 => (if t395 = true then ((sallyportlaw10_DgramBack.f k1 t330 t331 (List.replicate 2040 0) ([] : List Int)).bind fun t399 => (some t399)) else (some false))) else (none)) else (some false))) else (some false))) else (none)) else (some false))) else (none)) else (some false)))) else (some false)) else (some false))) = some r := by first | (rw [hy378]; with_reducible exact H) | (have H2_ := (Option.bind_some _ _).symm.trans H; rw [hy378]; with_reducible exact H2_) | (have H2_ := (Option.bind_some _ _).symm.trans H; with_reducible exact H2_) | with_reducible exact H | (rw [hy378]; exact H) | exact H
                have Ny378 := Aside0.mk hy378
                clear hy378
                replace H := Option.bind_eq_some_iff.mp H
                obtain ⟨t381, A470, H⟩ := H
                replace H : (if t381 = true then (if t376 = 0 then (if (!(t374 == 65527) || (!(t375 == 0))) = true then (some false) else ((sallyportlaw10_awake.f k1).bind fun t382 => (if t382 = true then (if 2040 ≤ 281474976710656 then ((sallyportlaw10_DgramBytes.f k1 t330 t331 (List.replicate 2040 0)).bind fun t386 => (if t386 = true then (if 2041 ≤ 281474976710656 then ((sallyportlaw10_DgramBytes.f k1 t330 t331 (List.replicate 2041 0)).bind fun t390 => (if t390 = true then ((sallyportlaw10_DgramBytes.f k1 0 0 ([] : List Int)).bind fun t391 => (if t391 = true then (if 70000 ≤ 281474976710656 then ((sallyportlaw10_DgramReads.f k1 (List.replicate 70000 0)).bind fun t395 => (if t395 = true then ((sallyportlaw10_DgramBack.f k1 t330 t331 (List.replicate 2040 0) ([] : List Int)).bind fun t399 => (some t399)) else (some false))) else (none)) else (some false))) else (some false))) else (none)) else (some false))) else (none)) else (some false)))) else (some false)) else (some false)) = some r := H
                have A47 := Aside0.mk A470
                clear A470
                by_cases c48 : t381 = true
                · subst c48
                  have H1 : (if t376 = 0 then (if (!(t374 == 65527) || (!(t375 == 0))) = true then (some false) else ((sallyportlaw10_awake.f k1).bind fun t382 => (if t382 = true then (if 2040 ≤ 281474976710656 then ((sallyportlaw10_DgramBytes.f k1 t330 t331 (List.replicate 2040 0)).bind fun t386 => (if t386 = true then (if 2041 ≤ 281474976710656 then ((sallyportlaw10_DgramBytes.f k1 t330 t331 (List.replicate 2041 0)).bind fun t390 => (if t390 = true then ((sallyportlaw10_DgramBytes.f k1 0 0 ([] : List Int)).bind fun t391 => (if t391 = true then (if 70000 ≤ 281474976710656 then ((sallyportlaw10_DgramReads.f k1 (List.replicate 70000 0)).bind fun t395 => (if t395 = true then ((sallyportlaw10_DgramBack.f k1 t330 t331 (List.replicate 2040 0) ([] : List Int)).bind fun t399 => (some t399)) else (some false))) else (none)) else (some false))) else (some false))) else (none)) else (some false))) else (none)) else (some false)))) else (some false)) = some r := by rw [if_pos rfl] at H; exact H
                  clear H
                  have H := H1
                  clear H1
                  by_cases c49 : t376 = 0
                  · rw [if_pos c49] at H
                    have c49b0 : (t376 == 0) = true := beq_iff_eq.mpr c49
                    have c49b1 : (t376 != 0) = false := bne_eq_false_iff_eq.mpr c49
                    clear c49
                    by_cases c50 : (!(t374 == 65527) || (!(t375 == 0))) = true
                    · rw [if_pos c50] at H
                      have c50b0 : (!(t374 == 65527) || (!(t375 == 0))) = true := c50
                      clear c50
                      obtain rfl := Option.some.inj H
                      exact absurd hr_.out (by decide)
                    · rw [if_neg c50] at H
                      have c50b0 : (!(t374 == 65527) || (!(t375 == 0))) = false := by simpa using c50
                      clear c50
                      replace H := Option.bind_eq_some_iff.mp H
                      obtain ⟨t382, A510, H⟩ := H
                      replace H : (if t382 = true then (if 2040 ≤ 281474976710656 then ((sallyportlaw10_DgramBytes.f k1 t330 t331 (List.replicate 2040 0)).bind fun t386 => (if t386 = true then (if 2041 ≤ 281474976710656 then ((sallyportlaw10_DgramBytes.f k1 t330 t331 (List.replicate 2041 0)).bind fun t390 => (if t390 = true then ((sallyportlaw10_DgramBytes.f k1 0 0 ([] : List Int)).bind fun t391 => (if t391 = true then (if 70000 ≤ 281474976710656 then ((sallyportlaw10_DgramReads.f k1 (List.replicate 70000 0)).bind fun t395 => (if t395 = true then ((sallyportlaw10_DgramBack.f k1 t330 t331 (List.replicate 2040 0) ([] : List Int)).bind fun t399 => (some t399)) else (some false))) else (none)) else (some false))) else (some false))) else (none)) else (some false))) else (none)) else (some false)) = some r := H
                      have A51 := Aside0.mk A510
                      clear A510
                      by_cases c52 : t382 = true
                      · subst c52
                        have H1 : (if 2040 ≤ 281474976710656 then ((sallyportlaw10_DgramBytes.f k1 t330 t331 (List.replicate 2040 0)).bind fun t386 => (if t386 = true then (if 2041 ≤ 281474976710656 then ((sallyportlaw10_DgramBytes.f k1 t330 t331 (List.replicate 2041 0)).bind fun t390 => (if t390 = true then ((sallyportlaw10_DgramBytes.f k1 0 0 ([] : List Int)).bind fun t391 => (if t391 = true then (if 70000 ≤ 281474976710656 then ((sallyportlaw10_DgramReads.f k1 (List.replicate 70000 0)).bind fun t395 => (if t395 = true then ((sallyportlaw10_DgramBack.f k1 t330 t331 (List.replicate 2040 0) ([] : List Int)).bind fun t399 => (some t399)) else (some false))) else (none)) else (some false))) else (some false))) else (none)) else (some false))) else (none)) = some r := by rw [if_pos rfl] at H; exact H
                        clear H
                        have H := H1
                        clear H1
                        by_cases c53 : 2040 ≤ 281474976710656
                        · rw [if_pos c53] at H
                          have c53b0 := eq_true c53
                          have c53b1 : decide (2040 ≤ 281474976710656) = true := decide_eq_true c53
                          clear c53
                          obtain ⟨y383, hy383⟩ : ∃ y_ : List Int, y_ = (List.replicate 2040 0) := ⟨_, rfl⟩
                          replace H : ((sallyportlaw10_DgramBytes.f k1 t330 t331 y383).bind fun t386 => (if t386 = true then (if 2041 ≤ 281474976710656 then ((sallyportlaw10_DgramBytes.f k1 t330 t331 (List.replicate 2041 0)).bind fun t390 => (if t390 = true then ((sallyportlaw10_DgramBytes.f k1 0 0 ([] : List Int)).bind fun t391 => (if t391 = true then (if 70000 ≤ 281474976710656 then ((sallyportlaw10_DgramReads.f k1 (List.replicate 70000 0)).bind fun t395 => (if t395 = true then ((sallyportlaw10_DgramBack.f k1 t330 t331 (List.replicate 2040 0) ([] : List Int)).bind fun t399 => (some t399)) else (some false))) else (none)) else (some false))) else (some false))) else (none)) else (some false))) = some r := by first | (rw [hy383]; with_reducible exact H) | (have H2_ := (Option.bind_some _ _).symm.trans H; rw [hy383]; with_reducible exact H2_) | (have H2_ := (Option.bind_some _ _).symm.trans H; with_reducible exact H2_) | with_reducible exact H | (rw [hy383]; exact H) | exact H
                          have Ny383 := Aside0.mk hy383
                          clear hy383
                          replace H := Option.bind_eq_some_iff.mp H
                          obtain ⟨t386, A540, H⟩ := H
                          replace H : (if t386 = true then (if 2041 ≤ 281474976710656 then ((sallyportlaw10_DgramBytes.f k1 t330 t331 (List.replicate 2041 0)).bind fun t390 => (if t390 = true then ((sallyportlaw10_DgramBytes.f k1 0 0 ([] : List Int)).bind fun t391 => (if t391 = true then (if 70000 ≤ 281474976710656 then ((sallyportlaw10_DgramReads.f k1 (List.replicate 70000 0)).bind fun t395 => (if t395 = true then ((sallyportlaw10_DgramBack.f k1 t330 t331 (List.replicate 2040 0) ([] : List Int)).bind fun t399 => (some t399)) else (some false))) else (none)) else (some false))) else (some false))) else (none)) else (some false)) = some r := H
                          have A54 := Aside0.mk A540
                          clear A540
                          by_cases c55 : t386 = true
                          · subst c55
                            have H1 : (if 2041 ≤ 281474976710656 then ((sallyportlaw10_DgramBytes.f k1 t330 t331 (List.replicate 2041 0)).bind fun t390 => (if t390 = true then ((sallyportlaw10_DgramBytes.f k1 0 0 ([] : List Int)).bind fun t391 => (if t391 = true then (if 70000 ≤ 281474976710656 then ((sallyportlaw10_DgramReads.f k1 (List.replicate 70000 0)).bind fun t395 => (if t395 = true then ((sallyportlaw10_DgramBack.f k1 t330 t331 (List.replicate 2040 0) ([] : List Int)).bind fun t399 => (some t399)) else (some false))) else (none)) else (some false))) else (some false))) else (none)) = some r := by rw [if_pos rfl] at H; exact H
                            clear H
                            have H := H1
                            clear H1
                            by_cases c56 : 2041 ≤ 281474976710656
                            · rw [if_pos c56] at H
                              have c56b0 := eq_true c56
                              have c56b1 : decide (2041 ≤ 281474976710656) = true := decide_eq_true c56
                              clear c56
                              obtain ⟨y387, hy387⟩ : ∃ y_ : List Int, y_ = (List.replicate 2041 0) := ⟨_, rfl⟩
                              replace H : ((sallyportlaw10_DgramBytes.f k1 t330 t331 y387).bind fun t390 => (if t390 = true then ((sallyportlaw10_DgramBytes.f k1 0 0 ([] : List Int)).bind fun t391 => (if t391 = true then (if 70000 ≤ 281474976710656 then ((sallyportlaw10_DgramReads.f k1 (List.replicate 70000 0)).bind fun t395 => (if t395 = true then ((sallyportlaw10_DgramBack.f k1 t330 t331 (List.replicate 2040 0) ([] : List Int)).bind fun t399 => (some t399)) else (some false))) else (none)) else (some false))) else (some false))) = some r := by first | (rw [hy387]; with_reducible exact H) | (have H2_ := (Option.bind_some _ _).symm.trans H; rw [hy387]; with_reducible exact H2_) | (have H2_ := (Option.bind_some _ _).symm.trans H; with_reducible exact H2_) | with_reducible exact H | (rw [hy387]; exact H) | exact H
                              have Ny387 := Aside0.mk hy387
                              clear hy387
                              replace H := Option.bind_eq_some_iff.mp H
                              obtain ⟨t390, A570, H⟩ := H
                              replace H : (if t390 = true then ((sallyportlaw10_DgramBytes.f k1 0 0 ([] : List Int)).bind fun t391 => (if t391 = true then (if 70000 ≤ 281474976710656 then ((sallyportlaw10_DgramReads.f k1 (List.replicate 70000 0)).bind fun t395 => (if t395 = true then ((sallyportlaw10_DgramBack.f k1 t330 t331 (List.replicate 2040 0) ([] : List Int)).bind fun t399 => (some t399)) else (some false))) else (none)) else (some false))) else (some false)) = some r := H
                              have A57 := Aside0.mk A570
                              clear A570
                              by_cases c58 : t390 = true
                              · subst c58
                                have H1 : ((sallyportlaw10_DgramBytes.f k1 0 0 ([] : List Int)).bind fun t391 => (if t391 = true then (if 70000 ≤ 281474976710656 then ((sallyportlaw10_DgramReads.f k1 (List.replicate 70000 0)).bind fun t395 => (if t395 = true then ((sallyportlaw10_DgramBack.f k1 t330 t331 (List.replicate 2040 0) ([] : List Int)).bind fun t399 => (some t399)) else (some false))) else (none)) else (some false))) = some r := by rw [if_pos rfl] at H; exact H
                                clear H
                                have H := H1
                                clear H1
                                replace H := Option.bind_eq_some_iff.mp H
                                obtain ⟨t391, A590, H⟩ := H
                                replace H : (if t391 = true then (if 70000 ≤ 281474976710656 then ((sallyportlaw10_DgramReads.f k1 (List.replicate 70000 0)).bind fun t395 => (if t395 = true then ((sallyportlaw10_DgramBack.f k1 t330 t331 (List.replicate 2040 0) ([] : List Int)).bind fun t399 => (some t399)) else (some false))) else (none)) else (some false)) = some r := H
                                have A59 := Aside0.mk A590
                                clear A590
                                by_cases c60 : t391 = true
                                · subst c60
                                  have H1 : (if 70000 ≤ 281474976710656 then ((sallyportlaw10_DgramReads.f k1 (List.replicate 70000 0)).bind fun t395 => (if t395 = true then ((sallyportlaw10_DgramBack.f k1 t330 t331 (List.replicate 2040 0) ([] : List Int)).bind fun t399 => (some t399)) else (some false))) else (none)) = some r := by rw [if_pos rfl] at H; exact H
                                  clear H
                                  have H := H1
                                  clear H1
                                  by_cases c61 : 70000 ≤ 281474976710656
                                  · rw [if_pos c61] at H
                                    have c61b0 := eq_true c61
                                    have c61b1 : decide (70000 ≤ 281474976710656) = true := decide_eq_true c61
                                    clear c61
                                    obtain ⟨y392, hy392⟩ : ∃ y_ : List Int, y_ = (List.replicate 70000 0) := ⟨_, rfl⟩
                                    replace H : ((sallyportlaw10_DgramReads.f k1 y392).bind fun t395 => (if t395 = true then ((sallyportlaw10_DgramBack.f k1 t330 t331 (List.replicate 2040 0) ([] : List Int)).bind fun t399 => (some t399)) else (some false))) = some r := by first | (rw [hy392]; with_reducible exact H) | (have H2_ := (Option.bind_some _ _).symm.trans H; rw [hy392]; with_reducible exact H2_) | (have H2_ := (Option.bind_some _ _).symm.trans H; with_reducible exact H2_) | with_reducible exact H | (rw [hy392]; exact H) | exact H
                                    have Ny392 := Aside0.mk hy392
                                    clear hy392
                                    replace H := Option.bind_eq_some_iff.mp H
                                    obtain ⟨t395, A620, H⟩ := H
                                    replace H : (if t395 = true then ((sallyportlaw10_DgramBack.f k1 t330 t331 (List.replicate 2040 0) ([] : List Int)).bind fun t399 => (some t399)) else (some false)) = some r := H
                                    have A62 := Aside0.mk A620
                                    clear A620
                                    by_cases c63 : t395 = true
                                    · subst c63
                                      have H1 : ((sallyportlaw10_DgramBack.f k1 t330 t331 (List.replicate 2040 0) ([] : List Int)).bind fun t399 => (some t399)) = some r := by rw [if_pos rfl] at H; exact H
                                      clear H
                                      have H := H1
                                      clear H1
                                      obtain ⟨y396, hy396⟩ : ∃ y_ : List Int, y_ = (List.replicate 2040 0) := ⟨_, rfl⟩
                                      replace H : ((sallyportlaw10_DgramBack.f k1 t330 t331 y396 ([] : List Int)).bind fun t399 => (some t399)) = some r := by first | (rw [hy396]; with_reducible exact H) | (have H2_ := (Option.bind_some _ _).symm.trans H; rw [hy396]; with_reducible exact H2_) | (have H2_ := (Option.bind_some _ _).symm.trans H; with_reducible exact H2_) | with_reducible exact H | (rw [hy396]; exact H) | exact H
                                      have Ny396 := Aside0.mk hy396
                                      clear hy396
                                      replace H := Option.bind_eq_some_iff.mp H
                                      obtain ⟨t399, A640, H⟩ := H
                                      replace H : (some t399) = some r := H
                                      have A64 := Aside0.mk A640
                                      clear A640
                                      obtain rfl := Option.some.inj H
                                      obtain ⟨Ao65, co65, eo65⟩ := Kd.R_slice HO_4.out
                                      subst eo65
                                      try go_wp2_with (first | ((with_reducible refine gate_callee (f := 18) rfl ?_); refine goesL_ (some 58) rfl rfl Try.func18 (by kernel_rfl) rfl #[.slice Ao65 x4_1.length co65] rfl (by (try simp only [List.map_toArray, List.map_cons, List.map_nil]); first | done | rfl | (simp only [List.length_drop, List.length_take]; rfl)) ?_; (with_reducible refine (sallyportref00_CopyBytes.calls _ _ x4_1 t361 _ ?side1 ?side2 A37.out).mono ?_); (case side1 => repeat (first | exact (Kd.R_reads' HO_4.out).2.2 | (with_reducible refine Kd.C_alloc ?_ _) | (with_reducible refine Kd.C_drewN ?_ _) | (with_reducible refine Kd.C_drew ?_))); (case side2 => exact (Kd.R_reads' HO_4.out).2.1); rintro e w66 ⟨v362, rfl, ho0, hb⟩; refine ⟨_, rfl, ?_⟩; have n0_ := Aside0.mk (Kd.R_elder' (by (with_reducible repeat (first | apply Kd.R_alloc | apply Kd.R_drewN | apply Kd.R_drew)); exact HO_4.out) (Kd.R_base ho0) hb); have n1_ := Aside0.mk (Kd.R_lower (Kd.R_new' ho0 (Kd.R_lt (by (with_reducible repeat (first | apply Kd.R_alloc | apply Kd.R_drewN | apply Kd.R_drew)); exact HO_4.out))) (below_size (by repeat (first | (with_reducible first | exact HB.out | apply below_alloc | apply pw_below_drewN | apply below_drew1 | refine below_set ?_ GE338.out) | exact HB.out)))); have n2_ := Aside0.mk (blk_below (g := gb338) (o := .cells #[.int .u16 t330, .int .u16 t331] 47 (0, 0)) (by (with_reducible repeat (first | refine blk_drewN ?_ _ | refine blk_drew ?_ | refine blk_alloc ?_ _)); exact BK338.out) hb); have n3_ := Aside0.mk (below_step (by repeat (first | (with_reducible first | exact HB.out | apply below_alloc | apply pw_below_drewN | apply below_drew1 | refine below_set ?_ GE338.out) | exact HB.out)) hb); clear HO_4; clear BK338; clear HB; have HO_4 := n0_; have HO363 := n1_; have BK338 := n2_; have HB := n3_; clear n0_ n1_ n2_ n3_; (try clear hb); (try clear hb2); (try clear hk); (try clear hi); (try clear ho0); have p39 : 0 ≤ (6 : Int) := (by omega); have q39 : (6 : Int) < ((t361.length : Int) : Int) := of_decide_eq_true (by first | (with_reducible assumption) | assumption); have qi39 : (6 < t361.length) = True := eq_true (by omega); obtain ⟨go39, co39, eo39, gb39, gl39, cl39, HG39⟩ := Kd.R_form HO363.out (by omega); (first | cases eo39 | (injection eo39 with ea_ en_ ec_; (first | subst ea_ | (injection ea_ with ea_; subst ea_)); subst ec_; clear en_)); have GB39 := Aside0.mk gb39; have GG39 := Aside0.mk HG39; clear gb39 gl39 HG39; obtain ⟨hx39_0, hf39_0⟩ := Kd.R_celln 0 HO363.out (6 : Int) p39 q39; (try rw [show ((6 : Int)).toNat = 6 from rfl] at hx39_0); (try simp only [Nat.reduceMul, Nat.zero_mul, Nat.zero_add, Nat.reduceAdd] at hx39_0); (try rw [show ((6 : Int)).toNat = 6 from rfl] at hf39_0); (try simp only [Nat.reduceMul, Nat.zero_mul, Nat.zero_add, Nat.reduceAdd] at hf39_0); replace p39 := eq_true p39; replace q39 := eq_true q39; have n_ := Aside0.mk (Kd.R_mono (ok' := (fun k_ => some k_ ≠ (.slice Ao65 x4_1.length co65 : Value).ownBlock)) HO363.out (fun k_ hk => by first | exact hk.2 | exact hk | (simp [hk]; done))); clear HO363; have HO363 := n_; clear n_; obtain ⟨hy67_, hz67_⟩ := Kd.R_celln 0 HO363.out (6 : Int) (by omega) (of_decide_eq_true (by first | (with_reducible assumption) | assumption)); (try simp only [Int.reduceToNat, Int.toNat_zero, Int.toNat_ofNat, Nat.reduceMul, Nat.zero_mul, Nat.zero_add] at hy67_ hz67_); (try rw [show ((6 : Int)).toNat = 6 from rfl] at hy67_); (try rw [show ((6 : Int)).toNat = 6 from rfl] at hz67_); have HP67 := Kd.R_putg HO363.out (6 : Int) 0) | ((with_reducible refine gate_store (t := 5) (p := 60) rfl ?_); refine store_event (t := 5) (p := 60) (v := ?vo_w68) (w1 := (w66.setCell ⟨go39, (6 : Int).toNat, none⟩ (.int .u8 0))) ?hg ?ho ?hn ?hr ?_; (case ho => rfl); (case hg => rfl); (case hn => rfl); (case hr => first | (go_simp; done) | (go_simp; rfl)); intro w68 hw; have hg : w66.grownBy w68 (some go39) := (by rw [hw]; exact HP67.2); have hp_ : Kd.R (Kd.int .u8) 5 w68 w.heap.size (fun k_ => some k_ ≠ (.slice Ao65 x4_1.length co65 : Value).ownBlock) (.slice (some ⟨go39, 0, none⟩) t361.length co39) y364 := (by rw [hw, Ny364.out]; exact HP67.1); clear HP67; have n0_ := Aside0.mk (Kd.R_after (v := (.slice (some ⟨go39, 0, none⟩) t361.length co39)) (v1 := (.slice (some ⟨go39, 0, none⟩) t361.length co39)) (ok := (fun _ => True)) (by (with_reducible repeat (first | apply Kd.R_alloc | apply Kd.R_drewN | apply Kd.R_drew)); exact HO_4.out) hg (.inl rfl)); have n1_ := Aside0.mk (blk_grown (g := gb338) (o := .cells #[.int .u16 t330, .int .u16 t331] 47 (0, 0)) (by (with_reducible repeat (first | refine blk_drewN ?_ _ | refine blk_drew ?_ | refine blk_alloc ?_ _)); exact BK338.out) hg (Kd.R_ne HO363.out BK338.out (by decide))); have n2_ := Aside0.mk (hp_); have n3_ := Aside0.mk ((by rw [hw]; exact below_set (HB.out) GB39.out : Below w.heap.size w w68)); clear HO_4; clear BK338; clear HO363; clear HB; have HO_4 := n0_; have BK338 := n1_; have HO363 := n2_; have HB := n3_; clear n0_ n1_ n2_ n3_; clear hg hw hp_; have p41 : 0 ≤ (7 : Int) := (by omega); have q41 : (7 : Int) < ((t361.length : Int) : Int) := of_decide_eq_true (by first | (with_reducible assumption) | assumption); have qi41 : (7 < t361.length) = True := eq_true (by omega); obtain ⟨hx41_0, hf41_0⟩ := Kd.R_celln 0 HO363.out (7 : Int) p41 q41; (try rw [show ((7 : Int)).toNat = 7 from rfl] at hx41_0); (try simp only [Nat.reduceMul, Nat.zero_mul, Nat.zero_add, Nat.reduceAdd] at hx41_0); (try rw [show ((7 : Int)).toNat = 7 from rfl] at hf41_0); (try simp only [Nat.reduceMul, Nat.zero_mul, Nat.zero_add, Nat.reduceAdd] at hf41_0); replace p41 := eq_true p41; replace q41 := eq_true q41; obtain ⟨hy69_, hz69_⟩ := Kd.R_celln 0 HO363.out (7 : Int) (by omega) (of_decide_eq_true (by first | (with_reducible assumption) | assumption)); (try simp only [Int.reduceToNat, Int.toNat_zero, Int.toNat_ofNat, Nat.reduceMul, Nat.zero_mul, Nat.zero_add] at hy69_ hz69_); (try rw [show ((7 : Int)).toNat = 7 from rfl] at hy69_); (try rw [show ((7 : Int)).toNat = 7 from rfl] at hz69_); have HP69 := Kd.R_putg HO363.out (7 : Int) 0) | ((with_reducible refine gate_store (t := 5) (p := 62) rfl ?_); refine store_event (t := 5) (p := 62) (v := ?vo_w70) (w1 := (w68.setCell ⟨go39, (7 : Int).toNat, none⟩ (.int .u8 0))) ?hg ?ho ?hn ?hr ?_; (case ho => rfl); (case hg => rfl); (case hn => rfl); (case hr => first | (go_simp; done) | (go_simp; rfl)); intro w70 hw; have hg : w68.grownBy w70 (some go39) := (by rw [hw]; exact HP69.2); have hp_ : Kd.R (Kd.int .u8) 5 w70 w.heap.size (fun k_ => some k_ ≠ (.slice Ao65 x4_1.length co65 : Value).ownBlock) (.slice (some ⟨go39, 0, none⟩) t361.length co39) y365 := (by rw [hw, Ny365.out]; exact HP69.1); clear HP69; have n0_ := Aside0.mk (Kd.R_after (v := (.slice (some ⟨go39, 0, none⟩) t361.length co39)) (v1 := (.slice (some ⟨go39, 0, none⟩) t361.length co39)) (ok := (fun _ => True)) (by (with_reducible repeat (first | apply Kd.R_alloc | apply Kd.R_drewN | apply Kd.R_drew)); exact HO_4.out) hg (.inl rfl)); have n1_ := Aside0.mk (blk_grown (g := gb338) (o := .cells #[.int .u16 t330, .int .u16 t331] 47 (0, 0)) (by (with_reducible repeat (first | refine blk_drewN ?_ _ | refine blk_drew ?_ | refine blk_alloc ?_ _)); exact BK338.out) hg (Kd.R_ne HO363.out BK338.out (by decide))); have n2_ := Aside0.mk (hp_); have n3_ := Aside0.mk ((by rw [hw]; exact below_set (HB.out) GB39.out : Below w.heap.size w w70)); clear HO_4; clear BK338; clear HO363; clear HB; have HO_4 := n0_; have BK338 := n1_; have HO363 := n2_; have HB := n3_; clear n0_ n1_ n2_ n3_; clear hg hw hp_) | ((with_reducible refine gate_callee (f := 39) rfl ?_); refine goesL_ (some 65) rfl rfl Try.func39 (by kernel_rfl) rfl #[.slice (some ⟨go39, 0, none⟩) y365.length co39] rfl (by (try simp only [List.map_toArray, List.map_cons, List.map_nil]); first | done | (rw [show y365.length = t361.length from (Kd.R_reads' HO363.out).1.symm] <;> rfl) | rfl | (simp only [List.length_drop, List.length_take]; rfl)) ?_; (with_reducible refine (dgram_Read.calls k1 _ _ y365 t366 t367 t368 _ ?side1 ?side2 A42.out).mono ?_); (case side1 => repeat (first | exact (Kd.R_reads' HO363.out).2.2 | (with_reducible refine Kd.C_alloc ?_ _) | (with_reducible refine Kd.C_drewN ?_ _) | (with_reducible refine Kd.C_drew ?_))); (case side2 => rw [show y365.length = t361.length from (Kd.R_reads' HO363.out).1.symm]; exact (Kd.R_reads' HO363.out).2.1); rintro e w71 ⟨rfl, hb⟩; refine ⟨_, rfl, ?_⟩; have n0_ := Aside0.mk (Kd.R_below (by (with_reducible repeat (first | apply Kd.R_alloc | apply Kd.R_drewN | apply Kd.R_drew)); exact HO_4.out) hb); have n1_ := Aside0.mk (Kd.R_below (by (with_reducible repeat (first | apply Kd.R_alloc | apply Kd.R_drewN | apply Kd.R_drew)); exact HO363.out) hb); have n2_ := Aside0.mk (blk_below (g := gb338) (o := .cells #[.int .u16 t330, .int .u16 t331] 47 (0, 0)) (by (with_reducible repeat (first | refine blk_drewN ?_ _ | refine blk_drew ?_ | refine blk_alloc ?_ _)); exact BK338.out) hb); have n3_ := Aside0.mk (below_step (by repeat (first | (with_reducible first | exact HB.out | apply below_alloc | apply pw_below_drewN | apply below_drew1 | refine below_set ?_ GE338.out) | exact HB.out)) hb); clear HO_4; clear HO363; clear BK338; clear HB; have HO_4 := n0_; have HO363 := n1_; have BK338 := n2_; have HB := n3_; clear n0_ n1_ n2_ n3_; (try clear hb); (try clear hb2); (try clear hk); (try clear hi)) | ((with_reducible refine gate_dst (N := 8) rfl ?_); (try (refine gate_guard (by rfl) ?_; dsimp only)); refine box_event ?hg (N := 8) ?hd (cs := #[.int .u16 0, .int .u16 0]) (t := 47) ?hr ?_; (case hd => rfl); (case hg => rfl); (case hr => first | (go_simp; done) | (go_simp; rfl)); intro gb369 hg w72 hbox hb; have n0_ := Aside0.mk (Kd.R_below (by (with_reducible repeat (first | apply Kd.R_alloc | apply Kd.R_drewN | apply Kd.R_drew)); exact HO_4.out) hb); have n1_ := Aside0.mk (Kd.R_below (by (with_reducible repeat (first | apply Kd.R_alloc | apply Kd.R_drewN | apply Kd.R_drew)); exact HO363.out) hb); have n2_ := Aside0.mk (blk_below (g := gb338) (o := .cells #[.int .u16 t330, .int .u16 t331] 47 (0, 0)) (by (with_reducible repeat (first | refine blk_drewN ?_ _ | refine blk_drew ?_ | refine blk_alloc ?_ _)); exact BK338.out) hb); have n3_ := Aside0.mk (below_step (by repeat (first | (with_reducible first | exact HB.out | apply below_alloc | apply pw_below_drewN | apply below_drew1 | refine below_set ?_ GE338.out) | exact HB.out)) hb); have n4_ := Aside0.mk (hbox); have n5_ := Aside0.mk ((by rw [hg]; exact (below_size (by repeat (first | (with_reducible first | exact HB.out | apply below_alloc | apply pw_below_drewN | apply below_drew1 | refine below_set ?_ GE338.out) | exact HB.out))) : w.heap.size ≤ gb369)); have n6_ := Aside0.mk ((by rw [hg]; exact (below_size (by repeat (first | (with_reducible first | exact HB.out | apply below_alloc | apply pw_below_drewN | apply below_drew1 | refine below_set ?_ GE338.out) | exact HB.out))) : w.heap.size ≤ gb369)); have n7_ := Aside0.mk ((by rw [hg]; exact Nat.ne_of_lt (blk_lt (g := gb338) (o := .cells #[.int .u16 t330, .int .u16 t331] 47 (0, 0)) (by (with_reducible repeat (first | refine blk_drewN ?_ _ | refine blk_drew ?_ | refine blk_alloc ?_ _)); exact BK338.out)) : gb338 ≠ gb369)); have n8_ := Aside0.mk ((by rw [hg]; exact Nat.ne_of_gt (blk_lt (g := gb338) (o := .cells #[.int .u16 t330, .int .u16 t331] 47 (0, 0)) (by (with_reducible repeat (first | refine blk_drewN ?_ _ | refine blk_drew ?_ | refine blk_alloc ?_ _)); exact BK338.out)) : gb369 ≠ gb338)); clear HO_4; clear HO363; clear BK338; clear HB; have HO_4 := n0_; have HO363 := n1_; have BK338 := n2_; have HB := n3_; have BK369 := n4_; have GW369 := n5_; have GE369 := n6_; have NB338_369 := n7_; have NB369_338 := n8_; clear n0_ n1_ n2_ n3_ n4_ n5_ n6_ n7_ n8_; clear hb hbox hg; have hnb73 := NB369_338.out; have hnc73 := NB338_369.out; have hcz74_0 : w72.cell? ⟨gb369, 0, none⟩ = some (.int .u16 0) := (blk_cell BK369.out 0).trans rfl; have hcz74_1 : w72.cell? ⟨gb369, 1, none⟩ = some (.int .u16 0) := (blk_cell BK369.out 1).trans rfl; have hfz74_0 := blk_frozen BK369.out 0; have hfz74_1 := blk_frozen BK369.out 1) | ((with_reducible refine gate_callee (f := 32) rfl ?_); refine goesL_ (some 70) rfl rfl Try.func32 (by kernel_rfl) rfl #[.agg #[.int .u16 65527, .int .u16 0], .slice none 0 0] rfl (by (try simp only [List.map_toArray, List.map_cons, List.map_nil]); first | done | rfl | (simp only [List.length_drop, List.length_take]; rfl)) ?_; (refine (dgram_Bytes.calls k1 65527 0 _ _ ([] : List Int) t370 t373 _ ?side1 ?side2 A43.out).mono ?_); (case side1 => exact Kd.C_nil _ _); (case side2 => exact Nat.le_refl _); rintro e w75 ⟨v371, rfl, ho0, hb⟩; refine ⟨_, rfl, ?_⟩; have n0_ := Aside0.mk (Kd.R_elder' (by (with_reducible repeat (first | apply Kd.R_alloc | apply Kd.R_drewN | apply Kd.R_drew)); exact (Kd.R_mono (Kd.R_far (p := ⟨gb369, 1, none⟩) (Kd.R_far (p := ⟨gb369, 0, none⟩) (Kd.R_types HO_4.out BK369.out (by decide)) (fun _ hk => hk.2) (.int .u16 t366)) (fun _ hk => hk.2) (.int .u16 t367)) (fun _ h_ => h_.1))) (Kd.R_base ho0) hb); have n1_ := Aside0.mk (Kd.R_elder' (by (with_reducible repeat (first | apply Kd.R_alloc | apply Kd.R_drewN | apply Kd.R_drew)); exact (Kd.R_mono (Kd.R_far (p := ⟨gb369, 1, none⟩) (Kd.R_far (p := ⟨gb369, 0, none⟩) (Kd.R_types HO363.out BK369.out (by decide)) (fun _ hk => hk.2) (.int .u16 t366)) (fun _ hk => hk.2) (.int .u16 t367)) (fun _ h_ => h_.1))) (Kd.R_base ho0) hb); have n2_ := Aside0.mk (Kd.R_lower (Kd.R_new' (Kd.R_new' ho0 (Kd.R_lt (by (with_reducible repeat (first | apply Kd.R_alloc | apply Kd.R_drewN | apply Kd.R_drew)); exact (Kd.R_mono (Kd.R_far (p := ⟨gb369, 1, none⟩) (Kd.R_far (p := ⟨gb369, 0, none⟩) (Kd.R_types HO_4.out BK369.out (by decide)) (fun _ hk => hk.2) (.int .u16 t366)) (fun _ hk => hk.2) (.int .u16 t367)) (fun _ h_ => h_.1))))) (Kd.R_lt (by (with_reducible repeat (first | apply Kd.R_alloc | apply Kd.R_drewN | apply Kd.R_drew)); exact (Kd.R_mono (Kd.R_far (p := ⟨gb369, 1, none⟩) (Kd.R_far (p := ⟨gb369, 0, none⟩) (Kd.R_types HO363.out BK369.out (by decide)) (fun _ hk => hk.2) (.int .u16 t366)) (fun _ hk => hk.2) (.int .u16 t367)) (fun _ h_ => h_.1))))) (below_size (by repeat (first | (with_reducible first | exact HB.out | apply below_alloc | apply pw_below_drewN | apply below_drew1 | refine below_set ?_ GE338.out | refine below_set ?_ GE369.out) | exact HB.out)))); have n3_ := Aside0.mk (blk_below (g := gb338) (o := .cells #[.int .u16 t330, .int .u16 t331] 47 (0, 0)) (by (with_reducible repeat (first | refine blk_drewN ?_ _ | refine blk_drew ?_ | refine blk_alloc ?_ _)); refine blk_far ?_ NB338_369.out _; (with_reducible repeat (first | refine blk_drewN ?_ _ | refine blk_drew ?_ | refine blk_alloc ?_ _)); refine blk_far ?_ NB338_369.out _; (with_reducible repeat (first | refine blk_drewN ?_ _ | refine blk_drew ?_ | refine blk_alloc ?_ _)); exact BK338.out) hb); have n4_ := Aside0.mk (blk_below (g := gb369) (o := .cells #[.int .u16 t366, .int .u16 t367] 47 (0, 0)) (by (with_reducible repeat (first | refine blk_drewN ?_ _ | refine blk_drew ?_ | refine blk_alloc ?_ _)); refine blk_put (cs := #[.int .u16 t366, .int .u16 0]) ?_ 1 _ rfl; (with_reducible repeat (first | refine blk_drewN ?_ _ | refine blk_drew ?_ | refine blk_alloc ?_ _)); refine blk_put (cs := #[.int .u16 0, .int .u16 0]) ?_ 0 _ rfl; (with_reducible repeat (first | refine blk_drewN ?_ _ | refine blk_drew ?_ | refine blk_alloc ?_ _)); exact BK369.out) hb); have n5_ := Aside0.mk (below_step (by repeat (first | (with_reducible first | exact HB.out | apply below_alloc | apply pw_below_drewN | apply below_drew1 | refine below_set ?_ GE338.out | refine below_set ?_ GE369.out) | exact HB.out)) hb); clear HO_4; clear HO363; clear BK338; clear BK369; clear HB; have HO_4 := n0_; have HO363 := n1_; have HO372 := n2_; have BK338 := n3_; have BK369 := n4_; have HB := n5_; clear n0_ n1_ n2_ n3_ n4_ n5_; (try clear hb); (try clear hb2); (try clear hk); (try clear hi); (try clear ho0); obtain ⟨Ao76, co76, eo76⟩ := Kd.R_slice HO372.out; subst eo76) | ((with_reducible refine gate_callee (f := 39) rfl ?_); refine goesL_ (some 75) rfl rfl Try.func39 (by kernel_rfl) rfl #[.slice Ao76 t370.length co76] rfl (by (try simp only [List.map_toArray, List.map_cons, List.map_nil]); first | done | rfl | (simp only [List.length_drop, List.length_take]; rfl)) ?_; (with_reducible refine (dgram_Read.calls k1 _ _ t370 t374 t375 t376 _ ?side1 ?side2 A44.out).mono ?_); (case side1 => repeat (first | exact (Kd.R_reads' HO372.out).2.2 | (with_reducible refine Kd.C_alloc ?_ _) | (with_reducible refine Kd.C_drewN ?_ _) | (with_reducible refine Kd.C_drew ?_))); (case side2 => exact (Kd.R_reads' HO372.out).2.1); rintro e w77 ⟨rfl, hb⟩; refine ⟨_, rfl, ?_⟩; have n0_ := Aside0.mk (Kd.R_below (by (with_reducible repeat (first | apply Kd.R_alloc | apply Kd.R_drewN | apply Kd.R_drew)); exact HO_4.out) hb); have n1_ := Aside0.mk (Kd.R_below (by (with_reducible repeat (first | apply Kd.R_alloc | apply Kd.R_drewN | apply Kd.R_drew)); exact HO363.out) hb); have n2_ := Aside0.mk (Kd.R_below (by (with_reducible repeat (first | apply Kd.R_alloc | apply Kd.R_drewN | apply Kd.R_drew)); exact HO372.out) hb); have n3_ := Aside0.mk (blk_below (g := gb338) (o := .cells #[.int .u16 t330, .int .u16 t331] 47 (0, 0)) (by (with_reducible repeat (first | refine blk_drewN ?_ _ | refine blk_drew ?_ | refine blk_alloc ?_ _)); exact BK338.out) hb); have n4_ := Aside0.mk (blk_below (g := gb369) (o := .cells #[.int .u16 t366, .int .u16 t367] 47 (0, 0)) (by (with_reducible repeat (first | refine blk_drewN ?_ _ | refine blk_drew ?_ | refine blk_alloc ?_ _)); exact BK369.out) hb); have n5_ := Aside0.mk (below_step (by repeat (first | (with_reducible first | exact HB.out | apply below_alloc | apply pw_below_drewN | apply below_drew1 | refine below_set ?_ GE338.out | refine below_set ?_ GE369.out) | exact HB.out)) hb); clear HO_4; clear HO363; clear HO372; clear BK338; clear BK369; clear HB; have HO_4 := n0_; have HO363 := n1_; have HO372 := n2_; have BK338 := n3_; have BK369 := n4_; have HB := n5_; clear n0_ n1_ n2_ n3_ n4_ n5_; (try clear hb); (try clear hb2); (try clear hk); (try clear hi)) | ((with_reducible refine gate_dst (N := 12) rfl ?_); (try (refine gate_guard (by rfl) ?_; dsimp only)); refine box_event ?hg (N := 12) ?hd (cs := #[.int .u16 0, .int .u16 0]) (t := 47) ?hr ?_; (case hd => rfl); (case hg => rfl); (case hr => first | (go_simp; done) | (go_simp; rfl)); intro gb377 hg w78 hbox hb; have n0_ := Aside0.mk (Kd.R_below (by (with_reducible repeat (first | apply Kd.R_alloc | apply Kd.R_drewN | apply Kd.R_drew)); exact HO_4.out) hb); have n1_ := Aside0.mk (Kd.R_below (by (with_reducible repeat (first | apply Kd.R_alloc | apply Kd.R_drewN | apply Kd.R_drew)); exact HO363.out) hb); have n2_ := Aside0.mk (Kd.R_below (by (with_reducible repeat (first | apply Kd.R_alloc | apply Kd.R_drewN | apply Kd.R_drew)); exact HO372.out) hb); have n3_ := Aside0.mk (blk_below (g := gb338) (o := .cells #[.int .u16 t330, .int .u16 t331] 47 (0, 0)) (by (with_reducible repeat (first | refine blk_drewN ?_ _ | refine blk_drew ?_ | refine blk_alloc ?_ _)); exact BK338.out) hb); have n4_ := Aside0.mk (blk_below (g := gb369) (o := .cells #[.int .u16 t366, .int .u16 t367] 47 (0, 0)) (by (with_reducible repeat (first | refine blk_drewN ?_ _ | refine blk_drew ?_ | refine blk_alloc ?_ _)); exact BK369.out) hb); have n5_ := Aside0.mk (below_step (by repeat (first | (with_reducible first | exact HB.out | apply below_alloc | apply pw_below_drewN | apply below_drew1 | refine below_set ?_ GE338.out | refine below_set ?_ GE369.out) | exact HB.out)) hb); have n6_ := Aside0.mk (hbox); have n7_ := Aside0.mk ((by rw [hg]; exact (below_size (by repeat (first | (with_reducible first | exact HB.out | apply below_alloc | apply pw_below_drewN | apply below_drew1 | refine below_set ?_ GE338.out | refine below_set ?_ GE369.out) | exact HB.out))) : w.heap.size ≤ gb377)); have n8_ := Aside0.mk ((by rw [hg]; exact (below_size (by repeat (first | (with_reducible first | exact HB.out | apply below_alloc | apply pw_below_drewN | apply below_drew1 | refine below_set ?_ GE338.out | refine below_set ?_ GE369.out) | exact HB.out))) : w.heap.size ≤ gb377)); have n9_ := Aside0.mk ((by rw [hg]; exact Nat.ne_of_lt (blk_lt (g := gb338) (o := .cells #[.int .u16 t330, .int .u16 t331] 47 (0, 0)) (by (with_reducible repeat (first | refine blk_drewN ?_ _ | refine blk_drew ?_ | refine blk_alloc ?_ _)); exact BK338.out)) : gb338 ≠ gb377)); have n10_ := Aside0.mk ((by rw [hg]; exact Nat.ne_of_gt (blk_lt (g := gb338) (o := .cells #[.int .u16 t330, .int .u16 t331] 47 (0, 0)) (by (with_reducible repeat (first | refine blk_drewN ?_ _ | refine blk_drew ?_ | refine blk_alloc ?_ _)); exact BK338.out)) : gb377 ≠ gb338)); have n11_ := Aside0.mk ((by rw [hg]; exact Nat.ne_of_lt (blk_lt (g := gb369) (o := .cells #[.int .u16 t366, .int .u16 t367] 47 (0, 0)) (by (with_reducible repeat (first | refine blk_drewN ?_ _ | refine blk_drew ?_ | refine blk_alloc ?_ _)); exact BK369.out)) : gb369 ≠ gb377)); have n12_ := Aside0.mk ((by rw [hg]; exact Nat.ne_of_gt (blk_lt (g := gb369) (o := .cells #[.int .u16 t366, .int .u16 t367] 47 (0, 0)) (by (with_reducible repeat (first | refine blk_drewN ?_ _ | refine blk_drew ?_ | refine blk_alloc ?_ _)); exact BK369.out)) : gb377 ≠ gb369)); clear HO_4; clear HO363; clear HO372; clear BK338; clear BK369; clear HB; have HO_4 := n0_; have HO363 := n1_; have HO372 := n2_; have BK338 := n3_; have BK369 := n4_; have HB := n5_; have BK377 := n6_; have GW377 := n7_; have GE377 := n8_; have NB338_377 := n9_; have NB377_338 := n10_; have NB369_377 := n11_; have NB377_369 := n12_; clear n0_ n1_ n2_ n3_ n4_ n5_ n6_ n7_ n8_ n9_ n10_ n11_ n12_; clear hb hbox hg; have hnb79 := NB377_338.out; have hnc79 := NB338_377.out; have hnb80 := NB377_369.out; have hnc80 := NB369_377.out; have hcz81_0 : w78.cell? ⟨gb377, 0, none⟩ = some (.int .u16 0) := (blk_cell BK377.out 0).trans rfl; have hcz81_1 : w78.cell? ⟨gb377, 1, none⟩ = some (.int .u16 0) := (blk_cell BK377.out 1).trans rfl; have hfz81_0 := blk_frozen BK377.out 0; have hfz81_1 := blk_frozen BK377.out 1) | ((with_reducible refine gate_dst (N := 86) rfl ?_); (try (refine gate_guard (by rfl) ?_; dsimp only)); refine Kd.R_lit (Kd.int .u8) _ 5 ?hg (N := 86) ?hd (xs := ([255, 247, 0, 0, 0, 8, 255, 255] : List Int)) (inner := [.int .u8 255, .int .u8 247, .int .u8 0, .int .u8 0, .int .u8 0, .int .u8 8, .int .u8 255, .int .u8 255]) (ok := fun _ => True) (okp := fun _ => True) ?hr ?hp (fun _ hk => hk) trivial (Below.refl _ _) (Nat.le_refl _) (by simp) ?_; (case hd => rfl); (case hg => rfl); (case hr => first | (go_simp; done) | (go_simp; rfl)); (case hp => exact (Reps.one (show Kd.M (Kd.int .u8) _ _ _ 255 [.int .u8 255] from rfl) (Reps.one (show Kd.M (Kd.int .u8) _ _ _ 247 [.int .u8 247] from rfl) (Reps.one (show Kd.M (Kd.int .u8) _ _ _ 0 [.int .u8 0] from rfl) (Reps.one (show Kd.M (Kd.int .u8) _ _ _ 0 [.int .u8 0] from rfl) (Reps.one (show Kd.M (Kd.int .u8) _ _ _ 0 [.int .u8 0] from rfl) (Reps.one (show Kd.M (Kd.int .u8) _ _ _ 8 [.int .u8 8] from rfl) (Reps.one (show Kd.M (Kd.int .u8) _ _ _ 255 [.int .u8 255] from rfl) (Reps.one (show Kd.M (Kd.int .u8) _ _ _ 255 [.int .u8 255] from rfl) (Reps.none _ _)))))))))); intro v379 w82 ho83 hb hg_ hnew_; clear hg_ hnew_; (first | rw [← Ny378.out] at ho83 | (simp only [Int.reduceToNat] at ho83; rw [← Ny378.out] at ho83)); have n0_ := Aside0.mk (Kd.R_elder' (by (with_reducible repeat (first | apply Kd.R_alloc | apply Kd.R_drewN | apply Kd.R_drew)); exact (Kd.R_mono (Kd.R_far (p := ⟨gb377, 1, none⟩) (Kd.R_far (p := ⟨gb377, 0, none⟩) (Kd.R_types HO_4.out BK377.out (by decide)) (fun _ hk => hk.2) (.int .u16 t374)) (fun _ hk => hk.2) (.int .u16 t375)) (fun _ h_ => h_.1))) (Kd.R_base ho83) hb); have n1_ := Aside0.mk (Kd.R_elder' (by (with_reducible repeat (first | apply Kd.R_alloc | apply Kd.R_drewN | apply Kd.R_drew)); exact (Kd.R_mono (Kd.R_far (p := ⟨gb377, 1, none⟩) (Kd.R_far (p := ⟨gb377, 0, none⟩) (Kd.R_types HO363.out BK377.out (by decide)) (fun _ hk => hk.2) (.int .u16 t374)) (fun _ hk => hk.2) (.int .u16 t375)) (fun _ h_ => h_.1))) (Kd.R_base ho83) hb); have n2_ := Aside0.mk (Kd.R_elder' (by (with_reducible repeat (first | apply Kd.R_alloc | apply Kd.R_drewN | apply Kd.R_drew)); exact (Kd.R_mono (Kd.R_far (p := ⟨gb377, 1, none⟩) (Kd.R_far (p := ⟨gb377, 0, none⟩) (Kd.R_types HO372.out BK377.out (by decide)) (fun _ hk => hk.2) (.int .u16 t374)) (fun _ hk => hk.2) (.int .u16 t375)) (fun _ h_ => h_.1))) (Kd.R_base ho83) hb); have n3_ := Aside0.mk (Kd.R_lower (Kd.R_new' (Kd.R_new' (Kd.R_new' ho83 (Kd.R_lt (by (with_reducible repeat (first | apply Kd.R_alloc | apply Kd.R_drewN | apply Kd.R_drew)); exact (Kd.R_mono (Kd.R_far (p := ⟨gb377, 1, none⟩) (Kd.R_far (p := ⟨gb377, 0, none⟩) (Kd.R_types HO_4.out BK377.out (by decide)) (fun _ hk => hk.2) (.int .u16 t374)) (fun _ hk => hk.2) (.int .u16 t375)) (fun _ h_ => h_.1))))) (Kd.R_lt (by (with_reducible repeat (first | apply Kd.R_alloc | apply Kd.R_drewN | apply Kd.R_drew)); exact (Kd.R_mono (Kd.R_far (p := ⟨gb377, 1, none⟩) (Kd.R_far (p := ⟨gb377, 0, none⟩) (Kd.R_types HO363.out BK377.out (by decide)) (fun _ hk => hk.2) (.int .u16 t374)) (fun _ hk => hk.2) (.int .u16 t375)) (fun _ h_ => h_.1))))) (Kd.R_lt (by (with_reducible repeat (first | apply Kd.R_alloc | apply Kd.R_drewN | apply Kd.R_drew)); exact (Kd.R_mono (Kd.R_far (p := ⟨gb377, 1, none⟩) (Kd.R_far (p := ⟨gb377, 0, none⟩) (Kd.R_types HO372.out BK377.out (by decide)) (fun _ hk => hk.2) (.int .u16 t374)) (fun _ hk => hk.2) (.int .u16 t375)) (fun _ h_ => h_.1))))) (below_size (by repeat (first | (with_reducible first | exact HB.out | apply below_alloc | apply pw_below_drewN | apply below_drew1 | refine below_set ?_ GE338.out | refine below_set ?_ GE369.out | refine below_set ?_ GE377.out) | exact HB.out)))); have n4_ := Aside0.mk (blk_below (g := gb338) (o := .cells #[.int .u16 t330, .int .u16 t331] 47 (0, 0)) (by (with_reducible repeat (first | refine blk_drewN ?_ _ | refine blk_drew ?_ | refine blk_alloc ?_ _)); refine blk_far ?_ NB338_377.out _; (with_reducible repeat (first | refine blk_drewN ?_ _ | refine blk_drew ?_ | refine blk_alloc ?_ _)); refine blk_far ?_ NB338_377.out _; (with_reducible repeat (first | refine blk_drewN ?_ _ | refine blk_drew ?_ | refine blk_alloc ?_ _)); exact BK338.out) hb); have n5_ := Aside0.mk (blk_below (g := gb369) (o := .cells #[.int .u16 t366, .int .u16 t367] 47 (0, 0)) (by (with_reducible repeat (first | refine blk_drewN ?_ _ | refine blk_drew ?_ | refine blk_alloc ?_ _)); refine blk_far ?_ NB369_377.out _; (with_reducible repeat (first | refine blk_drewN ?_ _ | refine blk_drew ?_ | refine blk_alloc ?_ _)); refine blk_far ?_ NB369_377.out _; (with_reducible repeat (first | refine blk_drewN ?_ _ | refine blk_drew ?_ | refine blk_alloc ?_ _)); exact BK369.out) hb); have n6_ := Aside0.mk (blk_below (g := gb377) (o := .cells #[.int .u16 t374, .int .u16 t375] 47 (0, 0)) (by (with_reducible repeat (first | refine blk_drewN ?_ _ | refine blk_drew ?_ | refine blk_alloc ?_ _)); refine blk_put (cs := #[.int .u16 t374, .int .u16 0]) ?_ 1 _ rfl; (with_reducible repeat (first | refine blk_drewN ?_ _ | refine blk_drew ?_ | refine blk_alloc ?_ _)); refine blk_put (cs := #[.int .u16 0, .int .u16 0]) ?_ 0 _ rfl; (with_reducible repeat (first | refine blk_drewN ?_ _ | refine blk_drew ?_ | refine blk_alloc ?_ _)); exact BK377.out) hb); have n7_ := Aside0.mk (below_step (by repeat (first | (with_reducible first | exact HB.out | apply below_alloc | apply pw_below_drewN | apply below_drew1 | refine below_set ?_ GE338.out | refine below_set ?_ GE369.out | refine below_set ?_ GE377.out) | exact HB.out)) hb); clear HO_4; clear HO363; clear HO372; clear BK338; clear BK369; clear BK377; clear HB; have HO_4 := n0_; have HO363 := n1_; have HO372 := n2_; have HO380 := n3_; have BK338 := n4_; have BK369 := n5_; have BK377 := n6_; have HB := n7_; clear n0_ n1_ n2_ n3_ n4_ n5_ n6_ n7_; clear hb ho83; obtain ⟨Ao84, co84, eo84⟩ := Kd.R_slice HO380.out; subst eo84) | (go_at_call 25; (with_reducible refine (sallyportref00_EqBytes.calls k1 _ _ t370 _ _ y378 true _ ?side1 ?side2 ?side3 ?side4 A47.out).mono ?_); (case side1 => repeat (first | exact (Kd.R_reads' HO372.out).2.2 | (with_reducible refine Kd.C_alloc ?_ _) | (with_reducible refine Kd.C_drewN ?_ _) | (with_reducible refine Kd.C_drew ?_))); (case side2 => exact (Kd.R_reads' HO372.out).2.1); (case side3 => repeat (first | exact (Kd.R_reads' HO380.out).2.2 | (with_reducible refine Kd.C_alloc ?_ _) | (with_reducible refine Kd.C_drewN ?_ _) | (with_reducible refine Kd.C_drew ?_))); (case side4 => exact (Kd.R_reads' HO380.out).2.1); rintro e w' ⟨rfl, ⟨nd, rfl⟩⟩; have hcz85_0 : w82.cell? ⟨gb377, 0, none⟩ = some (.int .u16 t374) := (blk_cell BK377.out 0).trans rfl; have hcz85_1 : w82.cell? ⟨gb377, 1, none⟩ = some (.int .u16 t375) := (blk_cell BK377.out 1).trans rfl; have hfz85_0 := blk_frozen BK377.out 0; have hfz85_1 := blk_frozen BK377.out 1))
                                      (try (rw [drewN_self w82]; generalize hq_ : World.drewN w82 _ = w82; have n0_ : Aside0 (Kd.R (Kd.int .u8) 5 w82 w.heap.size (fun k_ => some k_ ≠ (.slice Ao76 t370.length co76 : Value).ownBlock ∧ some k_ ≠ (.slice Ao84 y378.length co84 : Value).ownBlock ∧ some k_ ≠ (.slice Ao65 x4_1.length co65 : Value).ownBlock) (.slice (some ⟨go39, 0, none⟩) t361.length co39) y365) := ⟨by rw [← hq_]; exact (by (with_reducible repeat (first | apply Kd.R_alloc | apply Kd.R_drewN | apply Kd.R_drew)); exact Kd.R_mono HO363.out (fun _ hk => by first | exact ⟨hk.1.2, ⟨hk.2, hk.1.1⟩⟩ | exact hk | (simp [hk]; done)))⟩; have n1_ : Aside0 (Kd.R (Kd.int .u8) 5 w82 w.heap.size (fun k_ => some k_ ≠ (.slice (some ⟨go39, 0, none⟩) t361.length co39 : Value).ownBlock ∧ some k_ ≠ (.slice Ao84 y378.length co84 : Value).ownBlock ∧ some k_ ≠ (.slice Ao65 x4_1.length co65 : Value).ownBlock) (.slice Ao76 t370.length co76) t370) := ⟨by rw [← hq_]; exact (by (with_reducible repeat (first | apply Kd.R_alloc | apply Kd.R_drewN | apply Kd.R_drew)); exact Kd.R_mono HO372.out (fun _ hk => by first | exact ⟨hk.1.2, ⟨hk.2, hk.1.1.2⟩⟩ | exact hk | (simp [hk]; done)))⟩; have n2_ : Aside0 (Kd.R (Kd.int .u8) 5 w82 w.heap.size (fun k_ => some k_ ≠ (.slice (some ⟨go39, 0, none⟩) t361.length co39 : Value).ownBlock ∧ some k_ ≠ (.slice Ao76 t370.length co76 : Value).ownBlock ∧ some k_ ≠ (.slice Ao65 x4_1.length co65 : Value).ownBlock) (.slice Ao84 y378.length co84) y378) := ⟨by rw [← hq_]; exact (by (with_reducible repeat (first | apply Kd.R_alloc | apply Kd.R_drewN | apply Kd.R_drew)); exact Kd.R_mono HO380.out (fun _ hk => by first | exact ⟨hk.1.2, ⟨hk.2, hk.1.1.2⟩⟩ | exact hk | (simp [hk]; done)))⟩; have n3_ : Aside0 (Kd.R (Kd.int .u8) 5 w82 w.heap.size (fun k_ => some k_ ≠ (.slice (some ⟨go39, 0, none⟩) t361.length co39 : Value).ownBlock ∧ some k_ ≠ (.slice Ao76 t370.length co76 : Value).ownBlock ∧ some k_ ≠ (.slice Ao84 y378.length co84 : Value).ownBlock) (.slice Ao65 x4_1.length co65) x4_1) := ⟨by rw [← hq_]; exact (by (with_reducible repeat (first | apply Kd.R_alloc | apply Kd.R_drewN | apply Kd.R_drew)); exact Kd.R_mono HO_4.out (fun _ hk => by first | exact ⟨hk.1.1.2, ⟨hk.1.2, hk.2⟩⟩ | exact hk | (simp [hk]; done)))⟩; have n4_ : Aside0 (w82.heap[gb338]? = some (.cells #[.int .u16 t330, .int .u16 t331] 47 (0, 0))) := ⟨by rw [← hq_]; exact (by (with_reducible repeat (first | refine blk_drewN ?_ _ | refine blk_drew ?_ | refine blk_alloc ?_ _)); exact BK338.out)⟩; have n5_ : Aside0 (w82.heap[gb369]? = some (.cells #[.int .u16 t366, .int .u16 t367] 47 (0, 0))) := ⟨by rw [← hq_]; exact (by (with_reducible repeat (first | refine blk_drewN ?_ _ | refine blk_drew ?_ | refine blk_alloc ?_ _)); exact BK369.out)⟩; have n6_ : Aside0 (w82.heap[gb377]? = some (.cells #[.int .u16 t374, .int .u16 t375] 47 (0, 0))) := ⟨by rw [← hq_]; exact (by (with_reducible repeat (first | refine blk_drewN ?_ _ | refine blk_drew ?_ | refine blk_alloc ?_ _)); exact BK377.out)⟩; have n7_ : Aside0 (Below w.heap.size w w82) := ⟨by rw [← hq_]; exact (by repeat (first | (with_reducible first | exact HB.out | apply below_alloc | apply pw_below_drewN | apply below_drew1 | refine below_set ?_ GE338.out | refine below_set ?_ GE369.out | refine below_set ?_ GE377.out) | exact HB.out))⟩; clear HO363 HO372 HO380 HO_4 BK338 BK369 BK377 HB hq_; have HO363 := n0_; have HO372 := n1_; have HO380 := n2_; have HO_4 := n3_; have BK338 := n4_; have BK369 := n5_; have BK377 := n6_; have HB := n7_; clear n0_ n1_ n2_ n3_ n4_ n5_ n6_ n7_))
                                      have n0_ := Aside0.mk (Kd.R_drew HO_4.out)
                                      have n1_ := Aside0.mk (Kd.R_drew HO363.out)
                                      have n2_ := Aside0.mk (Kd.R_drew HO372.out)
                                      have n3_ := Aside0.mk (Kd.R_drew HO380.out)
                                      have n4_ := Aside0.mk (blk_drew BK338.out)
                                      have n5_ := Aside0.mk (blk_drew BK369.out)
                                      have n6_ := Aside0.mk (blk_drew BK377.out)
                                      have n7_ := Aside0.mk (below_drew1 HB.out)
                                      clear HO_4
                                      clear HO363
                                      clear HO372
                                      clear HO380
                                      clear BK338
                                      clear BK369
                                      clear BK377
                                      clear HB
                                      have HO_4 := n0_
                                      have HO363 := n1_
                                      have HO372 := n2_
                                      have HO380 := n3_
                                      have BK338 := n4_
                                      have BK369 := n5_
                                      have BK377 := n6_
                                      have HB := n7_
                                      clear n0_ n1_ n2_ n3_ n4_ n5_ n6_ n7_
                                      refine start_ (n := 27) (S := fun w' => w'.cell? ⟨gb338, 0, none⟩ = some (.int .u16 t330) ∧ w'.cell? ⟨gb338, 1, none⟩ = some (.int .u16 t331)) (ds := []) #[false, false, false, false, false, false, false, false, false, false, false, false, false, false, false, false, false, false, false, false, false, false, false, false, false, false, false] (by kernel_rfl) rfl rfl ⟨(blk_cell BK338.out 0).trans rfl, (blk_cell BK338.out 1).trans rfl⟩ (fun hHeld => ?_); refine with_tabW sallyportlaw10_DgramNames.tab18 sallyportlaw10_DgramNames.bits18 (fun HT_ HW_ => ?_)
                                      generalize w82.drew = w86 at HO_4 HO363 HO372 HO380 BK338 BK369 BK377 HB hHeld ⊢
                                      refine pure_ (i := 0) (N := some 99) (v := ?_) (a' := ?_) #[true, false, false, false, false, false, false, false, false, false, false, false, false, false, false, false, false, false, false, false, false, false, false, false, false, false, false] rfl rfl (any_of HT_.out (by kernel_rfl)) (fun _ _ _ h => h) (Or.inl ⟨by rfl, ?_⟩) ?_ ?_
                                      rotate_left
                                      · intro w'
                                        go_simp
                                        with_reducible rfl
                                      rotate_left
                                      · simp only [Act.put, List.setIfInBounds_toArray, List.set_cons_zero, List.set_cons_succ, i64_w, i32_w]
                                        rfl
                                      refine one_ (i := 1) (N := some 100) #[true, true, false, false, false, false, false, false, false, false, false, false, false, false, false, false, false, false, false, false, false, false, false, false, false, false, false] rfl rfl (one_of HT_.out (by kernel_rfl)) (by decide) (fun K hK => ?_)
                                      refine goes_ Try.func38 (by kernel_rfl) rfl #[] (by rfl) rfl rfl (by (try simp only [List.map_toArray, List.map_cons, List.map_nil]); first | done | rfl | (simp only [List.length_drop, List.length_take]; rfl)) ?_
                                      with_reducible refine (sallyportlaw10_awake.calls k1  true ⟨by first | rfl | exact hr_.out⟩ _ A51.out).mono ?_
                                      rintro e w87 ⟨rfl, hb⟩
                                      refine ⟨_, rfl, ?_⟩
                                      have n0_ := Aside0.mk (Kd.R_below (by (with_reducible repeat (first | apply Kd.R_alloc | apply Kd.R_drewN | apply Kd.R_drew)); exact HO_4.out) hb)
                                      have n1_ := Aside0.mk (Kd.R_below (by (with_reducible repeat (first | apply Kd.R_alloc | apply Kd.R_drewN | apply Kd.R_drew)); exact HO363.out) hb)
                                      have n2_ := Aside0.mk (Kd.R_below (by (with_reducible repeat (first | apply Kd.R_alloc | apply Kd.R_drewN | apply Kd.R_drew)); exact HO372.out) hb)
                                      have n3_ := Aside0.mk (Kd.R_below (by (with_reducible repeat (first | apply Kd.R_alloc | apply Kd.R_drewN | apply Kd.R_drew)); exact HO380.out) hb)
                                      have n4_ := Aside0.mk (blk_below (g := gb338) (o := .cells #[.int .u16 t330, .int .u16 t331] 47 (0, 0)) (by (with_reducible repeat (first | refine blk_drewN ?_ _ | refine blk_drew ?_ | refine blk_alloc ?_ _)); exact BK338.out) hb)
                                      have n5_ := Aside0.mk (blk_below (g := gb369) (o := .cells #[.int .u16 t366, .int .u16 t367] 47 (0, 0)) (by (with_reducible repeat (first | refine blk_drewN ?_ _ | refine blk_drew ?_ | refine blk_alloc ?_ _)); exact BK369.out) hb)
                                      have n6_ := Aside0.mk (blk_below (g := gb377) (o := .cells #[.int .u16 t374, .int .u16 t375] 47 (0, 0)) (by (with_reducible repeat (first | refine blk_drewN ?_ _ | refine blk_drew ?_ | refine blk_alloc ?_ _)); exact BK377.out) hb)
                                      have n7_ := Aside0.mk (below_step (by repeat (first | (with_reducible first | exact HB.out | apply below_alloc | apply pw_below_drewN | apply below_drew1 | refine below_set ?_ GE338.out | refine below_set ?_ GE369.out | refine below_set ?_ GE377.out) | exact HB.out)) hb)
                                      clear HO_4
                                      clear HO363
                                      clear HO372
                                      clear HO380
                                      clear BK338
                                      clear BK369
                                      clear BK377
                                      clear HB
                                      have HO_4 := n0_
                                      have HO363 := n1_
                                      have HO372 := n2_
                                      have HO380 := n3_
                                      have BK338 := n4_
                                      have BK369 := n5_
                                      have BK377 := n6_
                                      have HB := n7_
                                      clear n0_ n1_ n2_ n3_ n4_ n5_ n6_ n7_
                                      (try clear hb)
                                      (try clear hb2)
                                      (try clear hk)
                                      (try clear hi)
                                      refine hK.out _ _ ⟨(blk_cell BK338.out 0).trans rfl, (blk_cell BK338.out 1).trans rfl⟩ (fun hHeld => ?_)
                                      clear hK K
                                      refine norm_ (a' := ?_) ?_ ?_
                                      rotate_left
                                      · show Act.put _ (some 100) _ = _
                                        simp only [Act.put, List.setIfInBounds_toArray, List.set_cons_zero, List.set_cons_succ, i64_w, i32_w]
                                        rfl
                                      refine pure_ (i := 2) (N := some 101) (v := ?_) (a' := ?_) #[true, true, true, false, false, false, false, false, false, false, false, false, false, false, false, false, false, false, false, false, false, false, false, false, false, false, false] rfl rfl (any_of HT_.out (by kernel_rfl)) (fun _ _ _ h => h) (Or.inl ⟨by rfl, ?_⟩) ?_ ?_
                                      rotate_left
                                      · intro w'
                                        go_simp
                                        with_reducible rfl
                                      rotate_left
                                      · simp only [Act.put, List.setIfInBounds_toArray, List.set_cons_zero, List.set_cons_succ, i64_w, i32_w]
                                        rfl
                                      refine pure_ (i := 3) (N := some 102) (v := ?_) (a' := ?_) #[true, true, true, true, false, false, false, false, false, false, false, false, false, false, false, false, false, false, false, false, false, false, false, false, false, false, false] rfl rfl (any_of HT_.out (by kernel_rfl)) (fun _ _ _ h => h) (Or.inl ⟨by rfl, ?_⟩) ?_ ?_
                                      rotate_left
                                      · intro w'
                                        go_simp
                                        with_reducible rfl
                                      rotate_left
                                      · simp only [Act.put, List.setIfInBounds_toArray, List.set_cons_zero, List.set_cons_succ, i64_w, i32_w]
                                        rfl
                                      refine take_ (i := 4) (N := some 103) (v := ?_) (a' := ?_) #[true, true, true, true, true, false, false, false, false, false, false, false, false, false, false, false, false, false, false, false, false, false, false, false, false, false, false] rfl rfl (take_ofW HT_.out HW_.out (by kernel_rfl)) (fun _ _ _ h => h) (Or.inl ⟨by rfl, ?_⟩) hHeld ?_ ?_
                                      rotate_left
                                      · rintro w' ⟨s0, s1⟩
                                        go_simp
                                        with_reducible rfl
                                      rotate_left
                                      · simp only [Act.put, List.setIfInBounds_toArray, List.set_cons_zero, List.set_cons_succ, i64_w, i32_w]
                                        rfl
                                      refine one_ (i := 5) (N := some 104) #[true, true, true, true, true, true, false, false, false, false, false, false, false, false, false, false, false, false, false, false, false, false, false, false, false, false, false] rfl rfl (one_of HT_.out (by kernel_rfl)) (by decide) (fun K hK => ?_)
                                      refine Kd.R_make_step (Kd.int .u8) _ 5 (by rfl) (N := 104) rfl 26 _ _ rfl 2040 rfl rfl Try.underlying26 (.int .u8 0) 1 info5 rfl (by decide) (by omega) 0 (ok := fun _ => True) (okp := fun _ => True) rfl (fun _ hk => hk) trivial (by omega) (by omega) (Below.refl _ _) (Nat.le_refl _) ?_
                                      intro v384 w88 ho89 hb hg_ hnew_
                                      clear hg_ hnew_
                                      (first | rw [← Ny383.out] at ho89 | (simp only [Int.reduceToNat] at ho89; rw [← Ny383.out] at ho89))
                                      have n0_ := Aside0.mk (Kd.R_elder' (by (with_reducible repeat (first | apply Kd.R_alloc | apply Kd.R_drewN | apply Kd.R_drew)); exact HO_4.out) (Kd.R_base ho89) hb)
                                      have n1_ := Aside0.mk (Kd.R_elder' (by (with_reducible repeat (first | apply Kd.R_alloc | apply Kd.R_drewN | apply Kd.R_drew)); exact HO363.out) (Kd.R_base ho89) hb)
                                      have n2_ := Aside0.mk (Kd.R_elder' (by (with_reducible repeat (first | apply Kd.R_alloc | apply Kd.R_drewN | apply Kd.R_drew)); exact HO372.out) (Kd.R_base ho89) hb)
                                      have n3_ := Aside0.mk (Kd.R_elder' (by (with_reducible repeat (first | apply Kd.R_alloc | apply Kd.R_drewN | apply Kd.R_drew)); exact HO380.out) (Kd.R_base ho89) hb)
                                      have n4_ := Aside0.mk (Kd.R_lower (Kd.R_new' (Kd.R_new' (Kd.R_new' (Kd.R_new' ho89 (Kd.R_lt (by (with_reducible repeat (first | apply Kd.R_alloc | apply Kd.R_drewN | apply Kd.R_drew)); exact HO_4.out))) (Kd.R_lt (by (with_reducible repeat (first | apply Kd.R_alloc | apply Kd.R_drewN | apply Kd.R_drew)); exact HO363.out))) (Kd.R_lt (by (with_reducible repeat (first | apply Kd.R_alloc | apply Kd.R_drewN | apply Kd.R_drew)); exact HO372.out))) (Kd.R_lt (by (with_reducible repeat (first | apply Kd.R_alloc | apply Kd.R_drewN | apply Kd.R_drew)); exact HO380.out))) (below_size (by repeat (first | (with_reducible first | exact HB.out | apply below_alloc | apply pw_below_drewN | apply below_drew1 | refine below_set ?_ GE338.out | refine below_set ?_ GE369.out | refine below_set ?_ GE377.out) | exact HB.out))))
                                      have n5_ := Aside0.mk (blk_below (g := gb338) (o := .cells #[.int .u16 t330, .int .u16 t331] 47 (0, 0)) (by (with_reducible repeat (first | refine blk_drewN ?_ _ | refine blk_drew ?_ | refine blk_alloc ?_ _)); exact BK338.out) hb)
                                      have n6_ := Aside0.mk (blk_below (g := gb369) (o := .cells #[.int .u16 t366, .int .u16 t367] 47 (0, 0)) (by (with_reducible repeat (first | refine blk_drewN ?_ _ | refine blk_drew ?_ | refine blk_alloc ?_ _)); exact BK369.out) hb)
                                      have n7_ := Aside0.mk (blk_below (g := gb377) (o := .cells #[.int .u16 t374, .int .u16 t375] 47 (0, 0)) (by (with_reducible repeat (first | refine blk_drewN ?_ _ | refine blk_drew ?_ | refine blk_alloc ?_ _)); exact BK377.out) hb)
                                      have n8_ := Aside0.mk (below_step (by repeat (first | (with_reducible first | exact HB.out | apply below_alloc | apply pw_below_drewN | apply below_drew1 | refine below_set ?_ GE338.out | refine below_set ?_ GE369.out | refine below_set ?_ GE377.out) | exact HB.out)) hb)
                                      clear HO_4
                                      clear HO363
                                      clear HO372
                                      clear HO380
                                      clear BK338
                                      clear BK369
                                      clear BK377
                                      clear HB
                                      have HO_4 := n0_
                                      have HO363 := n1_
                                      have HO372 := n2_
                                      have HO380 := n3_
                                      have HO385 := n4_
                                      have BK338 := n5_
                                      have BK369 := n6_
                                      have BK377 := n7_
                                      have HB := n8_
                                      clear n0_ n1_ n2_ n3_ n4_ n5_ n6_ n7_ n8_
                                      clear hb ho89
                                      obtain ⟨Ao90, co90, eo90⟩ := Kd.R_slice HO385.out
                                      (first | subst eo90 | (injection eo90 with f1_ f2_ f3_; have f4_ := f1_.symm; have f5_ := f3_.symm; clear f1_ f2_ f3_; subst f4_; subst f5_))
                                      refine hK.out _ _ ⟨(blk_cell BK338.out 0).trans rfl, (blk_cell BK338.out 1).trans rfl⟩ (fun hHeld => ?_)
                                      clear hK K
                                      refine norm_ (a' := ?_) ?_ ?_
                                      rotate_left
                                      · show Act.put _ (some 104) _ = _
                                        simp only [Act.put, List.setIfInBounds_toArray, List.set_cons_zero, List.set_cons_succ, i64_w, i32_w]
                                        rfl
                                      refine one_ (i := 6) (N := some 105) #[true, true, true, true, true, true, true, false, false, false, false, false, false, false, false, false, false, false, false, false, false, false, false, false, false, false, false] rfl rfl (one_of HT_.out (by kernel_rfl)) (by decide) (fun K hK => ?_)
                                      refine goes_ Try.func8 (by kernel_rfl) rfl #[.agg #[.int .u16 t330, .int .u16 t331], .slice Ao90 y383.length co90] (by rfl) rfl rfl (by (try simp only [List.map_toArray, List.map_cons, List.map_nil]); first | done | rfl | (simp only [List.length_drop, List.length_take]; rfl)) ?_
                                      with_reducible refine (sallyportlaw10_DgramBytes.calls k1 t330 t331 _ _ y383 true ⟨by first | rfl | exact hr_.out⟩ _ ?side1 ?side2 A54.out).mono ?_
                                      (case side1 => repeat (first | exact (Kd.R_reads' HO385.out).2.2 | (with_reducible refine Kd.C_alloc ?_ _) | (with_reducible refine Kd.C_drewN ?_ _) | (with_reducible refine Kd.C_drew ?_)))
                                      (case side2 => exact (Kd.R_reads' HO385.out).2.1)
                                      rintro e w91 ⟨rfl, hb⟩
                                      refine ⟨_, rfl, ?_⟩
                                      have n0_ := Aside0.mk (Kd.R_below (by (with_reducible repeat (first | apply Kd.R_alloc | apply Kd.R_drewN | apply Kd.R_drew)); exact HO_4.out) hb)
                                      have n1_ := Aside0.mk (Kd.R_below (by (with_reducible repeat (first | apply Kd.R_alloc | apply Kd.R_drewN | apply Kd.R_drew)); exact HO363.out) hb)
                                      have n2_ := Aside0.mk (Kd.R_below (by (with_reducible repeat (first | apply Kd.R_alloc | apply Kd.R_drewN | apply Kd.R_drew)); exact HO372.out) hb)
                                      have n3_ := Aside0.mk (Kd.R_below (by (with_reducible repeat (first | apply Kd.R_alloc | apply Kd.R_drewN | apply Kd.R_drew)); exact HO380.out) hb)
                                      have n4_ := Aside0.mk (Kd.R_below (by (with_reducible repeat (first | apply Kd.R_alloc | apply Kd.R_drewN | apply Kd.R_drew)); exact HO385.out) hb)
                                      have n5_ := Aside0.mk (blk_below (g := gb338) (o := .cells #[.int .u16 t330, .int .u16 t331] 47 (0, 0)) (by (with_reducible repeat (first | refine blk_drewN ?_ _ | refine blk_drew ?_ | refine blk_alloc ?_ _)); exact BK338.out) hb)
                                      have n6_ := Aside0.mk (blk_below (g := gb369) (o := .cells #[.int .u16 t366, .int .u16 t367] 47 (0, 0)) (by (with_reducible repeat (first | refine blk_drewN ?_ _ | refine blk_drew ?_ | refine blk_alloc ?_ _)); exact BK369.out) hb)
                                      have n7_ := Aside0.mk (blk_below (g := gb377) (o := .cells #[.int .u16 t374, .int .u16 t375] 47 (0, 0)) (by (with_reducible repeat (first | refine blk_drewN ?_ _ | refine blk_drew ?_ | refine blk_alloc ?_ _)); exact BK377.out) hb)
                                      have n8_ := Aside0.mk (below_step (by repeat (first | (with_reducible first | exact HB.out | apply below_alloc | apply pw_below_drewN | apply below_drew1 | refine below_set ?_ GE338.out | refine below_set ?_ GE369.out | refine below_set ?_ GE377.out) | exact HB.out)) hb)
                                      clear HO_4
                                      clear HO363
                                      clear HO372
                                      clear HO380
                                      clear HO385
                                      clear BK338
                                      clear BK369
                                      clear BK377
                                      clear HB
                                      have HO_4 := n0_
                                      have HO363 := n1_
                                      have HO372 := n2_
                                      have HO380 := n3_
                                      have HO385 := n4_
                                      have BK338 := n5_
                                      have BK369 := n6_
                                      have BK377 := n7_
                                      have HB := n8_
                                      clear n0_ n1_ n2_ n3_ n4_ n5_ n6_ n7_ n8_
                                      (try clear hb)
                                      (try clear hb2)
                                      (try clear hk)
                                      (try clear hi)
                                      refine hK.out _ _ ⟨(blk_cell BK338.out 0).trans rfl, (blk_cell BK338.out 1).trans rfl⟩ (fun hHeld => ?_)
                                      clear hK K
                                      refine norm_ (a' := ?_) ?_ ?_
                                      rotate_left
                                      · show Act.put _ (some 105) _ = _
                                        simp only [Act.put, List.setIfInBounds_toArray, List.set_cons_zero, List.set_cons_succ, i64_w, i32_w]
                                        rfl
                                      refine pure_ (i := 7) (N := some 106) (v := ?_) (a' := ?_) #[true, true, true, true, true, true, true, true, false, false, false, false, false, false, false, false, false, false, false, false, false, false, false, false, false, false, false] rfl rfl (any_of HT_.out (by kernel_rfl)) (fun _ _ _ h => h) (Or.inl ⟨by rfl, ?_⟩) ?_ ?_
                                      rotate_left
                                      · intro w'
                                        go_simp
                                        with_reducible rfl
                                      rotate_left
                                      · simp only [Act.put, List.setIfInBounds_toArray, List.set_cons_zero, List.set_cons_succ, i64_w, i32_w]
                                        rfl
                                      refine pure_ (i := 8) (N := some 107) (v := ?_) (a' := ?_) #[true, true, true, true, true, true, true, true, true, false, false, false, false, false, false, false, false, false, false, false, false, false, false, false, false, false, false] rfl rfl (any_of HT_.out (by kernel_rfl)) (fun _ _ _ h => h) (Or.inl ⟨by rfl, ?_⟩) ?_ ?_
                                      rotate_left
                                      · intro w'
                                        go_simp
                                        with_reducible rfl
                                      rotate_left
                                      · simp only [Act.put, List.setIfInBounds_toArray, List.set_cons_zero, List.set_cons_succ, i64_w, i32_w]
                                        rfl
                                      refine take_ (i := 9) (N := some 108) (v := ?_) (a' := ?_) #[true, true, true, true, true, true, true, true, true, true, false, false, false, false, false, false, false, false, false, false, false, false, false, false, false, false, false] rfl rfl (take_ofW HT_.out HW_.out (by kernel_rfl)) (fun _ _ _ h => h) (Or.inl ⟨by rfl, ?_⟩) hHeld ?_ ?_
                                      rotate_left
                                      · rintro w' ⟨s0, s1⟩
                                        go_simp
                                        with_reducible rfl
                                      rotate_left
                                      · simp only [Act.put, List.setIfInBounds_toArray, List.set_cons_zero, List.set_cons_succ, i64_w, i32_w]
                                        rfl
                                      refine one_ (i := 10) (N := some 109) #[true, true, true, true, true, true, true, true, true, true, true, false, false, false, false, false, false, false, false, false, false, false, false, false, false, false, false] rfl rfl (one_of HT_.out (by kernel_rfl)) (by decide) (fun K hK => ?_)
                                      refine Kd.R_make_step (Kd.int .u8) _ 5 (by rfl) (N := 109) rfl 26 _ _ rfl 2041 rfl rfl Try.underlying26 (.int .u8 0) 1 info5 rfl (by decide) (by omega) 0 (ok := fun _ => True) (okp := fun _ => True) rfl (fun _ hk => hk) trivial (by omega) (by omega) (Below.refl _ _) (Nat.le_refl _) ?_
                                      intro v388 w92 ho93 hb hg_ hnew_
                                      clear hg_ hnew_
                                      (first | rw [← Ny387.out] at ho93 | (simp only [Int.reduceToNat] at ho93; rw [← Ny387.out] at ho93))
                                      have n0_ := Aside0.mk (Kd.R_elder' (by (with_reducible repeat (first | apply Kd.R_alloc | apply Kd.R_drewN | apply Kd.R_drew)); exact HO_4.out) (Kd.R_base ho93) hb)
                                      have n1_ := Aside0.mk (Kd.R_elder' (by (with_reducible repeat (first | apply Kd.R_alloc | apply Kd.R_drewN | apply Kd.R_drew)); exact HO363.out) (Kd.R_base ho93) hb)
                                      have n2_ := Aside0.mk (Kd.R_elder' (by (with_reducible repeat (first | apply Kd.R_alloc | apply Kd.R_drewN | apply Kd.R_drew)); exact HO372.out) (Kd.R_base ho93) hb)
                                      have n3_ := Aside0.mk (Kd.R_elder' (by (with_reducible repeat (first | apply Kd.R_alloc | apply Kd.R_drewN | apply Kd.R_drew)); exact HO380.out) (Kd.R_base ho93) hb)
                                      have n4_ := Aside0.mk (Kd.R_elder' (by (with_reducible repeat (first | apply Kd.R_alloc | apply Kd.R_drewN | apply Kd.R_drew)); exact HO385.out) (Kd.R_base ho93) hb)
                                      have n5_ := Aside0.mk (Kd.R_lower (Kd.R_new' (Kd.R_new' (Kd.R_new' (Kd.R_new' (Kd.R_new' ho93 (Kd.R_lt (by (with_reducible repeat (first | apply Kd.R_alloc | apply Kd.R_drewN | apply Kd.R_drew)); exact HO_4.out))) (Kd.R_lt (by (with_reducible repeat (first | apply Kd.R_alloc | apply Kd.R_drewN | apply Kd.R_drew)); exact HO363.out))) (Kd.R_lt (by (with_reducible repeat (first | apply Kd.R_alloc | apply Kd.R_drewN | apply Kd.R_drew)); exact HO372.out))) (Kd.R_lt (by (with_reducible repeat (first | apply Kd.R_alloc | apply Kd.R_drewN | apply Kd.R_drew)); exact HO380.out))) (Kd.R_lt (by (with_reducible repeat (first | apply Kd.R_alloc | apply Kd.R_drewN | apply Kd.R_drew)); exact HO385.out))) (below_size (by repeat (first | (with_reducible first | exact HB.out | apply below_alloc | apply pw_below_drewN | apply below_drew1 | refine below_set ?_ GE338.out | refine below_set ?_ GE369.out | refine below_set ?_ GE377.out) | exact HB.out))))
                                      have n6_ := Aside0.mk (blk_below (g := gb338) (o := .cells #[.int .u16 t330, .int .u16 t331] 47 (0, 0)) (by (with_reducible repeat (first | refine blk_drewN ?_ _ | refine blk_drew ?_ | refine blk_alloc ?_ _)); exact BK338.out) hb)
                                      have n7_ := Aside0.mk (blk_below (g := gb369) (o := .cells #[.int .u16 t366, .int .u16 t367] 47 (0, 0)) (by (with_reducible repeat (first | refine blk_drewN ?_ _ | refine blk_drew ?_ | refine blk_alloc ?_ _)); exact BK369.out) hb)
                                      have n8_ := Aside0.mk (blk_below (g := gb377) (o := .cells #[.int .u16 t374, .int .u16 t375] 47 (0, 0)) (by (with_reducible repeat (first | refine blk_drewN ?_ _ | refine blk_drew ?_ | refine blk_alloc ?_ _)); exact BK377.out) hb)
                                      have n9_ := Aside0.mk (below_step (by repeat (first | (with_reducible first | exact HB.out | apply below_alloc | apply pw_below_drewN | apply below_drew1 | refine below_set ?_ GE338.out | refine below_set ?_ GE369.out | refine below_set ?_ GE377.out) | exact HB.out)) hb)
                                      clear HO_4
                                      clear HO363
                                      clear HO372
                                      clear HO380
                                      clear HO385
                                      clear BK338
                                      clear BK369
                                      clear BK377
                                      clear HB
                                      have HO_4 := n0_
                                      have HO363 := n1_
                                      have HO372 := n2_
                                      have HO380 := n3_
                                      have HO385 := n4_
                                      have HO389 := n5_
                                      have BK338 := n6_
                                      have BK369 := n7_
                                      have BK377 := n8_
                                      have HB := n9_
                                      clear n0_ n1_ n2_ n3_ n4_ n5_ n6_ n7_ n8_ n9_
                                      clear hb ho93
                                      obtain ⟨Ao94, co94, eo94⟩ := Kd.R_slice HO389.out
                                      (first | subst eo94 | (injection eo94 with f1_ f2_ f3_; have f4_ := f1_.symm; have f5_ := f3_.symm; clear f1_ f2_ f3_; subst f4_; subst f5_))
                                      refine hK.out _ _ ⟨(blk_cell BK338.out 0).trans rfl, (blk_cell BK338.out 1).trans rfl⟩ (fun hHeld => ?_)
                                      clear hK K
                                      refine norm_ (a' := ?_) ?_ ?_
                                      rotate_left
                                      · show Act.put _ (some 109) _ = _
                                        simp only [Act.put, List.setIfInBounds_toArray, List.set_cons_zero, List.set_cons_succ, i64_w, i32_w]
                                        rfl
                                      refine one_ (i := 11) (N := some 110) #[true, true, true, true, true, true, true, true, true, true, true, true, false, false, false, false, false, false, false, false, false, false, false, false, false, false, false] rfl rfl (one_of HT_.out (by kernel_rfl)) (by decide) (fun K hK => ?_)
                                      refine goes_ Try.func8 (by kernel_rfl) rfl #[.agg #[.int .u16 t330, .int .u16 t331], .slice Ao94 y387.length co94] (by rfl) rfl rfl (by (try simp only [List.map_toArray, List.map_cons, List.map_nil]); first | done | rfl | (simp only [List.length_drop, List.length_take]; rfl)) ?_
                                      with_reducible refine (sallyportlaw10_DgramBytes.calls k1 t330 t331 _ _ y387 true ⟨by first | rfl | exact hr_.out⟩ _ ?side1 ?side2 A57.out).mono ?_
                                      (case side1 => repeat (first | exact (Kd.R_reads' HO389.out).2.2 | (with_reducible refine Kd.C_alloc ?_ _) | (with_reducible refine Kd.C_drewN ?_ _) | (with_reducible refine Kd.C_drew ?_)))
                                      (case side2 => exact (Kd.R_reads' HO389.out).2.1)
                                      rintro e w95 ⟨rfl, hb⟩
                                      refine ⟨_, rfl, ?_⟩
                                      have n0_ := Aside0.mk (Kd.R_below (by (with_reducible repeat (first | apply Kd.R_alloc | apply Kd.R_drewN | apply Kd.R_drew)); exact HO_4.out) hb)
                                      have n1_ := Aside0.mk (Kd.R_below (by (with_reducible repeat (first | apply Kd.R_alloc | apply Kd.R_drewN | apply Kd.R_drew)); exact HO363.out) hb)
                                      have n2_ := Aside0.mk (Kd.R_below (by (with_reducible repeat (first | apply Kd.R_alloc | apply Kd.R_drewN | apply Kd.R_drew)); exact HO372.out) hb)
                                      have n3_ := Aside0.mk (Kd.R_below (by (with_reducible repeat (first | apply Kd.R_alloc | apply Kd.R_drewN | apply Kd.R_drew)); exact HO380.out) hb)
                                      have n4_ := Aside0.mk (Kd.R_below (by (with_reducible repeat (first | apply Kd.R_alloc | apply Kd.R_drewN | apply Kd.R_drew)); exact HO385.out) hb)
                                      have n5_ := Aside0.mk (Kd.R_below (by (with_reducible repeat (first | apply Kd.R_alloc | apply Kd.R_drewN | apply Kd.R_drew)); exact HO389.out) hb)
                                      have n6_ := Aside0.mk (blk_below (g := gb338) (o := .cells #[.int .u16 t330, .int .u16 t331] 47 (0, 0)) (by (with_reducible repeat (first | refine blk_drewN ?_ _ | refine blk_drew ?_ | refine blk_alloc ?_ _)); exact BK338.out) hb)
                                      have n7_ := Aside0.mk (blk_below (g := gb369) (o := .cells #[.int .u16 t366, .int .u16 t367] 47 (0, 0)) (by (with_reducible repeat (first | refine blk_drewN ?_ _ | refine blk_drew ?_ | refine blk_alloc ?_ _)); exact BK369.out) hb)
                                      have n8_ := Aside0.mk (blk_below (g := gb377) (o := .cells #[.int .u16 t374, .int .u16 t375] 47 (0, 0)) (by (with_reducible repeat (first | refine blk_drewN ?_ _ | refine blk_drew ?_ | refine blk_alloc ?_ _)); exact BK377.out) hb)
                                      have n9_ := Aside0.mk (below_step (by repeat (first | (with_reducible first | exact HB.out | apply below_alloc | apply pw_below_drewN | apply below_drew1 | refine below_set ?_ GE338.out | refine below_set ?_ GE369.out | refine below_set ?_ GE377.out) | exact HB.out)) hb)
                                      clear HO_4
                                      clear HO363
                                      clear HO372
                                      clear HO380
                                      clear HO385
                                      clear HO389
                                      clear BK338
                                      clear BK369
                                      clear BK377
                                      clear HB
                                      have HO_4 := n0_
                                      have HO363 := n1_
                                      have HO372 := n2_
                                      have HO380 := n3_
                                      have HO385 := n4_
                                      have HO389 := n5_
                                      have BK338 := n6_
                                      have BK369 := n7_
                                      have BK377 := n8_
                                      have HB := n9_
                                      clear n0_ n1_ n2_ n3_ n4_ n5_ n6_ n7_ n8_ n9_
                                      (try clear hb)
                                      (try clear hb2)
                                      (try clear hk)
                                      (try clear hi)
                                      refine hK.out _ _ ⟨(blk_cell BK338.out 0).trans rfl, (blk_cell BK338.out 1).trans rfl⟩ (fun hHeld => ?_)
                                      clear hK K
                                      refine norm_ (a' := ?_) ?_ ?_
                                      rotate_left
                                      · show Act.put _ (some 110) _ = _
                                        simp only [Act.put, List.setIfInBounds_toArray, List.set_cons_zero, List.set_cons_succ, i64_w, i32_w]
                                        rfl
                                      refine pure_ (i := 12) (N := some 111) (v := ?_) (a' := ?_) #[true, true, true, true, true, true, true, true, true, true, true, true, true, false, false, false, false, false, false, false, false, false, false, false, false, false, false] rfl rfl (any_of HT_.out (by kernel_rfl)) (fun _ _ _ h => h) (Or.inl ⟨by rfl, ?_⟩) ?_ ?_
                                      rotate_left
                                      · intro w'
                                        go_simp
                                        with_reducible rfl
                                      rotate_left
                                      · simp only [Act.put, List.setIfInBounds_toArray, List.set_cons_zero, List.set_cons_succ, i64_w, i32_w]
                                        rfl
                                      refine pure_ (i := 13) (N := some 112) (v := ?_) (a' := ?_) #[true, true, true, true, true, true, true, true, true, true, true, true, true, true, false, false, false, false, false, false, false, false, false, false, false, false, false] rfl rfl (any_of HT_.out (by kernel_rfl)) (fun _ _ _ h => h) (Or.inl ⟨by rfl, ?_⟩) ?_ ?_
                                      rotate_left
                                      · intro w'
                                        go_simp
                                        with_reducible rfl
                                      rotate_left
                                      · simp only [Act.put, List.setIfInBounds_toArray, List.set_cons_zero, List.set_cons_succ, i64_w, i32_w]
                                        rfl
                                      refine pure_ (i := 14) (N := some 113) (v := ?_) (a' := ?_) #[true, true, true, true, true, true, true, true, true, true, true, true, true, true, true, false, false, false, false, false, false, false, false, false, false, false, false] rfl rfl (any_of HT_.out (by kernel_rfl)) (fun _ _ _ h => h) (Or.inl ⟨by rfl, ?_⟩) ?_ ?_
                                      rotate_left
                                      · intro w'
                                        go_simp
                                        with_reducible rfl
                                      rotate_left
                                      · simp only [Act.put, List.setIfInBounds_toArray, List.set_cons_zero, List.set_cons_succ, i64_w, i32_w]
                                        rfl
                                      refine one_ (i := 15) (N := some 114) #[true, true, true, true, true, true, true, true, true, true, true, true, true, true, true, true, false, false, false, false, false, false, false, false, false, false, false] rfl rfl (one_of HT_.out (by kernel_rfl)) (by decide) (fun K hK => ?_)
                                      refine goes_ Try.func8 (by kernel_rfl) rfl #[.agg #[.int .u16 0, .int .u16 0], .slice none 0 0] (by rfl) rfl rfl (by (try simp only [List.map_toArray, List.map_cons, List.map_nil]); first | done | rfl | (simp only [List.length_drop, List.length_take]; rfl)) ?_
                                      refine (sallyportlaw10_DgramBytes.calls k1 0 0 _ _ ([] : List Int) true ⟨by first | rfl | exact hr_.out⟩ _ ?side1 ?side2 A59.out).mono ?_
                                      (case side1 => exact Kd.C_nil _ _)
                                      (case side2 => exact Nat.le_refl _)
                                      rintro e w96 ⟨rfl, hb⟩
                                      refine ⟨_, rfl, ?_⟩
                                      have n0_ := Aside0.mk (Kd.R_below (by (with_reducible repeat (first | apply Kd.R_alloc | apply Kd.R_drewN | apply Kd.R_drew)); exact HO_4.out) hb)
                                      have n1_ := Aside0.mk (Kd.R_below (by (with_reducible repeat (first | apply Kd.R_alloc | apply Kd.R_drewN | apply Kd.R_drew)); exact HO363.out) hb)
                                      have n2_ := Aside0.mk (Kd.R_below (by (with_reducible repeat (first | apply Kd.R_alloc | apply Kd.R_drewN | apply Kd.R_drew)); exact HO372.out) hb)
                                      have n3_ := Aside0.mk (Kd.R_below (by (with_reducible repeat (first | apply Kd.R_alloc | apply Kd.R_drewN | apply Kd.R_drew)); exact HO380.out) hb)
                                      have n4_ := Aside0.mk (Kd.R_below (by (with_reducible repeat (first | apply Kd.R_alloc | apply Kd.R_drewN | apply Kd.R_drew)); exact HO385.out) hb)
                                      have n5_ := Aside0.mk (Kd.R_below (by (with_reducible repeat (first | apply Kd.R_alloc | apply Kd.R_drewN | apply Kd.R_drew)); exact HO389.out) hb)
                                      have n6_ := Aside0.mk (blk_below (g := gb338) (o := .cells #[.int .u16 t330, .int .u16 t331] 47 (0, 0)) (by (with_reducible repeat (first | refine blk_drewN ?_ _ | refine blk_drew ?_ | refine blk_alloc ?_ _)); exact BK338.out) hb)
                                      have n7_ := Aside0.mk (blk_below (g := gb369) (o := .cells #[.int .u16 t366, .int .u16 t367] 47 (0, 0)) (by (with_reducible repeat (first | refine blk_drewN ?_ _ | refine blk_drew ?_ | refine blk_alloc ?_ _)); exact BK369.out) hb)
                                      have n8_ := Aside0.mk (blk_below (g := gb377) (o := .cells #[.int .u16 t374, .int .u16 t375] 47 (0, 0)) (by (with_reducible repeat (first | refine blk_drewN ?_ _ | refine blk_drew ?_ | refine blk_alloc ?_ _)); exact BK377.out) hb)
                                      have n9_ := Aside0.mk (below_step (by repeat (first | (with_reducible first | exact HB.out | apply below_alloc | apply pw_below_drewN | apply below_drew1 | refine below_set ?_ GE338.out | refine below_set ?_ GE369.out | refine below_set ?_ GE377.out) | exact HB.out)) hb)
                                      clear HO_4
                                      clear HO363
                                      clear HO372
                                      clear HO380
                                      clear HO385
                                      clear HO389
                                      clear BK338
                                      clear BK369
                                      clear BK377
                                      clear HB
                                      have HO_4 := n0_
                                      have HO363 := n1_
                                      have HO372 := n2_
                                      have HO380 := n3_
                                      have HO385 := n4_
                                      have HO389 := n5_
                                      have BK338 := n6_
                                      have BK369 := n7_
                                      have BK377 := n8_
                                      have HB := n9_
                                      clear n0_ n1_ n2_ n3_ n4_ n5_ n6_ n7_ n8_ n9_
                                      (try clear hb)
                                      (try clear hb2)
                                      (try clear hk)
                                      (try clear hi)
                                      refine hK.out _ _ ⟨(blk_cell BK338.out 0).trans rfl, (blk_cell BK338.out 1).trans rfl⟩ (fun hHeld => ?_)
                                      clear hK K
                                      refine norm_ (a' := ?_) ?_ ?_
                                      rotate_left
                                      · show Act.put _ (some 114) _ = _
                                        simp only [Act.put, List.setIfInBounds_toArray, List.set_cons_zero, List.set_cons_succ, i64_w, i32_w]
                                        rfl
                                      refine pure_ (i := 16) (N := some 115) (v := ?_) (a' := ?_) #[true, true, true, true, true, true, true, true, true, true, true, true, true, true, true, true, true, false, false, false, false, false, false, false, false, false, false] rfl rfl (any_of HT_.out (by kernel_rfl)) (fun _ _ _ h => h) (Or.inl ⟨by rfl, ?_⟩) ?_ ?_
                                      rotate_left
                                      · intro w'
                                        go_simp
                                        with_reducible rfl
                                      rotate_left
                                      · simp only [Act.put, List.setIfInBounds_toArray, List.set_cons_zero, List.set_cons_succ, i64_w, i32_w]
                                        rfl
                                      refine pure_ (i := 17) (N := some 116) (v := ?_) (a' := ?_) #[true, true, true, true, true, true, true, true, true, true, true, true, true, true, true, true, true, true, false, false, false, false, false, false, false, false, false] rfl rfl (any_of HT_.out (by kernel_rfl)) (fun _ _ _ h => h) (Or.inl ⟨by rfl, ?_⟩) ?_ ?_
                                      rotate_left
                                      · intro w'
                                        go_simp
                                        with_reducible rfl
                                      rotate_left
                                      · simp only [Act.put, List.setIfInBounds_toArray, List.set_cons_zero, List.set_cons_succ, i64_w, i32_w]
                                        rfl
                                      refine one_ (i := 18) (N := some 117) #[true, true, true, true, true, true, true, true, true, true, true, true, true, true, true, true, true, true, true, false, false, false, false, false, false, false, false] rfl rfl (one_of HT_.out (by kernel_rfl)) (by decide) (fun K hK => ?_)
                                      refine Kd.R_make_step (Kd.int .u8) _ 5 (by rfl) (N := 117) rfl 26 _ _ rfl 70000 rfl rfl Try.underlying26 (.int .u8 0) 1 info5 rfl (by decide) (by omega) 0 (ok := fun _ => True) (okp := fun _ => True) rfl (fun _ hk => hk) trivial (by omega) (by omega) (Below.refl _ _) (Nat.le_refl _) ?_
                                      intro v393 w97 ho98 hb hg_ hnew_
                                      clear hg_ hnew_
                                      (first | rw [← Ny392.out] at ho98 | (simp only [Int.reduceToNat] at ho98; rw [← Ny392.out] at ho98))
                                      have n0_ := Aside0.mk (Kd.R_elder' (by (with_reducible repeat (first | apply Kd.R_alloc | apply Kd.R_drewN | apply Kd.R_drew)); exact HO_4.out) (Kd.R_base ho98) hb)
                                      have n1_ := Aside0.mk (Kd.R_elder' (by (with_reducible repeat (first | apply Kd.R_alloc | apply Kd.R_drewN | apply Kd.R_drew)); exact HO363.out) (Kd.R_base ho98) hb)
                                      have n2_ := Aside0.mk (Kd.R_elder' (by (with_reducible repeat (first | apply Kd.R_alloc | apply Kd.R_drewN | apply Kd.R_drew)); exact HO372.out) (Kd.R_base ho98) hb)
                                      have n3_ := Aside0.mk (Kd.R_elder' (by (with_reducible repeat (first | apply Kd.R_alloc | apply Kd.R_drewN | apply Kd.R_drew)); exact HO380.out) (Kd.R_base ho98) hb)
                                      have n4_ := Aside0.mk (Kd.R_elder' (by (with_reducible repeat (first | apply Kd.R_alloc | apply Kd.R_drewN | apply Kd.R_drew)); exact HO385.out) (Kd.R_base ho98) hb)
                                      have n5_ := Aside0.mk (Kd.R_elder' (by (with_reducible repeat (first | apply Kd.R_alloc | apply Kd.R_drewN | apply Kd.R_drew)); exact HO389.out) (Kd.R_base ho98) hb)
                                      have n6_ := Aside0.mk (Kd.R_lower (Kd.R_new' (Kd.R_new' (Kd.R_new' (Kd.R_new' (Kd.R_new' (Kd.R_new' ho98 (Kd.R_lt (by (with_reducible repeat (first | apply Kd.R_alloc | apply Kd.R_drewN | apply Kd.R_drew)); exact HO_4.out))) (Kd.R_lt (by (with_reducible repeat (first | apply Kd.R_alloc | apply Kd.R_drewN | apply Kd.R_drew)); exact HO363.out))) (Kd.R_lt (by (with_reducible repeat (first | apply Kd.R_alloc | apply Kd.R_drewN | apply Kd.R_drew)); exact HO372.out))) (Kd.R_lt (by (with_reducible repeat (first | apply Kd.R_alloc | apply Kd.R_drewN | apply Kd.R_drew)); exact HO380.out))) (Kd.R_lt (by (with_reducible repeat (first | apply Kd.R_alloc | apply Kd.R_drewN | apply Kd.R_drew)); exact HO385.out))) (Kd.R_lt (by (with_reducible repeat (first | apply Kd.R_alloc | apply Kd.R_drewN | apply Kd.R_drew)); exact HO389.out))) (below_size (by repeat (first | (with_reducible first | exact HB.out | apply below_alloc | apply pw_below_drewN | apply below_drew1 | refine below_set ?_ GE338.out | refine below_set ?_ GE369.out | refine below_set ?_ GE377.out) | exact HB.out))))
                                      have n7_ := Aside0.mk (blk_below (g := gb338) (o := .cells #[.int .u16 t330, .int .u16 t331] 47 (0, 0)) (by (with_reducible repeat (first | refine blk_drewN ?_ _ | refine blk_drew ?_ | refine blk_alloc ?_ _)); exact BK338.out) hb)
                                      have n8_ := Aside0.mk (blk_below (g := gb369) (o := .cells #[.int .u16 t366, .int .u16 t367] 47 (0, 0)) (by (with_reducible repeat (first | refine blk_drewN ?_ _ | refine blk_drew ?_ | refine blk_alloc ?_ _)); exact BK369.out) hb)
                                      have n9_ := Aside0.mk (blk_below (g := gb377) (o := .cells #[.int .u16 t374, .int .u16 t375] 47 (0, 0)) (by (with_reducible repeat (first | refine blk_drewN ?_ _ | refine blk_drew ?_ | refine blk_alloc ?_ _)); exact BK377.out) hb)
                                      have n10_ := Aside0.mk (below_step (by repeat (first | (with_reducible first | exact HB.out | apply below_alloc | apply pw_below_drewN | apply below_drew1 | refine below_set ?_ GE338.out | refine below_set ?_ GE369.out | refine below_set ?_ GE377.out) | exact HB.out)) hb)
                                      clear HO_4
                                      clear HO363
                                      clear HO372
                                      clear HO380
                                      clear HO385
                                      clear HO389
                                      clear BK338
                                      clear BK369
                                      clear BK377
                                      clear HB
                                      have HO_4 := n0_
                                      have HO363 := n1_
                                      have HO372 := n2_
                                      have HO380 := n3_
                                      have HO385 := n4_
                                      have HO389 := n5_
                                      have HO394 := n6_
                                      have BK338 := n7_
                                      have BK369 := n8_
                                      have BK377 := n9_
                                      have HB := n10_
                                      clear n0_ n1_ n2_ n3_ n4_ n5_ n6_ n7_ n8_ n9_ n10_
                                      clear hb ho98
                                      obtain ⟨Ao99, co99, eo99⟩ := Kd.R_slice HO394.out
                                      (first | subst eo99 | (injection eo99 with f1_ f2_ f3_; have f4_ := f1_.symm; have f5_ := f3_.symm; clear f1_ f2_ f3_; subst f4_; subst f5_))
                                      refine hK.out _ _ ⟨(blk_cell BK338.out 0).trans rfl, (blk_cell BK338.out 1).trans rfl⟩ (fun hHeld => ?_)
                                      clear hK K
                                      refine norm_ (a' := ?_) ?_ ?_
                                      rotate_left
                                      · show Act.put _ (some 117) _ = _
                                        simp only [Act.put, List.setIfInBounds_toArray, List.set_cons_zero, List.set_cons_succ, i64_w, i32_w]
                                        rfl
                                      refine one_ (i := 19) (N := some 118) #[true, true, true, true, true, true, true, true, true, true, true, true, true, true, true, true, true, true, true, true, false, false, false, false, false, false, false] rfl rfl (one_of HT_.out (by kernel_rfl)) (by decide) (fun K hK => ?_)
                                      refine goes_ Try.func9 (by kernel_rfl) rfl #[.slice Ao99 y392.length co99] (by rfl) rfl rfl (by (try simp only [List.map_toArray, List.map_cons, List.map_nil]); first | done | rfl | (simp only [List.length_drop, List.length_take]; rfl)) ?_
                                      with_reducible refine (sallyportlaw10_DgramReads.calls k1 _ _ y392 true ⟨by first | rfl | exact hr_.out⟩ _ ?side1 ?side2 A62.out).mono ?_
                                      (case side1 => repeat (first | exact (Kd.R_reads' HO394.out).2.2 | (with_reducible refine Kd.C_alloc ?_ _) | (with_reducible refine Kd.C_drewN ?_ _) | (with_reducible refine Kd.C_drew ?_)))
                                      (case side2 => exact (Kd.R_reads' HO394.out).2.1)
                                      rintro e w100 ⟨rfl, hb⟩
                                      refine ⟨_, rfl, ?_⟩
                                      have n0_ := Aside0.mk (Kd.R_below (by (with_reducible repeat (first | apply Kd.R_alloc | apply Kd.R_drewN | apply Kd.R_drew)); exact HO_4.out) hb)
                                      have n1_ := Aside0.mk (Kd.R_below (by (with_reducible repeat (first | apply Kd.R_alloc | apply Kd.R_drewN | apply Kd.R_drew)); exact HO363.out) hb)
                                      have n2_ := Aside0.mk (Kd.R_below (by (with_reducible repeat (first | apply Kd.R_alloc | apply Kd.R_drewN | apply Kd.R_drew)); exact HO372.out) hb)
                                      have n3_ := Aside0.mk (Kd.R_below (by (with_reducible repeat (first | apply Kd.R_alloc | apply Kd.R_drewN | apply Kd.R_drew)); exact HO380.out) hb)
                                      have n4_ := Aside0.mk (Kd.R_below (by (with_reducible repeat (first | apply Kd.R_alloc | apply Kd.R_drewN | apply Kd.R_drew)); exact HO385.out) hb)
                                      have n5_ := Aside0.mk (Kd.R_below (by (with_reducible repeat (first | apply Kd.R_alloc | apply Kd.R_drewN | apply Kd.R_drew)); exact HO389.out) hb)
                                      have n6_ := Aside0.mk (Kd.R_below (by (with_reducible repeat (first | apply Kd.R_alloc | apply Kd.R_drewN | apply Kd.R_drew)); exact HO394.out) hb)
                                      have n7_ := Aside0.mk (blk_below (g := gb338) (o := .cells #[.int .u16 t330, .int .u16 t331] 47 (0, 0)) (by (with_reducible repeat (first | refine blk_drewN ?_ _ | refine blk_drew ?_ | refine blk_alloc ?_ _)); exact BK338.out) hb)
                                      have n8_ := Aside0.mk (blk_below (g := gb369) (o := .cells #[.int .u16 t366, .int .u16 t367] 47 (0, 0)) (by (with_reducible repeat (first | refine blk_drewN ?_ _ | refine blk_drew ?_ | refine blk_alloc ?_ _)); exact BK369.out) hb)
                                      have n9_ := Aside0.mk (blk_below (g := gb377) (o := .cells #[.int .u16 t374, .int .u16 t375] 47 (0, 0)) (by (with_reducible repeat (first | refine blk_drewN ?_ _ | refine blk_drew ?_ | refine blk_alloc ?_ _)); exact BK377.out) hb)
                                      have n10_ := Aside0.mk (below_step (by repeat (first | (with_reducible first | exact HB.out | apply below_alloc | apply pw_below_drewN | apply below_drew1 | refine below_set ?_ GE338.out | refine below_set ?_ GE369.out | refine below_set ?_ GE377.out) | exact HB.out)) hb)
                                      clear HO_4
                                      clear HO363
                                      clear HO372
                                      clear HO380
                                      clear HO385
                                      clear HO389
                                      clear HO394
                                      clear BK338
                                      clear BK369
                                      clear BK377
                                      clear HB
                                      have HO_4 := n0_
                                      have HO363 := n1_
                                      have HO372 := n2_
                                      have HO380 := n3_
                                      have HO385 := n4_
                                      have HO389 := n5_
                                      have HO394 := n6_
                                      have BK338 := n7_
                                      have BK369 := n8_
                                      have BK377 := n9_
                                      have HB := n10_
                                      clear n0_ n1_ n2_ n3_ n4_ n5_ n6_ n7_ n8_ n9_ n10_
                                      (try clear hb)
                                      (try clear hb2)
                                      (try clear hk)
                                      (try clear hi)
                                      refine hK.out _ _ ⟨(blk_cell BK338.out 0).trans rfl, (blk_cell BK338.out 1).trans rfl⟩ (fun hHeld => ?_)
                                      clear hK K
                                      refine norm_ (a' := ?_) ?_ ?_
                                      rotate_left
                                      · show Act.put _ (some 118) _ = _
                                        simp only [Act.put, List.setIfInBounds_toArray, List.set_cons_zero, List.set_cons_succ, i64_w, i32_w]
                                        rfl
                                      refine pure_ (i := 20) (N := some 119) (v := ?_) (a' := ?_) #[true, true, true, true, true, true, true, true, true, true, true, true, true, true, true, true, true, true, true, true, true, false, false, false, false, false, false] rfl rfl (any_of HT_.out (by kernel_rfl)) (fun _ _ _ h => h) (Or.inl ⟨by rfl, ?_⟩) ?_ ?_
                                      rotate_left
                                      · intro w'
                                        go_simp
                                        with_reducible rfl
                                      rotate_left
                                      · simp only [Act.put, List.setIfInBounds_toArray, List.set_cons_zero, List.set_cons_succ, i64_w, i32_w]
                                        rfl
                                      refine pure_ (i := 21) (N := some 120) (v := ?_) (a' := ?_) #[true, true, true, true, true, true, true, true, true, true, true, true, true, true, true, true, true, true, true, true, true, true, false, false, false, false, false] rfl rfl (any_of HT_.out (by kernel_rfl)) (fun _ _ _ h => h) (Or.inl ⟨by rfl, ?_⟩) ?_ ?_
                                      rotate_left
                                      · intro w'
                                        go_simp
                                        with_reducible rfl
                                      rotate_left
                                      · simp only [Act.put, List.setIfInBounds_toArray, List.set_cons_zero, List.set_cons_succ, i64_w, i32_w]
                                        rfl
                                      refine take_ (i := 22) (N := some 121) (v := ?_) (a' := ?_) #[true, true, true, true, true, true, true, true, true, true, true, true, true, true, true, true, true, true, true, true, true, true, true, false, false, false, false] rfl rfl (take_ofW HT_.out HW_.out (by kernel_rfl)) (fun _ _ _ h => h) (Or.inl ⟨by rfl, ?_⟩) hHeld ?_ ?_
                                      rotate_left
                                      · rintro w' ⟨s0, s1⟩
                                        go_simp
                                        with_reducible rfl
                                      rotate_left
                                      · simp only [Act.put, List.setIfInBounds_toArray, List.set_cons_zero, List.set_cons_succ, i64_w, i32_w]
                                        rfl
                                      refine one_ (i := 23) (N := some 122) #[true, true, true, true, true, true, true, true, true, true, true, true, true, true, true, true, true, true, true, true, true, true, true, true, false, false, false] rfl rfl (one_of HT_.out (by kernel_rfl)) (by decide) (fun K hK => ?_)
                                      refine Kd.R_make_step (Kd.int .u8) _ 5 (by rfl) (N := 122) rfl 26 _ _ rfl 2040 rfl rfl Try.underlying26 (.int .u8 0) 1 info5 rfl (by decide) (by omega) 0 (ok := fun _ => True) (okp := fun _ => True) rfl (fun _ hk => hk) trivial (by omega) (by omega) (Below.refl _ _) (Nat.le_refl _) ?_
                                      intro v397 w101 ho102 hb hg_ hnew_
                                      clear hg_ hnew_
                                      (first | rw [← Ny396.out] at ho102 | (simp only [Int.reduceToNat] at ho102; rw [← Ny396.out] at ho102))
                                      have n0_ := Aside0.mk (Kd.R_elder' (by (with_reducible repeat (first | apply Kd.R_alloc | apply Kd.R_drewN | apply Kd.R_drew)); exact HO_4.out) (Kd.R_base ho102) hb)
                                      have n1_ := Aside0.mk (Kd.R_elder' (by (with_reducible repeat (first | apply Kd.R_alloc | apply Kd.R_drewN | apply Kd.R_drew)); exact HO363.out) (Kd.R_base ho102) hb)
                                      have n2_ := Aside0.mk (Kd.R_elder' (by (with_reducible repeat (first | apply Kd.R_alloc | apply Kd.R_drewN | apply Kd.R_drew)); exact HO372.out) (Kd.R_base ho102) hb)
                                      have n3_ := Aside0.mk (Kd.R_elder' (by (with_reducible repeat (first | apply Kd.R_alloc | apply Kd.R_drewN | apply Kd.R_drew)); exact HO380.out) (Kd.R_base ho102) hb)
                                      have n4_ := Aside0.mk (Kd.R_elder' (by (with_reducible repeat (first | apply Kd.R_alloc | apply Kd.R_drewN | apply Kd.R_drew)); exact HO385.out) (Kd.R_base ho102) hb)
                                      have n5_ := Aside0.mk (Kd.R_elder' (by (with_reducible repeat (first | apply Kd.R_alloc | apply Kd.R_drewN | apply Kd.R_drew)); exact HO389.out) (Kd.R_base ho102) hb)
                                      have n6_ := Aside0.mk (Kd.R_elder' (by (with_reducible repeat (first | apply Kd.R_alloc | apply Kd.R_drewN | apply Kd.R_drew)); exact HO394.out) (Kd.R_base ho102) hb)
                                      have n7_ := Aside0.mk (Kd.R_lower (Kd.R_new' (Kd.R_new' (Kd.R_new' (Kd.R_new' (Kd.R_new' (Kd.R_new' (Kd.R_new' ho102 (Kd.R_lt (by (with_reducible repeat (first | apply Kd.R_alloc | apply Kd.R_drewN | apply Kd.R_drew)); exact HO_4.out))) (Kd.R_lt (by (with_reducible repeat (first | apply Kd.R_alloc | apply Kd.R_drewN | apply Kd.R_drew)); exact HO363.out))) (Kd.R_lt (by (with_reducible repeat (first | apply Kd.R_alloc | apply Kd.R_drewN | apply Kd.R_drew)); exact HO372.out))) (Kd.R_lt (by (with_reducible repeat (first | apply Kd.R_alloc | apply Kd.R_drewN | apply Kd.R_drew)); exact HO380.out))) (Kd.R_lt (by (with_reducible repeat (first | apply Kd.R_alloc | apply Kd.R_drewN | apply Kd.R_drew)); exact HO385.out))) (Kd.R_lt (by (with_reducible repeat (first | apply Kd.R_alloc | apply Kd.R_drewN | apply Kd.R_drew)); exact HO389.out))) (Kd.R_lt (by (with_reducible repeat (first | apply Kd.R_alloc | apply Kd.R_drewN | apply Kd.R_drew)); exact HO394.out))) (below_size (by repeat (first | (with_reducible first | exact HB.out | apply below_alloc | apply pw_below_drewN | apply below_drew1 | refine below_set ?_ GE338.out | refine below_set ?_ GE369.out | refine below_set ?_ GE377.out) | exact HB.out))))
                                      have n8_ := Aside0.mk (blk_below (g := gb338) (o := .cells #[.int .u16 t330, .int .u16 t331] 47 (0, 0)) (by (with_reducible repeat (first | refine blk_drewN ?_ _ | refine blk_drew ?_ | refine blk_alloc ?_ _)); exact BK338.out) hb)
                                      have n9_ := Aside0.mk (blk_below (g := gb369) (o := .cells #[.int .u16 t366, .int .u16 t367] 47 (0, 0)) (by (with_reducible repeat (first | refine blk_drewN ?_ _ | refine blk_drew ?_ | refine blk_alloc ?_ _)); exact BK369.out) hb)
                                      have n10_ := Aside0.mk (blk_below (g := gb377) (o := .cells #[.int .u16 t374, .int .u16 t375] 47 (0, 0)) (by (with_reducible repeat (first | refine blk_drewN ?_ _ | refine blk_drew ?_ | refine blk_alloc ?_ _)); exact BK377.out) hb)
                                      have n11_ := Aside0.mk (below_step (by repeat (first | (with_reducible first | exact HB.out | apply below_alloc | apply pw_below_drewN | apply below_drew1 | refine below_set ?_ GE338.out | refine below_set ?_ GE369.out | refine below_set ?_ GE377.out) | exact HB.out)) hb)
                                      clear HO_4
                                      clear HO363
                                      clear HO372
                                      clear HO380
                                      clear HO385
                                      clear HO389
                                      clear HO394
                                      clear BK338
                                      clear BK369
                                      clear BK377
                                      clear HB
                                      have HO_4 := n0_
                                      have HO363 := n1_
                                      have HO372 := n2_
                                      have HO380 := n3_
                                      have HO385 := n4_
                                      have HO389 := n5_
                                      have HO394 := n6_
                                      have HO398 := n7_
                                      have BK338 := n8_
                                      have BK369 := n9_
                                      have BK377 := n10_
                                      have HB := n11_
                                      clear n0_ n1_ n2_ n3_ n4_ n5_ n6_ n7_ n8_ n9_ n10_ n11_
                                      clear hb ho102
                                      obtain ⟨Ao103, co103, eo103⟩ := Kd.R_slice HO398.out
                                      (first | subst eo103 | (injection eo103 with f1_ f2_ f3_; have f4_ := f1_.symm; have f5_ := f3_.symm; clear f1_ f2_ f3_; subst f4_; subst f5_))
                                      refine hK.out _ _ ⟨(blk_cell BK338.out 0).trans rfl, (blk_cell BK338.out 1).trans rfl⟩ (fun hHeld => ?_)
                                      clear hK K
                                      refine norm_ (a' := ?_) ?_ ?_
                                      rotate_left
                                      · show Act.put _ (some 122) _ = _
                                        simp only [Act.put, List.setIfInBounds_toArray, List.set_cons_zero, List.set_cons_succ, i64_w, i32_w]
                                        rfl
                                      refine one_ (i := 24) (N := some 123) #[true, true, true, true, true, true, true, true, true, true, true, true, true, true, true, true, true, true, true, true, true, true, true, true, true, false, false] rfl rfl (one_of HT_.out (by kernel_rfl)) (by decide) (fun K hK => ?_)
                                      refine goes_ Try.func10 (by kernel_rfl) rfl #[.agg #[.int .u16 t330, .int .u16 t331], .slice Ao103 y396.length co103, .slice none 0 0] (by rfl) rfl rfl (by (try simp only [List.map_toArray, List.map_cons, List.map_nil]); first | done | rfl | (simp only [List.length_drop, List.length_take]; rfl)) ?_
                                      refine (sallyportlaw10_DgramBack.calls k1 t330 t331 _ _ y396 _ _ ([] : List Int) t399 ⟨by first | rfl | exact hr_.out⟩ _ ?side1 ?side2 ?side3 ?side4 A64.out).mono ?_
                                      (case side1 => repeat (first | exact (Kd.R_reads' HO398.out).2.2 | (with_reducible refine Kd.C_alloc ?_ _) | (with_reducible refine Kd.C_drewN ?_ _) | (with_reducible refine Kd.C_drew ?_)))
                                      (case side2 => exact (Kd.R_reads' HO398.out).2.1)
                                      (case side3 => exact Kd.C_nil _ _)
                                      (case side4 => exact Nat.le_refl _)
                                      rintro e w104 ⟨rfl, hb⟩
                                      refine ⟨_, rfl, ?_⟩
                                      have n0_ := Aside0.mk (Kd.R_below (by (with_reducible repeat (first | apply Kd.R_alloc | apply Kd.R_drewN | apply Kd.R_drew)); exact HO_4.out) hb)
                                      have n1_ := Aside0.mk (Kd.R_below (by (with_reducible repeat (first | apply Kd.R_alloc | apply Kd.R_drewN | apply Kd.R_drew)); exact HO363.out) hb)
                                      have n2_ := Aside0.mk (Kd.R_below (by (with_reducible repeat (first | apply Kd.R_alloc | apply Kd.R_drewN | apply Kd.R_drew)); exact HO372.out) hb)
                                      have n3_ := Aside0.mk (Kd.R_below (by (with_reducible repeat (first | apply Kd.R_alloc | apply Kd.R_drewN | apply Kd.R_drew)); exact HO380.out) hb)
                                      have n4_ := Aside0.mk (Kd.R_below (by (with_reducible repeat (first | apply Kd.R_alloc | apply Kd.R_drewN | apply Kd.R_drew)); exact HO385.out) hb)
                                      have n5_ := Aside0.mk (Kd.R_below (by (with_reducible repeat (first | apply Kd.R_alloc | apply Kd.R_drewN | apply Kd.R_drew)); exact HO389.out) hb)
                                      have n6_ := Aside0.mk (Kd.R_below (by (with_reducible repeat (first | apply Kd.R_alloc | apply Kd.R_drewN | apply Kd.R_drew)); exact HO394.out) hb)
                                      have n7_ := Aside0.mk (Kd.R_below (by (with_reducible repeat (first | apply Kd.R_alloc | apply Kd.R_drewN | apply Kd.R_drew)); exact HO398.out) hb)
                                      have n8_ := Aside0.mk (blk_below (g := gb338) (o := .cells #[.int .u16 t330, .int .u16 t331] 47 (0, 0)) (by (with_reducible repeat (first | refine blk_drewN ?_ _ | refine blk_drew ?_ | refine blk_alloc ?_ _)); exact BK338.out) hb)
                                      have n9_ := Aside0.mk (blk_below (g := gb369) (o := .cells #[.int .u16 t366, .int .u16 t367] 47 (0, 0)) (by (with_reducible repeat (first | refine blk_drewN ?_ _ | refine blk_drew ?_ | refine blk_alloc ?_ _)); exact BK369.out) hb)
                                      have n10_ := Aside0.mk (blk_below (g := gb377) (o := .cells #[.int .u16 t374, .int .u16 t375] 47 (0, 0)) (by (with_reducible repeat (first | refine blk_drewN ?_ _ | refine blk_drew ?_ | refine blk_alloc ?_ _)); exact BK377.out) hb)
                                      have n11_ := Aside0.mk (below_step (by repeat (first | (with_reducible first | exact HB.out | apply below_alloc | apply pw_below_drewN | apply below_drew1 | refine below_set ?_ GE338.out | refine below_set ?_ GE369.out | refine below_set ?_ GE377.out) | exact HB.out)) hb)
                                      clear HO_4
                                      clear HO363
                                      clear HO372
                                      clear HO380
                                      clear HO385
                                      clear HO389
                                      clear HO394
                                      clear HO398
                                      clear BK338
                                      clear BK369
                                      clear BK377
                                      clear HB
                                      have HO_4 := n0_
                                      have HO363 := n1_
                                      have HO372 := n2_
                                      have HO380 := n3_
                                      have HO385 := n4_
                                      have HO389 := n5_
                                      have HO394 := n6_
                                      have HO398 := n7_
                                      have BK338 := n8_
                                      have BK369 := n9_
                                      have BK377 := n10_
                                      have HB := n11_
                                      clear n0_ n1_ n2_ n3_ n4_ n5_ n6_ n7_ n8_ n9_ n10_ n11_
                                      (try clear hb)
                                      (try clear hb2)
                                      (try clear hk)
                                      (try clear hi)
                                      refine hK.out _ _ ⟨(blk_cell BK338.out 0).trans rfl, (blk_cell BK338.out 1).trans rfl⟩ (fun hHeld => ?_)
                                      clear hK K
                                      refine norm_ (a' := ?_) ?_ ?_
                                      rotate_left
                                      · show Act.put _ (some 123) _ = _
                                        simp only [Act.put, List.setIfInBounds_toArray, List.set_cons_zero, List.set_cons_succ, i64_w, i32_w]
                                        rfl
                                      refine pure_ (i := 25) (N := some 124) (v := ?_) (a' := ?_) #[true, true, true, true, true, true, true, true, true, true, true, true, true, true, true, true, true, true, true, true, true, true, true, true, true, true, false] rfl rfl (any_of HT_.out (by kernel_rfl)) (fun _ _ _ h => h) (Or.inl ⟨by rfl, ?_⟩) ?_ ?_
                                      rotate_left
                                      · intro w'
                                        go_simp
                                        with_reducible rfl
                                      rotate_left
                                      · simp only [Act.put, List.setIfInBounds_toArray, List.set_cons_zero, List.set_cons_succ, i64_w, i32_w]
                                        rfl
                                      refine pure_ (i := 26) (N := some 0) (v := ?_) (a' := ?_) #[true, true, true, true, true, true, true, true, true, true, true, true, true, true, true, true, true, true, true, true, true, true, true, true, true, true, true] rfl rfl (any_of HT_.out (by kernel_rfl)) (fun _ _ _ h => h) (Or.inl ⟨by rfl, ?_⟩) ?_ ?_
                                      rotate_left
                                      · intro w'
                                        go_simp
                                        with_reducible rfl
                                      rotate_left
                                      · simp only [Act.put, List.setIfInBounds_toArray, List.set_cons_zero, List.set_cons_succ, i64_w, i32_w]
                                        rfl
                                      refine done_ (done_of HT_.out (by kernel_rfl)) ?_
                                      try go_wp2
                                      go_ret
                                      exact ⟨by first | rfl | (simp [errW_none, errW_some] <;> rfl) | (simp [*, errW_none, errW_some] <;> rfl), by repeat (first | (with_reducible first | exact HB.out | apply below_alloc | apply pw_below_drewN | apply below_drew1 | refine below_set ?_ GE338.out | refine below_set ?_ GE369.out | refine below_set ?_ GE377.out) | exact HB.out)⟩
                                    · replace c63 := Bool.eq_false_iff.mpr c63
                                      subst c63
                                      have H1 : (some false) = some r := by rw [if_neg (show ¬ (false = true) by decide)] at H; exact H
                                      clear H
                                      have H := H1
                                      clear H1
                                      obtain rfl := Option.some.inj H
                                      exact absurd hr_.out (by decide)
                                  · rw [if_neg c61] at H
                                    exact absurd H (by simp)
                                · replace c60 := Bool.eq_false_iff.mpr c60
                                  subst c60
                                  have H1 : (some false) = some r := by rw [if_neg (show ¬ (false = true) by decide)] at H; exact H
                                  clear H
                                  have H := H1
                                  clear H1
                                  obtain rfl := Option.some.inj H
                                  exact absurd hr_.out (by decide)
                              · replace c58 := Bool.eq_false_iff.mpr c58
                                subst c58
                                have H1 : (some false) = some r := by rw [if_neg (show ¬ (false = true) by decide)] at H; exact H
                                clear H
                                have H := H1
                                clear H1
                                obtain rfl := Option.some.inj H
                                exact absurd hr_.out (by decide)
                            · rw [if_neg c56] at H
                              exact absurd H (by simp)
                          · replace c55 := Bool.eq_false_iff.mpr c55
                            subst c55
                            have H1 : (some false) = some r := by rw [if_neg (show ¬ (false = true) by decide)] at H; exact H
                            clear H
                            have H := H1
                            clear H1
                            obtain rfl := Option.some.inj H
                            exact absurd hr_.out (by decide)
                        · rw [if_neg c53] at H
                          exact absurd H (by simp)
                      · replace c52 := Bool.eq_false_iff.mpr c52
                        subst c52
                        have H1 : (some false) = some r := by rw [if_neg (show ¬ (false = true) by decide)] at H; exact H
                        clear H
                        have H := H1
                        clear H1
                        obtain rfl := Option.some.inj H
                        exact absurd hr_.out (by decide)
                  · rw [if_neg c49] at H
                    have c49b0 : (t376 == 0) = false := beq_eq_false_iff_ne.mpr c49
                    have c49b1 : (t376 != 0) = true := bne_iff_ne.mpr c49
                    obtain rfl := Option.some.inj H
                    exact absurd hr_.out (by decide)
                · replace c48 := Bool.eq_false_iff.mpr c48
                  subst c48
                  have H1 : (some false) = some r := by rw [if_neg (show ¬ (false = true) by decide)] at H; exact H
                  clear H
                  have H := H1
                  clear H1
                  obtain rfl := Option.some.inj H
                  exact absurd hr_.out (by decide)
              · rw [if_neg c46] at H
                have c46b0 : (t373 == 0) = false := beq_eq_false_iff_ne.mpr c46
                have c46b1 : (t373 != 0) = true := bne_iff_ne.mpr c46
                obtain rfl := Option.some.inj H
                exact absurd hr_.out (by decide)
            · rw [if_neg c45] at H
              have c45b0 : (t368 == 110) = false := beq_eq_false_iff_ne.mpr c45
              have c45b1 : (t368 != 110) = true := bne_iff_ne.mpr c45
              obtain rfl := Option.some.inj H
              exact absurd hr_.out (by decide)
          · rw [if_neg c40] at H
            exact absurd H (by simp)
        · rw [if_neg c38] at H
          exact absurd H (by simp)

/-- THE ONE PURE STATEMENT of sallyportlaw10_DgramNames: yours. -/
def sallyportlaw10_DgramNames.Pure : Prop := ∃ k, sallyportlaw10_DgramNames.f k  = some true
theorem sallyportlaw10_DgramNames.walk (P : sallyportlaw10_DgramNames.Pure)  (w : World)  :
    Calls Try.prog 12 #[] w fun e w' => e = .returned (.bool true) ∧ Below w.heap.size w w' := by
  obtain ⟨k, h⟩ := P  
  refine (sallyportlaw10_DgramNames.calls k  true ⟨rfl⟩ w h).mono ?_
  rintro e w' ⟨rfl, hd⟩
  exact ⟨rfl, hd⟩

end Go.Proofs.Ytipdajgcepefgaa.P
