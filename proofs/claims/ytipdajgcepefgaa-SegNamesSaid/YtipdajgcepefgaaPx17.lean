/- Contracts of the functions that the statements reach, and the statements: written by a program of this repo (wip/patch_print.py); Lean checks every line; no conditions. -/
import Derived.Test.YtipdajgcepefgaaPx0
import Derived.Test.YtipdajgcepefgaaPx2
import Derived.Test.YtipdajgcepefgaaPx11
import Derived.Test.YtipdajgcepefgaaPx12
import Derived.Test.YtipdajgcepefgaaPx15
import Derived.Test.YtipdajgcepefgaaPx16
namespace Go.Proofs.Ytipdajgcepefgaa.P
open Go.RowKit Go.Proofs.YtipdajgcepefgaaW.PrintWords Go.Proofs.YtipdajgcepefgaaW.PrintLast Go.Proofs.YtipdajgcepefgaaW.PrintMore
attribute [local go_sem] max2_int min2_int max_two min_two max_three min_three max_four min_four Go.Proofs.YtipdajgcepefgaaW.Own.u16_all   -- for this text's walks alone
set_option linter.unusedVariables false
set_option linter.unusedSimpArgs false

/-! ### sallyportlaw09_SegNames: function 17 -/
def sallyportlaw09_SegNames.l0 : Nat → List Int → Int → Int → Int → Int → Int → Int → Int → Option (Bool)
  | 0, _, _, _, _, _, _, _, _ => none
  | k + 1, x4, x5, x385000, x385001, x385002, x385003, x385004, x385005 => if x5 < (x4.length : Int) then ((sallyportref00_CopyBytes.f x4).bind fun t388 => (if 0 ≤ x5 then (if x5 < (t388.length : Int) then ((sallyportlaw09_SegReads.f k (t388.set (x5 : Int).toNat (Go.bits .xor .u8 (rd t388 x5) 16))).bind fun t393 => (if t393 = true then (if x5 ≤ (x4.length : Int) then ((sallyportlaw09_SegReads.f k (x4.take (x5 : Int).toNat)).bind fun t398 => (if t398 = true then ((sallyportlaw09_join.f x4 (x4.take (x5 : Int).toNat)).bind fun t403 => ((sallyportlaw09_SegReads.f k t403).bind fun t406 => (if t406 = true then (sallyportlaw09_SegNames.l0 k x4 (wrap64 (x5 + 1)) x385000 x385001 x385002 x385003 x385004 x385005) else (some false)))) else (some false))) else (none)) else (some false))) else (none)) else (none))) else ((seg_Check.f 0 0 0 0 64 0).bind fun t407 => (if t407 = 90 then ((sallyportlaw09_SegBytes.f k 0 0 0 0 64 0 ([] : List Int)).bind fun t408 => (if t408 = true then (if 2048 ≤ 281474976710656 then ((sallyportlaw09_SegBytes.f k 0 0 0 0 64 0 (List.replicate 2048 0)).bind fun t412 => (if t412 = true then ((sallyportlaw09_awake.f k).bind fun t413 => (if t413 = true then (if 2028 ≤ 281474976710656 then ((sallyportlaw09_SegBytes.f k x385000 x385001 x385002 x385003 x385004 x385005 (List.replicate 2028 0)).bind fun t417 => (if t417 = true then (if 2029 ≤ 281474976710656 then ((sallyportlaw09_SegBytes.f k x385000 x385001 x385002 x385003 x385004 x385005 (List.replicate 2029 0)).bind fun t421 => (if t421 = true then ((sallyportlaw09_SegBytes.f k 0 0 0 0 0 0 ([] : List Int)).bind fun t422 => (if t422 = true then (if 70000 ≤ 281474976710656 then ((sallyportlaw09_SegReads.f k (List.replicate 70000 0)).bind fun t426 => (if t426 = true then ((sallyportlaw09_SegBack.f k x385000 x385001 x385002 x385003 x385004 x385005 (List.replicate 2028 0) ([] : List Int)).bind fun t430 => (some t430)) else (some false))) else (none)) else (some false))) else (some false))) else (none)) else (some false))) else (none)) else (some false))) else (some false))) else (none)) else (some false))) else (some false)))
def sallyportlaw09_SegNames.f (k : Nat)  : Option (Bool) := (sallyportlaw09_usual.f).bind fun bt372 => ((sallyportlaw09_join.f bt372.2.2.2.2.2.2.2 bt372.2.2.2.2.2.2.1).bind fun t385 => (sallyportlaw09_SegNames.l0 k t385 0 bt372.1 bt372.2.1 bt372.2.2.1 bt372.2.2.2.1 bt372.2.2.2.2.1 bt372.2.2.2.2.2.1))
theorem sallyportlaw09_SegNames.mono_l : ∀ k, (∀ y0 y1 y2 y3 y4 y5 y6 y7, LeO (sallyportlaw09_SegNames.l0 k y0 y1 y2 y3 y4 y5 y6 y7) (sallyportlaw09_SegNames.l0 (k + 1) y0 y1 y2 y3 y4 y5 y6 y7))
  | 0 => fun _ _ _ _ _ _ _ _ r h => by simp [sallyportlaw09_SegNames.l0] at h
  | k + 1 => by
    have ih0 := sallyportlaw09_SegNames.mono_l k
    · intro y0 y1 y2 y3 y4 y5 y6 y7
      unfold sallyportlaw09_SegNames.l0
      repeat' first
      | (with_reducible exact ih0 _ _ _ _ _ _ _ _)
      | (with_reducible exact sallyportlaw09_SegBack.mono _ _ _ _ _ _ _ _ _)
      | (with_reducible exact sallyportlaw09_SegBytes.mono _ _ _ _ _ _ _ _)
      | (with_reducible exact sallyportlaw09_SegReads.mono _ _)
      | (with_reducible exact sallyportlaw09_awake.mono _)
      | (with_reducible exact LeO.refl _)
      | (with_reducible exact LeO.none _)
      | (with_reducible refine LeO.ite ?_ ?_)
      | (with_reducible refine LeO.bind ?_ (fun _ => ?_))
      | exact ih0 _ _ _ _ _ _ _ _
      | exact sallyportlaw09_SegBack.mono _ _ _ _ _ _ _ _ _
      | exact sallyportlaw09_SegBytes.mono _ _ _ _ _ _ _ _
      | exact sallyportlaw09_SegReads.mono _ _
      | exact sallyportlaw09_awake.mono _
      | exact LeO.none _
      | refine LeO.ite ?_ ?_
      | refine LeO.bind ?_ (fun _ => ?_)
theorem sallyportlaw09_SegNames.mono : ∀ k, LeO (sallyportlaw09_SegNames.f k ) (sallyportlaw09_SegNames.f (k + 1) ) := by
  intro  k
  have ih0 := sallyportlaw09_SegNames.mono_l k
  unfold sallyportlaw09_SegNames.f
  repeat' first
      | (with_reducible exact ih0 _ _ _ _ _ _ _ _)
      | (with_reducible exact sallyportlaw09_SegBack.mono _ _ _ _ _ _ _ _ _)
      | (with_reducible exact sallyportlaw09_SegBytes.mono _ _ _ _ _ _ _ _)
      | (with_reducible exact sallyportlaw09_SegReads.mono _ _)
      | (with_reducible exact sallyportlaw09_awake.mono _)
      | (with_reducible exact LeO.refl _)
      | (with_reducible exact LeO.none _)
      | (with_reducible refine LeO.ite ?_ ?_)
      | (with_reducible refine LeO.bind ?_ (fun _ => ?_))
      | exact ih0 _ _ _ _ _ _ _ _
      | exact sallyportlaw09_SegBack.mono _ _ _ _ _ _ _ _ _
      | exact sallyportlaw09_SegBytes.mono _ _ _ _ _ _ _ _
      | exact sallyportlaw09_SegReads.mono _ _
      | exact sallyportlaw09_awake.mono _
      | exact LeO.none _
      | refine LeO.ite ?_ ?_
      | refine LeO.bind ?_ (fun _ => ?_)
def sallyportlaw09_SegNames.T12 : Bool × List (List Nat × List Nat) := (true, [([], []), ([0, 0], [0]), ([0, 1], [0, 1]), ([2, 1], [2]), ([3], [3]), ([3], [3]), ([4, 5, 3, 3], [3, 4, 5]), ([3, 6], [3, 6]), ([7, 6], [7]), ([8], [8]), ([8], [8]), ([9, 10, 8, 8], [8, 9, 10]), ([8, 11], [8, 11]), ([12, 11], [12]), ([13], [13]), ([14, 13, 13], [13, 14]), ([13, 15], [13, 15]), ([16, 15], [16]), ([17], [17]), ([18, 17, 17], [17, 18]), ([17, 19], [17, 19]), ([20, 19], [20]), ([21], [21]), ([21], [21]), ([22, 23, 21, 21], [21, 22, 23]), ([21, 24], [21, 24]), ([25, 24, 0, 1, 2, 3, 4, 5, 6, 7, 8, 9, 10, 11, 12, 13, 14, 15, 16, 17, 18, 19, 20, 21, 22, 23, 24, 25], [25])])
def sallyportlaw09_SegNames.B12 : List Nat := [0, 1, 3, 7, 15, 15, 63, 127, 255, 511, 511, 2047, 4095, 8191, 16383, 32767, 65535, 131071, 262143, 524287, 1048575, 2097151, 4194303, 4194303, 16777215, 33554431, 67108863]
theorem sallyportlaw09_SegNames.tab12 : rtab .any (opsOf Try.f17 12) = sallyportlaw09_SegNames.T12 := by kernel_rfl
theorem sallyportlaw09_SegNames.bits12 : waitsOk sallyportlaw09_SegNames.T12.2 sallyportlaw09_SegNames.B12 = true := by kernel_rfl
set_option maxHeartbeats 8000000 in
set_option maxRecDepth 100000 in
theorem sallyportlaw09_SegNames.calls (k : Nat)  (r : Bool) (hr_ : Aside0 (r = true)) (w : World) (h : sallyportlaw09_SegNames.f k  = some r) :
    Calls Try.prog 17 #[] w fun e w' => e = .returned (.bool r) ∧ Below w.heap.size w w' := by
  have hu59 := Try.underlying59
  have HB := Aside0.mk (Below.refl w.heap.size w)
  have H : ((sallyportlaw09_usual.f).bind fun bt372 => ((sallyportlaw09_join.f bt372.2.2.2.2.2.2.2 bt372.2.2.2.2.2.2.1).bind fun t385 => (sallyportlaw09_SegNames.l0 k t385 0 bt372.1 bt372.2.1 bt372.2.2.1 bt372.2.2.2.1 bt372.2.2.2.2.1 bt372.2.2.2.2.2.1))) = some r := h
  clear h
  replace H := Option.bind_eq_some_iff.mp H
  obtain ⟨⟨t372, t373, t374, t375, t376, t377, t378, t381⟩, A10, H⟩ := H
  replace H : ((sallyportlaw09_join.f t381 t378).bind fun t385 => (sallyportlaw09_SegNames.l0 k t385 0 t372 t373 t374 t375 t376 t377)) = some r := H
  have A1 := Aside0.mk A10
  clear A10
  replace H := Option.bind_eq_some_iff.mp H
  obtain ⟨t385, A20, H⟩ := H
  replace H : (sallyportlaw09_SegNames.l0 k t385 0 t372 t373 t374 t375 t376 t377) = some r := H
  have A2 := Aside0.mk A20
  clear A20
  have H' := Aside0.mk H
  clear H
  go_enter Try.func17, Try.ntmps17
  go_wp2_with (first | ((with_reducible refine gate_callee (f := 53) rfl ?_); refine goesL_ (some 8) rfl rfl Try.func53 (by kernel_rfl) rfl #[] rfl (by (try simp only [List.map_toArray, List.map_cons, List.map_nil]); first | done | rfl | (simp only [List.length_drop, List.length_take]; rfl)) ?_; (with_reducible refine (sallyportlaw09_usual.calls  t372 t373 t374 t375 t376 t377 t378 t381 _ A1.out).mono ?_); rintro e w3 ⟨v379, v382, rfl, ho0, ho1, hb⟩; refine ⟨_, rfl, ?_⟩; have n0_ := Aside0.mk (Kd.R_lower ho0 (below_size (by repeat (first | (with_reducible first | exact HB.out | apply below_alloc | apply pw_below_drewN | apply below_drew1) | exact HB.out)))); have n1_ := Aside0.mk (Kd.R_lower ho1 (below_size (by repeat (first | (with_reducible first | exact HB.out | apply below_alloc | apply pw_below_drewN | apply below_drew1) | exact HB.out)))); have n2_ := Aside0.mk (below_step (by repeat (first | (with_reducible first | exact HB.out | apply below_alloc | apply pw_below_drewN | apply below_drew1) | exact HB.out)) hb); clear HB; have HO380 := n0_; have HO383 := n1_; have HB := n2_; clear n0_ n1_ n2_; (try clear hb); (try clear hb2); (try clear hk); (try clear hi); (try clear ho0); (try clear ho1)) | ((with_reducible refine gate_dst (N := 1) rfl ?_); (try (refine gate_guard (by rfl) ?_; dsimp only)); refine box_event ?hg (N := 1) ?hd (cs := #[.int .u16 0, .int .u16 0, .int .u32 0, .int .u32 0, .int .u8 0, .int .u16 0]) (t := 59) ?hr ?_; (case hd => rfl); (case hg => rfl); (case hr => first | (go_simp; done) | (go_simp; rfl)); intro gb384 hg w4 hbox hb; have n0_ := Aside0.mk (Kd.R_below (by (with_reducible repeat (first | apply Kd.R_alloc | apply Kd.R_drewN | apply Kd.R_drew)); exact HO380.out) hb); have n1_ := Aside0.mk (Kd.R_below (by (with_reducible repeat (first | apply Kd.R_alloc | apply Kd.R_drewN | apply Kd.R_drew)); exact HO383.out) hb); have n2_ := Aside0.mk (below_step (by repeat (first | (with_reducible first | exact HB.out | apply below_alloc | apply pw_below_drewN | apply below_drew1) | exact HB.out)) hb); have n3_ := Aside0.mk (hbox); have n4_ := Aside0.mk ((by rw [hg]; exact (below_size (by repeat (first | (with_reducible first | exact HB.out | apply below_alloc | apply pw_below_drewN | apply below_drew1) | exact HB.out))) : w.heap.size ≤ gb384)); have n5_ := Aside0.mk ((by rw [hg]; exact (below_size (by repeat (first | (with_reducible first | exact HB.out | apply below_alloc | apply pw_below_drewN | apply below_drew1) | exact HB.out))) : w.heap.size ≤ gb384)); clear HO380; clear HO383; clear HB; have HO380 := n0_; have HO383 := n1_; have HB := n2_; have BK384 := n3_; have GW384 := n4_; have GE384 := n5_; clear n0_ n1_ n2_ n3_ n4_ n5_; clear hb hbox hg; have hcz5_0 : w4.cell? ⟨gb384, 0, none⟩ = some (.int .u16 0) := (blk_cell BK384.out 0).trans rfl; have hcz5_1 : w4.cell? ⟨gb384, 1, none⟩ = some (.int .u16 0) := (blk_cell BK384.out 1).trans rfl; have hcz5_2 : w4.cell? ⟨gb384, 2, none⟩ = some (.int .u32 0) := (blk_cell BK384.out 2).trans rfl; have hcz5_3 : w4.cell? ⟨gb384, 3, none⟩ = some (.int .u32 0) := (blk_cell BK384.out 3).trans rfl; have hcz5_4 : w4.cell? ⟨gb384, 4, none⟩ = some (.int .u8 0) := (blk_cell BK384.out 4).trans rfl; have hcz5_5 : w4.cell? ⟨gb384, 5, none⟩ = some (.int .u16 0) := (blk_cell BK384.out 5).trans rfl; have hfz5_0 := blk_frozen BK384.out 0; have hfz5_1 := blk_frozen BK384.out 1; have hfz5_2 := blk_frozen BK384.out 2; have hfz5_3 := blk_frozen BK384.out 3; have hfz5_4 := blk_frozen BK384.out 4; have hfz5_5 := blk_frozen BK384.out 5; obtain ⟨Ao6, co6, eo6⟩ := Kd.R_slice HO383.out; subst eo6; obtain ⟨Ao7, co7, eo7⟩ := Kd.R_slice HO380.out; subst eo7) | ((with_reducible refine gate_callee (f := 52) rfl ?_); refine goesL_ (some 14) rfl rfl Try.func52 (by kernel_rfl) rfl #[.slice Ao6 t381.length co6, .slice Ao7 t378.length co7] rfl (by (try simp only [List.map_toArray, List.map_cons, List.map_nil]); first | done | rfl | (simp only [List.length_drop, List.length_take]; rfl)) ?_; (with_reducible refine (sallyportlaw09_join.calls _ _ t381 _ _ t378 t385 _ ?side1 ?side2 ?side3 ?side4 A2.out).mono ?_); (case side1 => refine (Kd.R_reads' (e := 5) (base := w.heap.size) (ok := fun k_ => some k_ ≠ (.slice Ao7 t378.length co7 : Value).ownBlock) (n := t381.length) (c := co6) ?_).2.2; exact (by (with_reducible repeat (first | apply Kd.R_alloc | apply Kd.R_drewN | apply Kd.R_drew)); exact (Kd.R_mono (Kd.R_far (p := ⟨gb384, 5, none⟩) (Kd.R_far (p := ⟨gb384, 4, none⟩) (Kd.R_far (p := ⟨gb384, 3, none⟩) (Kd.R_far (p := ⟨gb384, 2, none⟩) (Kd.R_far (p := ⟨gb384, 1, none⟩) (Kd.R_far (p := ⟨gb384, 0, none⟩) (Kd.R_types HO383.out BK384.out (by decide)) (fun _ hk => hk.2) (.int .u16 t372)) (fun _ hk => hk.2) (.int .u16 t373)) (fun _ hk => hk.2) (.int .u32 t374)) (fun _ hk => hk.2) (.int .u32 t375)) (fun _ hk => hk.2) (.int .u8 t376)) (fun _ hk => hk.2) (.int .u16 t377)) (fun _ h_ => h_.1)))); (case side2 => exact (Kd.R_reads' HO383.out).2.1); (case side3 => refine (Kd.R_reads' (e := 5) (base := w.heap.size) (ok := fun k_ => some k_ ≠ (.slice Ao6 t381.length co6 : Value).ownBlock) (n := t378.length) (c := co7) ?_).2.2; exact (by (with_reducible repeat (first | apply Kd.R_alloc | apply Kd.R_drewN | apply Kd.R_drew)); exact (Kd.R_mono (Kd.R_far (p := ⟨gb384, 5, none⟩) (Kd.R_far (p := ⟨gb384, 4, none⟩) (Kd.R_far (p := ⟨gb384, 3, none⟩) (Kd.R_far (p := ⟨gb384, 2, none⟩) (Kd.R_far (p := ⟨gb384, 1, none⟩) (Kd.R_far (p := ⟨gb384, 0, none⟩) (Kd.R_types HO380.out BK384.out (by decide)) (fun _ hk => hk.2) (.int .u16 t372)) (fun _ hk => hk.2) (.int .u16 t373)) (fun _ hk => hk.2) (.int .u32 t374)) (fun _ hk => hk.2) (.int .u32 t375)) (fun _ hk => hk.2) (.int .u8 t376)) (fun _ hk => hk.2) (.int .u16 t377)) (fun _ h_ => h_.1)))); (case side4 => exact (Kd.R_reads' HO380.out).2.1); rintro e w8 ⟨v386, rfl, ho0, hb⟩; refine ⟨_, rfl, ?_⟩; have n0_ := Aside0.mk (Kd.R_elder' (by (with_reducible repeat (first | apply Kd.R_alloc | apply Kd.R_drewN | apply Kd.R_drew)); exact (Kd.R_mono (Kd.R_far (p := ⟨gb384, 5, none⟩) (Kd.R_far (p := ⟨gb384, 4, none⟩) (Kd.R_far (p := ⟨gb384, 3, none⟩) (Kd.R_far (p := ⟨gb384, 2, none⟩) (Kd.R_far (p := ⟨gb384, 1, none⟩) (Kd.R_far (p := ⟨gb384, 0, none⟩) (Kd.R_types HO380.out BK384.out (by decide)) (fun _ hk => hk.2) (.int .u16 t372)) (fun _ hk => hk.2) (.int .u16 t373)) (fun _ hk => hk.2) (.int .u32 t374)) (fun _ hk => hk.2) (.int .u32 t375)) (fun _ hk => hk.2) (.int .u8 t376)) (fun _ hk => hk.2) (.int .u16 t377)) (fun _ h_ => h_.1))) (Kd.R_base ho0) hb); have n1_ := Aside0.mk (Kd.R_elder' (by (with_reducible repeat (first | apply Kd.R_alloc | apply Kd.R_drewN | apply Kd.R_drew)); exact (Kd.R_mono (Kd.R_far (p := ⟨gb384, 5, none⟩) (Kd.R_far (p := ⟨gb384, 4, none⟩) (Kd.R_far (p := ⟨gb384, 3, none⟩) (Kd.R_far (p := ⟨gb384, 2, none⟩) (Kd.R_far (p := ⟨gb384, 1, none⟩) (Kd.R_far (p := ⟨gb384, 0, none⟩) (Kd.R_types HO383.out BK384.out (by decide)) (fun _ hk => hk.2) (.int .u16 t372)) (fun _ hk => hk.2) (.int .u16 t373)) (fun _ hk => hk.2) (.int .u32 t374)) (fun _ hk => hk.2) (.int .u32 t375)) (fun _ hk => hk.2) (.int .u8 t376)) (fun _ hk => hk.2) (.int .u16 t377)) (fun _ h_ => h_.1))) (Kd.R_base ho0) hb); have n2_ := Aside0.mk (Kd.R_lower (Kd.R_new' (Kd.R_new' ho0 (Kd.R_lt (by (with_reducible repeat (first | apply Kd.R_alloc | apply Kd.R_drewN | apply Kd.R_drew)); exact (Kd.R_mono (Kd.R_far (p := ⟨gb384, 5, none⟩) (Kd.R_far (p := ⟨gb384, 4, none⟩) (Kd.R_far (p := ⟨gb384, 3, none⟩) (Kd.R_far (p := ⟨gb384, 2, none⟩) (Kd.R_far (p := ⟨gb384, 1, none⟩) (Kd.R_far (p := ⟨gb384, 0, none⟩) (Kd.R_types HO380.out BK384.out (by decide)) (fun _ hk => hk.2) (.int .u16 t372)) (fun _ hk => hk.2) (.int .u16 t373)) (fun _ hk => hk.2) (.int .u32 t374)) (fun _ hk => hk.2) (.int .u32 t375)) (fun _ hk => hk.2) (.int .u8 t376)) (fun _ hk => hk.2) (.int .u16 t377)) (fun _ h_ => h_.1))))) (Kd.R_lt (by (with_reducible repeat (first | apply Kd.R_alloc | apply Kd.R_drewN | apply Kd.R_drew)); exact (Kd.R_mono (Kd.R_far (p := ⟨gb384, 5, none⟩) (Kd.R_far (p := ⟨gb384, 4, none⟩) (Kd.R_far (p := ⟨gb384, 3, none⟩) (Kd.R_far (p := ⟨gb384, 2, none⟩) (Kd.R_far (p := ⟨gb384, 1, none⟩) (Kd.R_far (p := ⟨gb384, 0, none⟩) (Kd.R_types HO383.out BK384.out (by decide)) (fun _ hk => hk.2) (.int .u16 t372)) (fun _ hk => hk.2) (.int .u16 t373)) (fun _ hk => hk.2) (.int .u32 t374)) (fun _ hk => hk.2) (.int .u32 t375)) (fun _ hk => hk.2) (.int .u8 t376)) (fun _ hk => hk.2) (.int .u16 t377)) (fun _ h_ => h_.1))))) (below_size (by repeat (first | (with_reducible first | exact HB.out | apply below_alloc | apply pw_below_drewN | apply below_drew1 | refine below_set ?_ GE384.out) | exact HB.out)))); have n3_ := Aside0.mk (blk_below (g := gb384) (o := .cells #[.int .u16 t372, .int .u16 t373, .int .u32 t374, .int .u32 t375, .int .u8 t376, .int .u16 t377] 59 (0, 0)) (by (with_reducible repeat (first | refine blk_drewN ?_ _ | refine blk_drew ?_ | refine blk_alloc ?_ _)); refine blk_put (cs := #[.int .u16 t372, .int .u16 t373, .int .u32 t374, .int .u32 t375, .int .u8 t376, .int .u16 0]) ?_ 5 _ rfl; (with_reducible repeat (first | refine blk_drewN ?_ _ | refine blk_drew ?_ | refine blk_alloc ?_ _)); refine blk_put (cs := #[.int .u16 t372, .int .u16 t373, .int .u32 t374, .int .u32 t375, .int .u8 0, .int .u16 0]) ?_ 4 _ rfl; (with_reducible repeat (first | refine blk_drewN ?_ _ | refine blk_drew ?_ | refine blk_alloc ?_ _)); refine blk_put (cs := #[.int .u16 t372, .int .u16 t373, .int .u32 t374, .int .u32 0, .int .u8 0, .int .u16 0]) ?_ 3 _ rfl; (with_reducible repeat (first | refine blk_drewN ?_ _ | refine blk_drew ?_ | refine blk_alloc ?_ _)); refine blk_put (cs := #[.int .u16 t372, .int .u16 t373, .int .u32 0, .int .u32 0, .int .u8 0, .int .u16 0]) ?_ 2 _ rfl; (with_reducible repeat (first | refine blk_drewN ?_ _ | refine blk_drew ?_ | refine blk_alloc ?_ _)); refine blk_put (cs := #[.int .u16 t372, .int .u16 0, .int .u32 0, .int .u32 0, .int .u8 0, .int .u16 0]) ?_ 1 _ rfl; (with_reducible repeat (first | refine blk_drewN ?_ _ | refine blk_drew ?_ | refine blk_alloc ?_ _)); refine blk_put (cs := #[.int .u16 0, .int .u16 0, .int .u32 0, .int .u32 0, .int .u8 0, .int .u16 0]) ?_ 0 _ rfl; (with_reducible repeat (first | refine blk_drewN ?_ _ | refine blk_drew ?_ | refine blk_alloc ?_ _)); exact BK384.out) hb); have n4_ := Aside0.mk (below_step (by repeat (first | (with_reducible first | exact HB.out | apply below_alloc | apply pw_below_drewN | apply below_drew1 | refine below_set ?_ GE384.out) | exact HB.out)) hb); clear HO380; clear HO383; clear BK384; clear HB; have HO380 := n0_; have HO383 := n1_; have HO387 := n2_; have BK384 := n3_; have HB := n4_; clear n0_ n1_ n2_ n3_ n4_; (try clear hb); (try clear hb2); (try clear hk); (try clear hi); (try clear ho0)))
  go_loopg [5] k (fun kq v5 w' => ∃ (x4_1 : List Int) (x5_1 : Int), v5 = .int .i64 x5_1 ∧ Aside0 (sallyportlaw09_SegNames.l0 kq x4_1 x5_1 t372 t373 t374 t375 t376 t377 = some r) ∧ Aside0 (kq ≤ k) ∧ Aside0 (Kd.R (Kd.int .u8) 5 w' w.heap.size (fun _ => True) v386 x4_1) ∧ Aside0 (w'.heap[gb384]? = some (.cells #[.int .u16 t372, .int .u16 t373, .int .u32 t374, .int .u32 t375, .int .u8 t376, .int .u16 t377] 59 (0, 0))) ∧ Aside0 (Below w.heap.size w w'))
  case atStart => exact ⟨(t385), (0), (by first | rfl | (simp; done) | (simp [*]; done)), H', ⟨Nat.le_refl _⟩, ⟨by (with_reducible repeat (first | apply Kd.R_alloc | apply Kd.R_drewN | apply Kd.R_drew)); exact Kd.R_mono HO387.out (fun _ hk => trivial)⟩, ⟨by (with_reducible repeat (first | refine blk_drewN ?_ _ | refine blk_drew ?_ | refine blk_alloc ?_ _)); exact BK384.out⟩, ⟨by repeat (first | (with_reducible first | exact HB.out | apply below_alloc | apply pw_below_drewN | apply below_drew1 | refine below_set ?_ GE384.out) | exact HB.out)⟩⟩
  case round =>
    clear H'
    try clear c1
    try clear p2
    try clear c5
    try clear hcz5_0
    try clear hcz5_1
    try clear hcz5_2
    try clear hcz5_3
    try clear hcz5_4
    try clear hcz5_5
    try clear hfz5_0
    try clear hfz5_1
    try clear hfz5_2
    try clear hfz5_3
    try clear hfz5_4
    try clear hfz5_5
    obtain ⟨x4_1, x5_1, rfl, HA, HK1, HO_4, BK384, HB⟩ := hrel
    cases gk with
    | zero => exact absurd HA.out (by simp [sallyportlaw09_SegNames.l0])
    | succ k1 =>
      have H := HA.out
      clear HA
      simp only [sallyportlaw09_SegNames.l0] at H
      by_cases c9 : x5_1 < (x4_1.length : Int)
      · rw [if_pos c9] at H
        have c9b0 : decide (x5_1 < (x4_1.length : Int)) = true := decide_eq_true c9
        clear c9
        replace H := Option.bind_eq_some_iff.mp H
        obtain ⟨t388, A100, H⟩ := H
        replace H : (if 0 ≤ x5_1 then (if x5_1 < (t388.length : Int) then ((sallyportlaw09_SegReads.f k1 (t388.set (x5_1 : Int).toNat (Go.bits .xor .u8 (rd t388 x5_1) 16))).bind fun t393 => (if t393 = true then (if x5_1 ≤ (x4_1.length : Int) then ((sallyportlaw09_SegReads.f k1 (x4_1.take (x5_1 : Int).toNat)).bind fun t398 => (if t398 = true then ((sallyportlaw09_join.f x4_1 (x4_1.take (x5_1 : Int).toNat)).bind fun t403 => ((sallyportlaw09_SegReads.f k1 t403).bind fun t406 => (if t406 = true then (sallyportlaw09_SegNames.l0 k1 x4_1 (wrap64 (x5_1 + 1)) t372 t373 t374 t375 t376 t377) else (some false)))) else (some false))) else (none)) else (some false))) else (none)) else (none)) = some r := H
        have A10 := Aside0.mk A100
        clear A100
        by_cases c11 : 0 ≤ x5_1
        · rw [if_pos c11] at H
          have c11b0 : decide (0 ≤ x5_1) = true := decide_eq_true c11
          clear c11
          by_cases c12 : x5_1 < (t388.length : Int)
          · rw [if_pos c12] at H
            have c12b0 : decide (x5_1 < (t388.length : Int)) = true := decide_eq_true c12
            clear c12
            obtain ⟨y392, hy392⟩ : ∃ y_ : List Int, y_ = (t388.set (x5_1 : Int).toNat (Go.bits .xor .u8 (rd t388 x5_1) 16)) := ⟨_, rfl⟩
            replace H : ((sallyportlaw09_SegReads.f k1 y392).bind fun t393 => (if t393 = true then (if x5_1 ≤ (x4_1.length : Int) then ((sallyportlaw09_SegReads.f k1 (x4_1.take (x5_1 : Int).toNat)).bind fun t398 => (if t398 = true then ((sallyportlaw09_join.f x4_1 (x4_1.take (x5_1 : Int).toNat)).bind fun t403 => ((sallyportlaw09_SegReads.f k1 t403).bind fun t406 => (if t406 = true then (sallyportlaw09_SegNames.l0 k1 x4_1 (wrap64 (x5_1 + 1)) t372 t373 t374 t375 t376 t377) else (some false)))) else (some false))) else (none)) else (some false))) = some r := by first | (rw [hy392]; with_reducible exact H) | (have H2_ := (Option.bind_some _ _).symm.trans H; rw [hy392]; with_reducible exact H2_) | (have H2_ := (Option.bind_some _ _).symm.trans H; with_reducible exact H2_) | with_reducible exact H | (rw [hy392]; exact H) | exact H
            have Ny392 := Aside0.mk hy392
            clear hy392
            replace H := Option.bind_eq_some_iff.mp H
            obtain ⟨t393, A140, H⟩ := H
            replace H : (if t393 = true then (if x5_1 ≤ (x4_1.length : Int) then ((sallyportlaw09_SegReads.f k1 (x4_1.take (x5_1 : Int).toNat)).bind fun t398 => (if t398 = true then ((sallyportlaw09_join.f x4_1 (x4_1.take (x5_1 : Int).toNat)).bind fun t403 => ((sallyportlaw09_SegReads.f k1 t403).bind fun t406 => (if t406 = true then (sallyportlaw09_SegNames.l0 k1 x4_1 (wrap64 (x5_1 + 1)) t372 t373 t374 t375 t376 t377) else (some false)))) else (some false))) else (none)) else (some false)) = some r := H
            have A14 := Aside0.mk A140
            clear A140
            by_cases c15 : t393 = true
            · subst c15
              have H1 : (if x5_1 ≤ (x4_1.length : Int) then ((sallyportlaw09_SegReads.f k1 (x4_1.take (x5_1 : Int).toNat)).bind fun t398 => (if t398 = true then ((sallyportlaw09_join.f x4_1 (x4_1.take (x5_1 : Int).toNat)).bind fun t403 => ((sallyportlaw09_SegReads.f k1 t403).bind fun t406 => (if t406 = true then (sallyportlaw09_SegNames.l0 k1 x4_1 (wrap64 (x5_1 + 1)) t372 t373 t374 t375 t376 t377) else (some false)))) else (some false))) else (none)) = some r := by rw [if_pos rfl] at H; exact H
              clear H
              have H := H1
              clear H1
              have c16b0 := eq_true (of_decide_eq_true (by first | (with_reducible assumption) | assumption) : 0 ≤ x5_1)
              by_cases c17 : x5_1 ≤ (x4_1.length : Int)
              · rw [if_pos c17] at H
                have c17b0 := eq_true c17
                have c17b1 : decide (x5_1 ≤ (x4_1.length : Int)) = true := decide_eq_true c17
                clear c17
                obtain ⟨y394, hy394⟩ : ∃ y_ : List Int, y_ = (x4_1.take (x5_1 : Int).toNat) := ⟨_, rfl⟩
                replace H : ((sallyportlaw09_SegReads.f k1 y394).bind fun t398 => (if t398 = true then ((sallyportlaw09_join.f x4_1 (x4_1.take (x5_1 : Int).toNat)).bind fun t403 => ((sallyportlaw09_SegReads.f k1 t403).bind fun t406 => (if t406 = true then (sallyportlaw09_SegNames.l0 k1 x4_1 (wrap64 (x5_1 + 1)) t372 t373 t374 t375 t376 t377) else (some false)))) else (some false))) = some r := by first | (rw [hy394]; with_reducible exact H) | (have H2_ := (Option.bind_some _ _).symm.trans H; rw [hy394]; with_reducible exact H2_) | (have H2_ := (Option.bind_some _ _).symm.trans H; with_reducible exact H2_) | with_reducible exact H | (rw [hy394]; exact H) | exact H
                have Ny394 := Aside0.mk hy394
                clear hy394
                replace H := Option.bind_eq_some_iff.mp H
                obtain ⟨t398, A180, H⟩ := H
                replace H : (if t398 = true then ((sallyportlaw09_join.f x4_1 (x4_1.take (x5_1 : Int).toNat)).bind fun t403 => ((sallyportlaw09_SegReads.f k1 t403).bind fun t406 => (if t406 = true then (sallyportlaw09_SegNames.l0 k1 x4_1 (wrap64 (x5_1 + 1)) t372 t373 t374 t375 t376 t377) else (some false)))) else (some false)) = some r := H
                have A18 := Aside0.mk A180
                clear A180
                by_cases c19 : t398 = true
                · subst c19
                  have H1 : ((sallyportlaw09_join.f x4_1 (x4_1.take (x5_1 : Int).toNat)).bind fun t403 => ((sallyportlaw09_SegReads.f k1 t403).bind fun t406 => (if t406 = true then (sallyportlaw09_SegNames.l0 k1 x4_1 (wrap64 (x5_1 + 1)) t372 t373 t374 t375 t376 t377) else (some false)))) = some r := by rw [if_pos rfl] at H; exact H
                  clear H
                  have H := H1
                  clear H1
                  have c20b0 := eq_true (of_decide_eq_true (by first | (with_reducible assumption) | assumption) : 0 ≤ x5_1)
                  have c21b0 := eq_true (of_decide_eq_true (by first | (with_reducible assumption) | assumption) : x5_1 ≤ (x4_1.length : Int))
                  have hy399 := Ny394.out
                  replace H : ((sallyportlaw09_join.f x4_1 y394).bind fun t403 => ((sallyportlaw09_SegReads.f k1 t403).bind fun t406 => (if t406 = true then (sallyportlaw09_SegNames.l0 k1 x4_1 (wrap64 (x5_1 + 1)) t372 t373 t374 t375 t376 t377) else (some false)))) = some r := by first | (rw [hy399]; with_reducible exact H) | (have H2_ := (Option.bind_some _ _).symm.trans H; rw [hy399]; with_reducible exact H2_) | (have H2_ := (Option.bind_some _ _).symm.trans H; with_reducible exact H2_) | with_reducible exact H | (rw [hy399]; exact H) | exact H
                  have Ny399 := Aside0.mk hy399
                  clear hy399
                  replace H := Option.bind_eq_some_iff.mp H
                  obtain ⟨t403, A220, H⟩ := H
                  replace H : ((sallyportlaw09_SegReads.f k1 t403).bind fun t406 => (if t406 = true then (sallyportlaw09_SegNames.l0 k1 x4_1 (wrap64 (x5_1 + 1)) t372 t373 t374 t375 t376 t377) else (some false))) = some r := H
                  have A22 := Aside0.mk A220
                  clear A220
                  replace H := Option.bind_eq_some_iff.mp H
                  obtain ⟨t406, A230, H⟩ := H
                  replace H : (if t406 = true then (sallyportlaw09_SegNames.l0 k1 x4_1 (wrap64 (x5_1 + 1)) t372 t373 t374 t375 t376 t377) else (some false)) = some r := H
                  have A23 := Aside0.mk A230
                  clear A230
                  by_cases c24 : t406 = true
                  · subst c24
                    have H1 : (sallyportlaw09_SegNames.l0 k1 x4_1 (wrap64 (x5_1 + 1)) t372 t373 t374 t375 t376 t377) = some r := by rw [if_pos rfl] at H; exact H
                    clear H
                    have H := H1
                    clear H1
                    have H' := Aside0.mk H
                    clear H
                    obtain ⟨Ao25, co25, eo25⟩ := Kd.R_slice HO_4.out
                    subst eo25
                    go_wp2_with (first | ((with_reducible refine gate_callee (f := 18) rfl ?_); refine goesL_ (some 22) rfl rfl Try.func18 (by kernel_rfl) rfl #[.slice Ao25 x4_1.length co25] rfl (by (try simp only [List.map_toArray, List.map_cons, List.map_nil]); first | done | rfl | (simp only [List.length_drop, List.length_take]; rfl)) ?_; (with_reducible refine (sallyportref00_CopyBytes.calls _ _ x4_1 t388 _ ?side1 ?side2 A10.out).mono ?_); (case side1 => repeat (first | exact (Kd.R_reads' HO_4.out).2.2 | (with_reducible refine Kd.C_alloc ?_ _) | (with_reducible refine Kd.C_drewN ?_ _) | (with_reducible refine Kd.C_drew ?_))); (case side2 => exact (Kd.R_reads' HO_4.out).2.1); rintro e w26 ⟨v389, rfl, ho0, hb⟩; refine ⟨_, rfl, ?_⟩; have n0_ := Aside0.mk (Kd.R_elder' (by (with_reducible repeat (first | apply Kd.R_alloc | apply Kd.R_drewN | apply Kd.R_drew)); exact HO_4.out) (Kd.R_base ho0) hb); have n1_ := Aside0.mk (Kd.R_lower (Kd.R_new' ho0 (Kd.R_lt (by (with_reducible repeat (first | apply Kd.R_alloc | apply Kd.R_drewN | apply Kd.R_drew)); exact HO_4.out))) (below_size (by repeat (first | (with_reducible first | exact HB.out | apply below_alloc | apply pw_below_drewN | apply below_drew1 | refine below_set ?_ GE384.out) | exact HB.out)))); have n2_ := Aside0.mk (blk_below (g := gb384) (o := .cells #[.int .u16 t372, .int .u16 t373, .int .u32 t374, .int .u32 t375, .int .u8 t376, .int .u16 t377] 59 (0, 0)) (by (with_reducible repeat (first | refine blk_drewN ?_ _ | refine blk_drew ?_ | refine blk_alloc ?_ _)); exact BK384.out) hb); have n3_ := Aside0.mk (below_step (by repeat (first | (with_reducible first | exact HB.out | apply below_alloc | apply pw_below_drewN | apply below_drew1 | refine below_set ?_ GE384.out) | exact HB.out)) hb); clear HO_4; clear BK384; clear HB; have HO_4 := n0_; have HO390 := n1_; have BK384 := n2_; have HB := n3_; clear n0_ n1_ n2_ n3_; (try clear hb); (try clear hb2); (try clear hk); (try clear hi); (try clear ho0); obtain ⟨Ao27, co27, eo27⟩ := Kd.R_slice HO390.out; subst eo27; have p391 : 0 ≤ (x5_1 : Int) := of_decide_eq_true (by first | (with_reducible assumption) | assumption); have q391 : x5_1 < (t388.length : Int) := of_decide_eq_true (by first | (with_reducible assumption) | assumption); obtain ⟨ad391, e391, hx391_0⟩ := Kd.at_int (Kd.R_reads' HO390.out).2.2 x5_1 p391 q391; cases e391; replace p391 := eq_true p391; replace q391 := eq_true q391; have p13 : 0 ≤ (x5_1 : Int) := of_decide_eq_true (by first | (with_reducible assumption) | assumption); have q13 : (x5_1 : Int) < ((t388.length : Int) : Int) := of_decide_eq_true (by first | (with_reducible assumption) | assumption); obtain ⟨go13, co13, eo13, gb13, gl13, cl13, HG13⟩ := Kd.R_form HO390.out (by omega); (first | cases eo13 | (injection eo13 with ea_ en_ ec_; (first | subst ea_ | (injection ea_ with ea_; subst ea_)); subst ec_; clear en_)); have GB13 := Aside0.mk gb13; have GG13 := Aside0.mk HG13; clear gb13 gl13 HG13; (first | simp only [add_plain] at hx391_0 | skip); obtain ⟨hx13_0, hf13_0⟩ := Kd.R_celln 0 HO390.out (x5_1 : Int) p13 q13; replace p13 := eq_true p13; replace q13 := eq_true q13; have n_ := Aside0.mk (Kd.R_mono (ok' := (fun k_ => some k_ ≠ (.slice Ao25 x4_1.length co25 : Value).ownBlock)) HO390.out (fun k_ hk => by first | exact hk.2 | exact hk | (simp [hk]; done))); clear HO390; have HO390 := n_; clear n_; obtain ⟨hy28_, hz28_⟩ := Kd.R_celln 0 HO390.out (x5_1 : Int) (of_decide_eq_true (by first | (with_reducible assumption) | assumption)) (of_decide_eq_true (by first | (with_reducible assumption) | assumption)); have HP28 := Kd.R_putg HO390.out (x5_1 : Int) (Go.bits .xor .u8 (rd t388 x5_1) 16)) | ((with_reducible refine gate_store (t := 5) (p := 30) rfl ?_); refine store_event (t := 5) (p := 30) (v := ?vo_w29) (w1 := (w26.setCell ⟨go13, (x5_1 : Int).toNat, none⟩ (.int .u8 (Go.bits .xor .u8 (rd t388 x5_1) 16)))) ?hg ?ho ?hn ?hr ?_; (case ho => rfl); (case hg => rfl); (case hn => rfl); (case hr => first | (go_simp; done) | (go_simp; rfl)); intro w29 hw; have hg : w26.grownBy w29 (some go13) := (by rw [hw]; exact HP28.2); have hp_ : Kd.R (Kd.int .u8) 5 w29 w.heap.size (fun k_ => some k_ ≠ (.slice Ao25 x4_1.length co25 : Value).ownBlock) (.slice (some ⟨go13, 0, none⟩) t388.length co27) y392 := (by rw [hw, Ny392.out]; exact HP28.1); clear HP28; have n0_ := Aside0.mk (Kd.R_after (v := (.slice (some ⟨go13, 0, none⟩) t388.length co27)) (v1 := (.slice (some ⟨go13, 0, none⟩) t388.length co27)) (ok := (fun _ => True)) (by (with_reducible repeat (first | apply Kd.R_alloc | apply Kd.R_drewN | apply Kd.R_drew)); exact HO_4.out) hg (.inl rfl)); have n1_ := Aside0.mk (blk_grown (g := gb384) (o := .cells #[.int .u16 t372, .int .u16 t373, .int .u32 t374, .int .u32 t375, .int .u8 t376, .int .u16 t377] 59 (0, 0)) (by (with_reducible repeat (first | refine blk_drewN ?_ _ | refine blk_drew ?_ | refine blk_alloc ?_ _)); exact BK384.out) hg (Kd.R_ne HO390.out BK384.out (by decide))); have n2_ := Aside0.mk (hp_); have n3_ := Aside0.mk ((by rw [hw]; exact below_set (HB.out) GB13.out : Below w.heap.size w w29)); clear HO_4; clear BK384; clear HO390; clear HB; have HO_4 := n0_; have BK384 := n1_; have HO390 := n2_; have HB := n3_; clear n0_ n1_ n2_ n3_; clear hg hw hp_) | ((with_reducible refine gate_callee (f := 14) rfl ?_); refine goesL_ (some 32) rfl rfl Try.func14 (by kernel_rfl) rfl #[.slice (some ⟨go13, 0, none⟩) y392.length co27] rfl (by (try simp only [List.map_toArray, List.map_cons, List.map_nil]); first | done | (rw [show y392.length = t388.length from (Kd.R_reads' HO390.out).1.symm] <;> rfl) | rfl | (simp only [List.length_drop, List.length_take]; rfl)) ?_; (with_reducible refine (sallyportlaw09_SegReads.calls k1 _ _ y392 true ⟨by first | rfl | exact hr_.out⟩ _ ?side1 ?side2 A14.out).mono ?_); (case side1 => repeat (first | exact (Kd.R_reads' HO390.out).2.2 | (with_reducible refine Kd.C_alloc ?_ _) | (with_reducible refine Kd.C_drewN ?_ _) | (with_reducible refine Kd.C_drew ?_))); (case side2 => rw [show y392.length = t388.length from (Kd.R_reads' HO390.out).1.symm]; exact (Kd.R_reads' HO390.out).2.1); rintro e w30 ⟨rfl, hb⟩; refine ⟨_, rfl, ?_⟩; have n0_ := Aside0.mk (Kd.R_below (by (with_reducible repeat (first | apply Kd.R_alloc | apply Kd.R_drewN | apply Kd.R_drew)); exact HO_4.out) hb); have n1_ := Aside0.mk (Kd.R_below (by (with_reducible repeat (first | apply Kd.R_alloc | apply Kd.R_drewN | apply Kd.R_drew)); exact HO390.out) hb); have n2_ := Aside0.mk (blk_below (g := gb384) (o := .cells #[.int .u16 t372, .int .u16 t373, .int .u32 t374, .int .u32 t375, .int .u8 t376, .int .u16 t377] 59 (0, 0)) (by (with_reducible repeat (first | refine blk_drewN ?_ _ | refine blk_drew ?_ | refine blk_alloc ?_ _)); exact BK384.out) hb); have n3_ := Aside0.mk (below_step (by repeat (first | (with_reducible first | exact HB.out | apply below_alloc | apply pw_below_drewN | apply below_drew1 | refine below_set ?_ GE384.out) | exact HB.out)) hb); clear HO_4; clear HO390; clear BK384; clear HB; have HO_4 := n0_; have HO390 := n1_; have BK384 := n2_; have HB := n3_; clear n0_ n1_ n2_ n3_; (try clear hb); (try clear hb2); (try clear hk); (try clear hi); have q31 : (x5_1 : Int) ≤ ((x4_1.length : Int) : Int) := of_decide_eq_true (by first | (with_reducible assumption) | assumption); obtain ⟨i031, hi031, _, hsz31, _⟩ := info_parts info5; have hroom31 : x4_1.length ≤ co25 := (Kd.R_reads' HO_4.out).2.1; have hC31 : Kd.C (Kd.int .u8) _ Ao25 x4_1.length x4_1 := (Kd.R_reads' HO_4.out).2.2; have hcut31 := cut_to (P := Try.prog) 26 5 .i64 Try.underlying26 hi031 Ao25 x4_1.length co25 x5_1 (of_decide_eq_true (by first | (with_reducible assumption) | assumption)) q31 hroom31; have hr31 := Kd.C_take (m := (x5_1 : Int).toNat) hC31 (by omega); have hy31 : y394.length = (x5_1 : Int).toNat := (by rw [Ny394.out, List.length_take]; omega); rw [← Ny394.out] at hr31; rw [← hy31] at hcut31; have HR397 := Aside0.mk hr31; have HC397 := Aside0.mk (show y394.length ≤ co25 from by omega); clear hr31 hC31 hroom31 hi031 hsz31; have KY31 := Aside0.mk hy31; clear hy31; have KL31 := Aside0.mk (show (x5_1 : Int).toNat ≤ x4_1.length from by omega); replace q31 := eq_true q31) | (go_at_call 14; (with_reducible refine (sallyportlaw09_SegReads.calls k1 _ _ y394 true ⟨by first | rfl | exact hr_.out⟩ _ ?side1 ?side2 A18.out).mono ?_); (case side1 => repeat (first | exact (by repeat (first | (with_reducible exact HR397.out) | (with_reducible refine Kd.C_alloc ?_ _) | (with_reducible refine Kd.C_drewN ?_ _) | (with_reducible refine Kd.C_drew ?_) | exact HR397.out)) | (with_reducible refine Kd.C_alloc ?_ _) | (with_reducible refine Kd.C_drewN ?_ _) | (with_reducible refine Kd.C_drew ?_))); (case side2 => exact HC397.out); rintro e w32 ⟨rfl, hb⟩; have n0_ := Aside0.mk (Kd.R_below (by (with_reducible repeat (first | apply Kd.R_alloc | apply Kd.R_drewN | apply Kd.R_drew)); exact HO_4.out) hb); have n1_ := Aside0.mk (Kd.R_below (by (with_reducible repeat (first | apply Kd.R_alloc | apply Kd.R_drewN | apply Kd.R_drew)); exact HO390.out) hb); have n2_ := Aside0.mk (blk_below (g := gb384) (o := .cells #[.int .u16 t372, .int .u16 t373, .int .u32 t374, .int .u32 t375, .int .u8 t376, .int .u16 t377] 59 (0, 0)) (by (with_reducible repeat (first | refine blk_drewN ?_ _ | refine blk_drew ?_ | refine blk_alloc ?_ _)); exact BK384.out) hb); have n3_ := Aside0.mk (Kd.C_below (by repeat (first | (with_reducible exact HR397.out) | (with_reducible refine Kd.C_alloc ?_ _) | (with_reducible refine Kd.C_drewN ?_ _) | (with_reducible refine Kd.C_drew ?_) | exact HR397.out)) hb); have n4_ := Aside0.mk (below_step (by repeat (first | (with_reducible first | exact HB.out | apply below_alloc | apply pw_below_drewN | apply below_drew1 | refine below_set ?_ GE384.out) | exact HB.out)) hb); clear HO_4; clear HO390; clear BK384; clear HR397; clear HB; have HO_4 := n0_; have HO390 := n1_; have BK384 := n2_; have HR397 := n3_; have HB := n4_; clear n0_ n1_ n2_ n3_ n4_; (try clear hb); (try clear hb2); (try clear hk); (try clear hi); have q33 : (x5_1 : Int) ≤ ((x4_1.length : Int) : Int) := of_decide_eq_true (by first | (with_reducible assumption) | assumption); obtain ⟨i033, hi033, _, hsz33, _⟩ := info_parts info5; have hroom33 : x4_1.length ≤ co25 := (Kd.R_reads' HO_4.out).2.1; have hC33 : Kd.C (Kd.int .u8) _ Ao25 x4_1.length x4_1 := (Kd.R_reads' HO_4.out).2.2; have hcut33 := cut_to (P := Try.prog) 26 5 .i64 Try.underlying26 hi033 Ao25 x4_1.length co25 x5_1 (of_decide_eq_true (by first | (with_reducible assumption) | assumption)) q33 hroom33; have hr33 := Kd.C_take (m := (x5_1 : Int).toNat) hC33 (by omega); have hy33 : y394.length = (x5_1 : Int).toNat := (by rw [Ny399.out, List.length_take]; omega); rw [← Ny399.out] at hr33; rw [← hy33] at hcut33; have HR402 := Aside0.mk hr33; have HC402 := Aside0.mk (show y394.length ≤ co25 from by omega); clear hr33 hC33 hroom33 hi033 hsz33; have KY33 := Aside0.mk hy33; clear hy33; have KL33 := Aside0.mk (show (x5_1 : Int).toNat ≤ x4_1.length from by omega); replace q33 := eq_true q33) | (go_at_call 52; (with_reducible refine (sallyportlaw09_join.calls _ _ x4_1 _ _ y394 t403 _ ?side1 ?side2 ?side3 ?side4 A22.out).mono ?_); (case side1 => repeat (first | exact (Kd.R_reads' HO_4.out).2.2 | (with_reducible refine Kd.C_alloc ?_ _) | (with_reducible refine Kd.C_drewN ?_ _) | (with_reducible refine Kd.C_drew ?_))); (case side2 => exact (Kd.R_reads' HO_4.out).2.1); (case side3 => repeat (first | exact (by repeat (first | (with_reducible exact HR402.out) | (with_reducible refine Kd.C_alloc ?_ _) | (with_reducible refine Kd.C_drewN ?_ _) | (with_reducible refine Kd.C_drew ?_) | exact HR402.out)) | (with_reducible refine Kd.C_alloc ?_ _) | (with_reducible refine Kd.C_drewN ?_ _) | (with_reducible refine Kd.C_drew ?_))); (case side4 => exact HC402.out); rintro e w34 ⟨v404, rfl, ho0, hb⟩; have n0_ := Aside0.mk (Kd.R_elder' (by (with_reducible repeat (first | apply Kd.R_alloc | apply Kd.R_drewN | apply Kd.R_drew)); exact HO_4.out) (Kd.R_base ho0) hb); have n1_ := Aside0.mk (Kd.R_elder' (by (with_reducible repeat (first | apply Kd.R_alloc | apply Kd.R_drewN | apply Kd.R_drew)); exact HO390.out) (Kd.R_base ho0) hb); have n2_ := Aside0.mk (Kd.R_lower (Kd.R_new' (Kd.R_new' ho0 (Kd.R_lt (by (with_reducible repeat (first | apply Kd.R_alloc | apply Kd.R_drewN | apply Kd.R_drew)); exact HO_4.out))) (Kd.R_lt (by (with_reducible repeat (first | apply Kd.R_alloc | apply Kd.R_drewN | apply Kd.R_drew)); exact HO390.out))) (below_size (by repeat (first | (with_reducible first | exact HB.out | apply below_alloc | apply pw_below_drewN | apply below_drew1 | refine below_set ?_ GE384.out) | exact HB.out)))); have n3_ := Aside0.mk (blk_below (g := gb384) (o := .cells #[.int .u16 t372, .int .u16 t373, .int .u32 t374, .int .u32 t375, .int .u8 t376, .int .u16 t377] 59 (0, 0)) (by (with_reducible repeat (first | refine blk_drewN ?_ _ | refine blk_drew ?_ | refine blk_alloc ?_ _)); exact BK384.out) hb); have n4_ := Aside0.mk (Kd.C_below (by repeat (first | (with_reducible exact HR397.out) | (with_reducible refine Kd.C_alloc ?_ _) | (with_reducible refine Kd.C_drewN ?_ _) | (with_reducible refine Kd.C_drew ?_) | exact HR397.out)) hb); have n5_ := Aside0.mk (Kd.C_below (by repeat (first | (with_reducible exact HR402.out) | (with_reducible refine Kd.C_alloc ?_ _) | (with_reducible refine Kd.C_drewN ?_ _) | (with_reducible refine Kd.C_drew ?_) | exact HR402.out)) hb); have n6_ := Aside0.mk (below_step (by repeat (first | (with_reducible first | exact HB.out | apply below_alloc | apply pw_below_drewN | apply below_drew1 | refine below_set ?_ GE384.out) | exact HB.out)) hb); clear HO_4; clear HO390; clear BK384; clear HR397; clear HR402; clear HB; have HO_4 := n0_; have HO390 := n1_; have HO405 := n2_; have BK384 := n3_; have HR397 := n4_; have HR402 := n5_; have HB := n6_; clear n0_ n1_ n2_ n3_ n4_ n5_ n6_; (try clear hb); (try clear hb2); (try clear hk); (try clear hi); (try clear ho0); obtain ⟨Ao35, co35, eo35⟩ := Kd.R_slice HO405.out; subst eo35) | (go_at_call 14; (with_reducible refine (sallyportlaw09_SegReads.calls k1 _ _ t403 true ⟨by first | rfl | exact hr_.out⟩ _ ?side1 ?side2 A23.out).mono ?_); (case side1 => repeat (first | exact (Kd.R_reads' HO405.out).2.2 | (with_reducible refine Kd.C_alloc ?_ _) | (with_reducible refine Kd.C_drewN ?_ _) | (with_reducible refine Kd.C_drew ?_))); (case side2 => exact (Kd.R_reads' HO405.out).2.1); rintro e w36 ⟨rfl, hb⟩; have n0_ := Aside0.mk (Kd.R_below (by (with_reducible repeat (first | apply Kd.R_alloc | apply Kd.R_drewN | apply Kd.R_drew)); exact HO_4.out) hb); have n1_ := Aside0.mk (Kd.R_below (by (with_reducible repeat (first | apply Kd.R_alloc | apply Kd.R_drewN | apply Kd.R_drew)); exact HO390.out) hb); have n2_ := Aside0.mk (Kd.R_below (by (with_reducible repeat (first | apply Kd.R_alloc | apply Kd.R_drewN | apply Kd.R_drew)); exact HO405.out) hb); have n3_ := Aside0.mk (blk_below (g := gb384) (o := .cells #[.int .u16 t372, .int .u16 t373, .int .u32 t374, .int .u32 t375, .int .u8 t376, .int .u16 t377] 59 (0, 0)) (by (with_reducible repeat (first | refine blk_drewN ?_ _ | refine blk_drew ?_ | refine blk_alloc ?_ _)); exact BK384.out) hb); have n4_ := Aside0.mk (Kd.C_below (by repeat (first | (with_reducible exact HR397.out) | (with_reducible refine Kd.C_alloc ?_ _) | (with_reducible refine Kd.C_drewN ?_ _) | (with_reducible refine Kd.C_drew ?_) | exact HR397.out)) hb); have n5_ := Aside0.mk (Kd.C_below (by repeat (first | (with_reducible exact HR402.out) | (with_reducible refine Kd.C_alloc ?_ _) | (with_reducible refine Kd.C_drewN ?_ _) | (with_reducible refine Kd.C_drew ?_) | exact HR402.out)) hb); have n6_ := Aside0.mk (below_step (by repeat (first | (with_reducible first | exact HB.out | apply below_alloc | apply pw_below_drewN | apply below_drew1 | refine below_set ?_ GE384.out) | exact HB.out)) hb); clear HO_4; clear HO390; clear HO405; clear BK384; clear HR397; clear HR402; clear HB; have HO_4 := n0_; have HO390 := n1_; have HO405 := n2_; have BK384 := n3_; have HR397 := n4_; have HR402 := n5_; have HB := n6_; clear n0_ n1_ n2_ n3_ n4_ n5_ n6_; (try clear hb); (try clear hb2); (try clear hk); (try clear hi)))
                    go_roundg k1
                    case measure => have := HK1.out; omega
                    case rel => exact ⟨(x4_1), (wrap64 (x5_1 + 1)), (by first | rfl | (simp; done) | (simp [*]; done)), H', ⟨by have := HK1.out; omega⟩, ⟨by (with_reducible repeat (first | apply Kd.R_alloc | apply Kd.R_drewN | apply Kd.R_drew)); exact Kd.R_mono HO_4.out (fun _ hk => trivial)⟩, ⟨by (with_reducible repeat (first | refine blk_drewN ?_ _ | refine blk_drew ?_ | refine blk_alloc ?_ _)); exact BK384.out⟩, ⟨by repeat (first | (with_reducible first | exact HB.out | apply below_alloc | apply pw_below_drewN | apply below_drew1 | refine below_set ?_ GE384.out) | exact HB.out)⟩⟩
                  · replace c24 := Bool.eq_false_iff.mpr c24
                    subst c24
                    have H1 : (some false) = some r := by rw [if_neg (show ¬ (false = true) by decide)] at H; exact H
                    clear H
                    have H := H1
                    clear H1
                    obtain rfl := Option.some.inj H
                    exact absurd hr_.out (by decide)
                · replace c19 := Bool.eq_false_iff.mpr c19
                  subst c19
                  have H1 : (some false) = some r := by rw [if_neg (show ¬ (false = true) by decide)] at H; exact H
                  clear H
                  have H := H1
                  clear H1
                  obtain rfl := Option.some.inj H
                  exact absurd hr_.out (by decide)
              · rw [if_neg c17] at H
                exact absurd H (by simp)
            · replace c15 := Bool.eq_false_iff.mpr c15
              subst c15
              have H1 : (some false) = some r := by rw [if_neg (show ¬ (false = true) by decide)] at H; exact H
              clear H
              have H := H1
              clear H1
              obtain rfl := Option.some.inj H
              exact absurd hr_.out (by decide)
          · rw [if_neg c12] at H
            exact absurd H (by simp)
        · rw [if_neg c11] at H
          exact absurd H (by simp)
      · rw [if_neg c9] at H
        have c9b0 : decide (x5_1 < (x4_1.length : Int)) = false := decide_eq_false c9
        clear c9
        replace H := Option.bind_eq_some_iff.mp H
        obtain ⟨t407, A370, H⟩ := H
        replace H : (if t407 = 90 then ((sallyportlaw09_SegBytes.f k1 0 0 0 0 64 0 ([] : List Int)).bind fun t408 => (if t408 = true then (if 2048 ≤ 281474976710656 then ((sallyportlaw09_SegBytes.f k1 0 0 0 0 64 0 (List.replicate 2048 0)).bind fun t412 => (if t412 = true then ((sallyportlaw09_awake.f k1).bind fun t413 => (if t413 = true then (if 2028 ≤ 281474976710656 then ((sallyportlaw09_SegBytes.f k1 t372 t373 t374 t375 t376 t377 (List.replicate 2028 0)).bind fun t417 => (if t417 = true then (if 2029 ≤ 281474976710656 then ((sallyportlaw09_SegBytes.f k1 t372 t373 t374 t375 t376 t377 (List.replicate 2029 0)).bind fun t421 => (if t421 = true then ((sallyportlaw09_SegBytes.f k1 0 0 0 0 0 0 ([] : List Int)).bind fun t422 => (if t422 = true then (if 70000 ≤ 281474976710656 then ((sallyportlaw09_SegReads.f k1 (List.replicate 70000 0)).bind fun t426 => (if t426 = true then ((sallyportlaw09_SegBack.f k1 t372 t373 t374 t375 t376 t377 (List.replicate 2028 0) ([] : List Int)).bind fun t430 => (some t430)) else (some false))) else (none)) else (some false))) else (some false))) else (none)) else (some false))) else (none)) else (some false))) else (some false))) else (none)) else (some false))) else (some false)) = some r := H
        have A37 := Aside0.mk A370
        clear A370
        by_cases c38 : t407 = 90
        · rw [if_pos c38] at H
          have c38b0 : (t407 == 90) = true := beq_iff_eq.mpr c38
          have c38b1 : (t407 != 90) = false := bne_eq_false_iff_eq.mpr c38
          clear c38
          replace H := Option.bind_eq_some_iff.mp H
          obtain ⟨t408, A390, H⟩ := H
          replace H : (if t408 = true then (if 2048 ≤ 281474976710656 then ((sallyportlaw09_SegBytes.f k1 0 0 0 0 64 0 (List.replicate 2048 0)).bind fun t412 => (if t412 = true then ((sallyportlaw09_awake.f k1).bind fun t413 => (if t413 = true then (if 2028 ≤ 281474976710656 then ((sallyportlaw09_SegBytes.f k1 t372 t373 t374 t375 t376 t377 (List.replicate 2028 0)).bind fun t417 => (if t417 = true then (if 2029 ≤ 281474976710656 then ((sallyportlaw09_SegBytes.f k1 t372 t373 t374 t375 t376 t377 (List.replicate 2029 0)).bind fun t421 => (if t421 = true then ((sallyportlaw09_SegBytes.f k1 0 0 0 0 0 0 ([] : List Int)).bind fun t422 => (if t422 = true then (if 70000 ≤ 281474976710656 then ((sallyportlaw09_SegReads.f k1 (List.replicate 70000 0)).bind fun t426 => (if t426 = true then ((sallyportlaw09_SegBack.f k1 t372 t373 t374 t375 t376 t377 (List.replicate 2028 0) ([] : List Int)).bind fun t430 => (some t430)) else (some false))) else (none)) else (some false))) else (some false))) else (none)) else (some false))) else (none)) else (some false))) else (some false))) else (none)) else (some false)) = some r := H
          have A39 := Aside0.mk A390
          clear A390
          by_cases c40 : t408 = true
          · subst c40
            have H1 : (if 2048 ≤ 281474976710656 then ((sallyportlaw09_SegBytes.f k1 0 0 0 0 64 0 (List.replicate 2048 0)).bind fun t412 => (if t412 = true then ((sallyportlaw09_awake.f k1).bind fun t413 => (if t413 = true then (if 2028 ≤ 281474976710656 then ((sallyportlaw09_SegBytes.f k1 t372 t373 t374 t375 t376 t377 (List.replicate 2028 0)).bind fun t417 => (if t417 = true then (if 2029 ≤ 281474976710656 then ((sallyportlaw09_SegBytes.f k1 t372 t373 t374 t375 t376 t377 (List.replicate 2029 0)).bind fun t421 => (if t421 = true then ((sallyportlaw09_SegBytes.f k1 0 0 0 0 0 0 ([] : List Int)).bind fun t422 => (if t422 = true then (if 70000 ≤ 281474976710656 then ((sallyportlaw09_SegReads.f k1 (List.replicate 70000 0)).bind fun t426 => (if t426 = true then ((sallyportlaw09_SegBack.f k1 t372 t373 t374 t375 t376 t377 (List.replicate 2028 0) ([] : List Int)).bind fun t430 => (some t430)) else (some false))) else (none)) else (some false))) else (some false))) else (none)) else (some false))) else (none)) else (some false))) else (some false))) else (none)) = some r := by rw [if_pos rfl] at H; exact H
            clear H
            have H := H1
            clear H1
            by_cases c41 : 2048 ≤ 281474976710656
            · rw [if_pos c41] at H
              have c41b0 := eq_true c41
              have c41b1 : decide (2048 ≤ 281474976710656) = true := decide_eq_true c41
              clear c41
              obtain ⟨y409, hy409⟩ : ∃ y_ : List Int, y_ = (List.replicate 2048 0) := ⟨_, rfl⟩
              replace H : ((sallyportlaw09_SegBytes.f k1 0 0 0 0 64 0 y409).bind fun t412 => (if t412 = true then ((sallyportlaw09_awake.f k1).bind fun t413 => (if t413 = true then (if 2028 ≤ 281474976710656 then ((sallyportlaw09_SegBytes.f k1 t372 t373 t374 t375 t376 t377 (List.replicate 2028 0)).bind fun t417 => (if t417 = true then (if 2029 ≤ 281474976710656 then ((sallyportlaw09_SegBytes.f k1 t372 t373 t374 t375 t376 t377 (List.replicate 2029 0)).bind fun t421 => (if t421 = true then ((sallyportlaw09_SegBytes.f k1 0 0 0 0 0 0 ([] : List Int)).bind fun t422 => (if t422 = true then (if 70000 ≤ 281474976710656 then ((sallyportlaw09_SegReads.f k1 (List.replicate 70000 0)).bind fun t426 => (if t426 = true then ((sallyportlaw09_SegBack.f k1 t372 t373 t374 t375 t376 t377 (List.replicate 2028 0) ([] : List Int)).bind fun t430 => (some t430)) else (some false))) else (none)) else (some false))) else (some false))) else (none)) else (some false))) else (none)) else (some false))) else (some false))) = some r := by first | (rw [hy409]; with_reducible exact H) | (have H2_ := (Option.bind_some _ _).symm.trans H; rw [hy409]; with_reducible exact H2_) | (have H2_ := (Option.bind_some _ _).symm.trans H; with_reducible exact H2_) | with_reducible exact H | (rw [hy409]; exact H) | exact H
              have Ny409 := Aside0.mk hy409
              clear hy409
              replace H := Option.bind_eq_some_iff.mp H
              obtain ⟨t412, A420, H⟩ := H
              replace H : (if t412 = true then ((sallyportlaw09_awake.f k1).bind fun t413 => (if t413 = true then (if 2028 ≤ 281474976710656 then ((sallyportlaw09_SegBytes.f k1 t372 t373 t374 t375 t376 t377 (List.replicate 2028 0)).bind fun t417 => (if t417 = true then (if 2029 ≤ 281474976710656 then ((sallyportlaw09_SegBytes.f k1 t372 t373 t374 t375 t376 t377 (List.replicate 2029 0)).bind fun t421 => (if t421 = true then ((sallyportlaw09_SegBytes.f k1 0 0 0 0 0 0 ([] : List Int)).bind fun t422 => (if t422 = true then (if 70000 ≤ 281474976710656 then ((sallyportlaw09_SegReads.f k1 (List.replicate 70000 0)).bind fun t426 => (if t426 = true then ((sallyportlaw09_SegBack.f k1 t372 t373 t374 t375 t376 t377 (List.replicate 2028 0) ([] : List Int)).bind fun t430 => (some t430)) else (some false))) else (none)) else (some false))) else (some false))) else (none)) else (some false))) else (none)) else (some false))) else (some false)) = some r := H
              have A42 := Aside0.mk A420
              clear A420
              by_cases c43 : t412 = true
              · subst c43
                have H1 : ((sallyportlaw09_awake.f k1).bind fun t413 => (if t413 = true then (if 2028 ≤ 281474976710656 then ((sallyportlaw09_SegBytes.f k1 t372 t373 t374 t375 t376 t377 (List.replicate 2028 0)).bind fun t417 => (if t417 = true then (if 2029 ≤ 281474976710656 then ((sallyportlaw09_SegBytes.f k1 t372 t373 t374 t375 t376 t377 (List.replicate 2029 0)).bind fun t421 => (if t421 = true then ((sallyportlaw09_SegBytes.f k1 0 0 0 0 0 0 ([] : List Int)).bind fun t422 => (if t422 = true then (if 70000 ≤ 281474976710656 then ((sallyportlaw09_SegReads.f k1 (List.replicate 70000 0)).bind fun t426 => (if t426 = true then ((sallyportlaw09_SegBack.f k1 t372 t373 t374 t375 t376 t377 (List.replicate 2028 0) ([] : List Int)).bind fun t430 => (some t430)) else (some false))) else (none)) else (some false))) else (some false))) else (none)) else (some false))) else (none)) else (some false))) = some r := by rw [if_pos rfl] at H; exact H
                clear H
                have H := H1
                clear H1
                replace H := Option.bind_eq_some_iff.mp H
                obtain ⟨t413, A440, H⟩ := H
                replace H : (if t413 = true then (if 2028 ≤ 281474976710656 then ((sallyportlaw09_SegBytes.f k1 t372 t373 t374 t375 t376 t377 (List.replicate 2028 0)).bind fun t417 => (if t417 = true then (if 2029 ≤ 281474976710656 then ((sallyportlaw09_SegBytes.f k1 t372 t373 t374 t375 t376 t377 (List.replicate 2029 0)).bind fun t421 => (if t421 = true then ((sallyportlaw09_SegBytes.f k1 0 0 0 0 0 0 ([] : List Int)).bind fun t422 => (if t422 = true then (if 70000 ≤ 281474976710656 then ((sallyportlaw09_SegReads.f k1 (List.replicate 70000 0)).bind fun t426 => (if t426 = true then ((sallyportlaw09_SegBack.f k1 t372 t373 t374 t375 t376 t377 (List.replicate 2028 0) ([] : List Int)).bind fun t430 => (some t430)) else (some false))) else (none)) else (some false))) else (some false))) else (none)) else (some false))) else (none)) else (some false)) = some r := H
                have A44 := Aside0.mk A440
                clear A440
                by_cases c45 : t413 = true
                · subst c45
                  have H1 : (if 2028 ≤ 281474976710656 then ((sallyportlaw09_SegBytes.f k1 t372 t373 t374 t375 t376 t377 (List.replicate 2028 0)).bind fun t417 => (if t417 = true then (if 2029 ≤ 281474976710656 then ((sallyportlaw09_SegBytes.f k1 t372 t373 t374 t375 t376 t377 (List.replicate 2029 0)).bind fun t421 => (if t421 = true then ((sallyportlaw09_SegBytes.f k1 0 0 0 0 0 0 ([] : List Int)).bind fun t422 => (if t422 = true then (if 70000 ≤ 281474976710656 then ((sallyportlaw09_SegReads.f k1 (List.replicate 70000 0)).bind fun t426 => (if t426 = true then ((sallyportlaw09_SegBack.f k1 t372 t373 t374 t375 t376 t377 (List.replicate 2028 0) ([] : List Int)).bind fun t430 => (some t430)) else (some false))) else (none)) else (some false))) else (some false))) else (none)) else (some false))) else (none)) = some r := by rw [if_pos rfl] at H; exact H
                  clear H
                  have H := H1
                  clear H1
                  by_cases c46 : 2028 ≤ 281474976710656
                  · rw [if_pos c46] at H
                    have c46b0 := eq_true c46
                    have c46b1 : decide (2028 ≤ 281474976710656) = true := decide_eq_true c46
                    clear c46
                    obtain ⟨y414, hy414⟩ : ∃ y_ : List Int, y_ = (List.replicate 2028 0) := ⟨_, rfl⟩
                    replace H : ((sallyportlaw09_SegBytes.f k1 t372 t373 t374 t375 t376 t377 y414).bind fun t417 => (if t417 = true then (if 2029 ≤ 281474976710656 then ((sallyportlaw09_SegBytes.f k1 t372 t373 t374 t375 t376 t377 (List.replicate 2029 0)).bind fun t421 => (if t421 = true then ((sallyportlaw09_SegBytes.f k1 0 0 0 0 0 0 ([] : List Int)).bind fun t422 => (if t422 = true then (if 70000 ≤ 281474976710656 then ((sallyportlaw09_SegReads.f k1 (List.replicate 70000 0)).bind fun t426 => (if t426 = true then ((sallyportlaw09_SegBack.f k1 t372 t373 t374 t375 t376 t377 (List.replicate 2028 0) ([] : List Int)).bind fun t430 => (some t430)) else (some false))) else (none)) else (some false))) else (some false))) else (none)) else (some false))) = some r := by first | (rw [hy414]; with_reducible exact H) | (have H2_ := (Option.bind_some _ _).symm.trans H; rw [hy414]; with_reducible exact H2_) | (have H2_ := (Option.bind_some _ _).symm.trans H; with_reducible exact H2_) | with_reducible exact H | (rw [hy414]; exact H) | exact H
                    have Ny414 := Aside0.mk hy414
                    clear hy414
                    replace H := Option.bind_eq_some_iff.mp H
                    obtain ⟨t417, A470, H⟩ := H
                    replace H : (if t417 = true then (if 2029 ≤ 281474976710656 then ((sallyportlaw09_SegBytes.f k1 t372 t373 t374 t375 t376 t377 (List.replicate 2029 0)).bind fun t421 => (if t421 = true then ((sallyportlaw09_SegBytes.f k1 0 0 0 0 0 0 ([] : List Int)).bind fun t422 => (if t422 = true then (if 70000 ≤ 281474976710656 then ((sallyportlaw09_SegReads.f k1 (List.replicate 70000 0)).bind fun t426 => (if t426 = true then ((sallyportlaw09_SegBack.f k1 t372 t373 t374 t375 t376 t377 (List.replicate 2028 0) ([] : List Int)).bind fun t430 => (some t430)) else (some false))) else (none)) else (some false))) else (some false))) else (none)) else (some false)) = some r := H
                    have A47 := Aside0.mk A470
                    clear A470
                    by_cases c48 : t417 = true
                    · subst c48
                      have H1 : (if 2029 ≤ 281474976710656 then ((sallyportlaw09_SegBytes.f k1 t372 t373 t374 t375 t376 t377 (List.replicate 2029 0)).bind fun t421 => (if t421 = true then ((sallyportlaw09_SegBytes.f k1 0 0 0 0 0 0 ([] : List Int)).bind fun t422 => (if t422 = true then (if 70000 ≤ 281474976710656 then ((sallyportlaw09_SegReads.f k1 (List.replicate 70000 0)).bind fun t426 => (if t426 = true then ((sallyportlaw09_SegBack.f k1 t372 t373 t374 t375 t376 t377 (List.replicate 2028 0) ([] : List Int)).bind fun t430 => (some t430)) else (some false))) else (none)) else (some false))) else (some false))) else (none)) = some r := by rw [if_pos rfl] at H; exact H
                      clear H
                      have H := H1
                      clear H1
                      by_cases c49 : 2029 ≤ 281474976710656
                      · rw [if_pos c49] at H
                        have c49b0 := eq_true c49
                        have c49b1 : decide (2029 ≤ 281474976710656) = true := decide_eq_true c49
                        clear c49
                        obtain ⟨y418, hy418⟩ : ∃ y_ : List Int, y_ = (List.replicate 2029 0) := ⟨_, rfl⟩
                        replace H : ((sallyportlaw09_SegBytes.f k1 t372 t373 t374 t375 t376 t377 y418).bind fun t421 => (if t421 = true then ((sallyportlaw09_SegBytes.f k1 0 0 0 0 0 0 ([] : List Int)).bind fun t422 => (if t422 = true then (if 70000 ≤ 281474976710656 then ((sallyportlaw09_SegReads.f k1 (List.replicate 70000 0)).bind fun t426 => (if t426 = true then ((sallyportlaw09_SegBack.f k1 t372 t373 t374 t375 t376 t377 (List.replicate 2028 0) ([] : List Int)).bind fun t430 => (some t430)) else (some false))) else (none)) else (some false))) else (some false))) = some r := by first | (rw [hy418]; with_reducible exact H) | (have H2_ := (Option.bind_some _ _).symm.trans H; rw [hy418]; with_reducible exact H2_) | (have H2_ := (Option.bind_some _ _).symm.trans H; with_reducible exact H2_) | with_reducible exact H | (rw [hy418]; exact H) | exact H
                        have Ny418 := Aside0.mk hy418
                        clear hy418
                        replace H := Option.bind_eq_some_iff.mp H
                        obtain ⟨t421, A500, H⟩ := H
                        replace H : (if t421 = true then ((sallyportlaw09_SegBytes.f k1 0 0 0 0 0 0 ([] : List Int)).bind fun t422 => (if t422 = true then (if 70000 ≤ 281474976710656 then ((sallyportlaw09_SegReads.f k1 (List.replicate 70000 0)).bind fun t426 => (if t426 = true then ((sallyportlaw09_SegBack.f k1 t372 t373 t374 t375 t376 t377 (List.replicate 2028 0) ([] : List Int)).bind fun t430 => (some t430)) else (some false))) else (none)) else (some false))) else (some false)) = some r := H
                        have A50 := Aside0.mk A500
                        clear A500
                        by_cases c51 : t421 = true
                        · subst c51
                          have H1 : ((sallyportlaw09_SegBytes.f k1 0 0 0 0 0 0 ([] : List Int)).bind fun t422 => (if t422 = true then (if 70000 ≤ 281474976710656 then ((sallyportlaw09_SegReads.f k1 (List.replicate 70000 0)).bind fun t426 => (if t426 = true then ((sallyportlaw09_SegBack.f k1 t372 t373 t374 t375 t376 t377 (List.replicate 2028 0) ([] : List Int)).bind fun t430 => (some t430)) else (some false))) else (none)) else (some false))) = some r := by rw [if_pos rfl] at H; exact H
                          clear H
                          have H := H1
                          clear H1
                          replace H := Option.bind_eq_some_iff.mp H
                          obtain ⟨t422, A520, H⟩ := H
                          replace H : (if t422 = true then (if 70000 ≤ 281474976710656 then ((sallyportlaw09_SegReads.f k1 (List.replicate 70000 0)).bind fun t426 => (if t426 = true then ((sallyportlaw09_SegBack.f k1 t372 t373 t374 t375 t376 t377 (List.replicate 2028 0) ([] : List Int)).bind fun t430 => (some t430)) else (some false))) else (none)) else (some false)) = some r := H
                          have A52 := Aside0.mk A520
                          clear A520
                          by_cases c53 : t422 = true
                          · subst c53
                            have H1 : (if 70000 ≤ 281474976710656 then ((sallyportlaw09_SegReads.f k1 (List.replicate 70000 0)).bind fun t426 => (if t426 = true then ((sallyportlaw09_SegBack.f k1 t372 t373 t374 t375 t376 t377 (List.replicate 2028 0) ([] : List Int)).bind fun t430 => (some t430)) else (some false))) else (none)) = some r := by rw [if_pos rfl] at H; exact H
                            clear H
                            have H := H1
                            clear H1
                            by_cases c54 : 70000 ≤ 281474976710656
                            · rw [if_pos c54] at H
                              have c54b0 := eq_true c54
                              have c54b1 : decide (70000 ≤ 281474976710656) = true := decide_eq_true c54
                              clear c54
                              obtain ⟨y423, hy423⟩ : ∃ y_ : List Int, y_ = (List.replicate 70000 0) := ⟨_, rfl⟩
                              replace H : ((sallyportlaw09_SegReads.f k1 y423).bind fun t426 => (if t426 = true then ((sallyportlaw09_SegBack.f k1 t372 t373 t374 t375 t376 t377 (List.replicate 2028 0) ([] : List Int)).bind fun t430 => (some t430)) else (some false))) = some r := by first | (rw [hy423]; with_reducible exact H) | (have H2_ := (Option.bind_some _ _).symm.trans H; rw [hy423]; with_reducible exact H2_) | (have H2_ := (Option.bind_some _ _).symm.trans H; with_reducible exact H2_) | with_reducible exact H | (rw [hy423]; exact H) | exact H
                              have Ny423 := Aside0.mk hy423
                              clear hy423
                              replace H := Option.bind_eq_some_iff.mp H
                              obtain ⟨t426, A550, H⟩ := H
                              replace H : (if t426 = true then ((sallyportlaw09_SegBack.f k1 t372 t373 t374 t375 t376 t377 (List.replicate 2028 0) ([] : List Int)).bind fun t430 => (some t430)) else (some false)) = some r := H
                              have A55 := Aside0.mk A550
                              clear A550
                              by_cases c56 : t426 = true
                              · subst c56
                                have H1 : ((sallyportlaw09_SegBack.f k1 t372 t373 t374 t375 t376 t377 (List.replicate 2028 0) ([] : List Int)).bind fun t430 => (some t430)) = some r := by rw [if_pos rfl] at H; exact H
                                clear H
                                have H := H1
                                clear H1
                                obtain ⟨y427, hy427⟩ : ∃ y_ : List Int, y_ = (List.replicate 2028 0) := ⟨_, rfl⟩
                                replace H : ((sallyportlaw09_SegBack.f k1 t372 t373 t374 t375 t376 t377 y427 ([] : List Int)).bind fun t430 => (some t430)) = some r := by first | (rw [hy427]; with_reducible exact H) | (have H2_ := (Option.bind_some _ _).symm.trans H; rw [hy427]; with_reducible exact H2_) | (have H2_ := (Option.bind_some _ _).symm.trans H; with_reducible exact H2_) | with_reducible exact H | (rw [hy427]; exact H) | exact H
                                have Ny427 := Aside0.mk hy427
                                clear hy427
                                replace H := Option.bind_eq_some_iff.mp H
                                obtain ⟨t430, A570, H⟩ := H
                                replace H : (some t430) = some r := H
                                have A57 := Aside0.mk A570
                                clear A570
                                obtain rfl := Option.some.inj H
                                obtain ⟨Ao58, co58, eo58⟩ := Kd.R_slice HO_4.out
                                subst eo58
                                try go_wp2_with (first | ((with_reducible refine gate_callee (f := 45) rfl ?_); refine goesL_ (some 51) rfl rfl Try.func45 (by kernel_rfl) rfl #[.agg #[.int .u16 0, .int .u16 0, .int .u32 0, .int .u32 0, .int .u8 64, .int .u16 0]] rfl (by (try simp only [List.map_toArray, List.map_cons, List.map_nil]); first | done | rfl | (simp only [List.length_drop, List.length_take]; rfl)) ?_; (with_reducible refine (seg_Check.calls 0 0 0 0 64 0 t407 _ A37.out).mono ?_); rintro e w59 ⟨rfl, hb⟩; refine ⟨_, rfl, ?_⟩; have n0_ := Aside0.mk (Kd.R_below (by (with_reducible repeat (first | apply Kd.R_alloc | apply Kd.R_drewN | apply Kd.R_drew)); exact HO_4.out) hb); have n1_ := Aside0.mk (blk_below (g := gb384) (o := .cells #[.int .u16 t372, .int .u16 t373, .int .u32 t374, .int .u32 t375, .int .u8 t376, .int .u16 t377] 59 (0, 0)) (by (with_reducible repeat (first | refine blk_drewN ?_ _ | refine blk_drew ?_ | refine blk_alloc ?_ _)); exact BK384.out) hb); have n2_ := Aside0.mk (below_step (by repeat (first | (with_reducible first | exact HB.out | apply below_alloc | apply pw_below_drewN | apply below_drew1 | refine below_set ?_ GE384.out) | exact HB.out)) hb); clear HO_4; clear BK384; clear HB; have HO_4 := n0_; have BK384 := n1_; have HB := n2_; clear n0_ n1_ n2_; (try clear hb); (try clear hb2); (try clear hk); (try clear hi))  | ((with_reducible refine gate_dst (N := 60) rfl ?_); (try (refine gate_guard (by rfl) ?_; dsimp only)); refine Kd.R_make (Kd.int .u8) _ 5 rfl (N := 60) rfl 26 _ _ rfl 2048 rfl rfl Try.underlying26 (.int .u8 0) 1 info5 rfl (by decide) (by omega) 0 (ok := fun _ => True) (okp := fun _ => True) rfl (fun _ hk => hk) trivial (by omega) (by omega) (Below.refl _ _) (Nat.le_refl _) ?_; intro v410 w61 ho62 hb hg_ hnew_; clear hg_ hnew_; (first | rw [← Ny409.out] at ho62 | (simp only [Int.reduceToNat] at ho62; rw [← Ny409.out] at ho62)); have n0_ := Aside0.mk (Kd.R_elder' (by (with_reducible repeat (first | apply Kd.R_alloc | apply Kd.R_drewN | apply Kd.R_drew)); exact HO_4.out) (Kd.R_base ho62) hb); have n1_ := Aside0.mk (Kd.R_lower (Kd.R_new' ho62 (Kd.R_lt (by (with_reducible repeat (first | apply Kd.R_alloc | apply Kd.R_drewN | apply Kd.R_drew)); exact HO_4.out))) (below_size (by repeat (first | (with_reducible first | exact HB.out | apply below_alloc | apply pw_below_drewN | apply below_drew1 | refine below_set ?_ GE384.out) | exact HB.out)))); have n2_ := Aside0.mk (blk_below (g := gb384) (o := .cells #[.int .u16 t372, .int .u16 t373, .int .u32 t374, .int .u32 t375, .int .u8 t376, .int .u16 t377] 59 (0, 0)) (by (with_reducible repeat (first | refine blk_drewN ?_ _ | refine blk_drew ?_ | refine blk_alloc ?_ _)); exact BK384.out) hb); have n3_ := Aside0.mk (below_step (by repeat (first | (with_reducible first | exact HB.out | apply below_alloc | apply pw_below_drewN | apply below_drew1 | refine below_set ?_ GE384.out) | exact HB.out)) hb); clear HO_4; clear BK384; clear HB; have HO_4 := n0_; have HO411 := n1_; have BK384 := n2_; have HB := n3_; clear n0_ n1_ n2_ n3_; clear hb ho62; obtain ⟨Ao63, co63, eo63⟩ := Kd.R_slice HO411.out; subst eo63)  | (go_at_call 13; (with_reducible refine (sallyportlaw09_SegBytes.calls k1 0 0 0 0 64 0 _ _ y409 true ⟨by first | rfl | exact hr_.out⟩ _ ?side1 ?side2 A42.out).mono ?_); (case side1 => repeat (first | exact (Kd.R_reads' HO411.out).2.2 | (with_reducible refine Kd.C_alloc ?_ _) | (with_reducible refine Kd.C_drewN ?_ _) | (with_reducible refine Kd.C_drew ?_))); (case side2 => exact (Kd.R_reads' HO411.out).2.1); rintro e w64 ⟨rfl, hb⟩; have n0_ := Aside0.mk (Kd.R_below (by (with_reducible repeat (first | apply Kd.R_alloc | apply Kd.R_drewN | apply Kd.R_drew)); exact HO_4.out) hb); have n1_ := Aside0.mk (Kd.R_below (by (with_reducible repeat (first | apply Kd.R_alloc | apply Kd.R_drewN | apply Kd.R_drew)); exact HO411.out) hb); have n2_ := Aside0.mk (blk_below (g := gb384) (o := .cells #[.int .u16 t372, .int .u16 t373, .int .u32 t374, .int .u32 t375, .int .u8 t376, .int .u16 t377] 59 (0, 0)) (by (with_reducible repeat (first | refine blk_drewN ?_ _ | refine blk_drew ?_ | refine blk_alloc ?_ _)); exact BK384.out) hb); have n3_ := Aside0.mk (below_step (by repeat (first | (with_reducible first | exact HB.out | apply below_alloc | apply pw_below_drewN | apply below_drew1 | refine below_set ?_ GE384.out) | exact HB.out)) hb); clear HO_4; clear HO411; clear BK384; clear HB; have HO_4 := n0_; have HO411 := n1_; have BK384 := n2_; have HB := n3_; clear n0_ n1_ n2_ n3_; (try clear hb); (try clear hb2); (try clear hk); (try clear hi))  | (go_at_call 13; (refine (sallyportlaw09_SegBytes.calls k1 0 0 0 0 64 0 _ _ ([] : List Int) true ⟨by first | rfl | exact hr_.out⟩ _ ?side1 ?side2 A39.out).mono ?_); (case side1 => exact Kd.C_nil _ _); (case side2 => exact Nat.le_refl _); rintro e w60 ⟨rfl, hb⟩; have n0_ := Aside0.mk (Kd.R_below (by (with_reducible repeat (first | apply Kd.R_alloc | apply Kd.R_drewN | apply Kd.R_drew)); exact HO_4.out) hb); have n1_ := Aside0.mk (blk_below (g := gb384) (o := .cells #[.int .u16 t372, .int .u16 t373, .int .u32 t374, .int .u32 t375, .int .u8 t376, .int .u16 t377] 59 (0, 0)) (by (with_reducible repeat (first | refine blk_drewN ?_ _ | refine blk_drew ?_ | refine blk_alloc ?_ _)); exact BK384.out) hb); have n2_ := Aside0.mk (below_step (by repeat (first | (with_reducible first | exact HB.out | apply below_alloc | apply pw_below_drewN | apply below_drew1 | refine below_set ?_ GE384.out) | exact HB.out)) hb); clear HO_4; clear BK384; clear HB; have HO_4 := n0_; have BK384 := n1_; have HB := n2_; clear n0_ n1_ n2_; (try clear hb); (try clear hb2); (try clear hk); (try clear hi)))
                                have n0_ := Aside0.mk (Kd.R_drew HO_4.out)
                                have n1_ := Aside0.mk (Kd.R_drew HO411.out)
                                have n2_ := Aside0.mk (blk_drew BK384.out)
                                have n3_ := Aside0.mk (below_drew1 HB.out)
                                clear HO_4
                                clear HO411
                                clear BK384
                                clear HB
                                have HO_4 := n0_
                                have HO411 := n1_
                                have BK384 := n2_
                                have HB := n3_
                                clear n0_ n1_ n2_ n3_
                                refine start_ (n := 27) (S := fun w' => w'.cell? ⟨gb384, 0, none⟩ = some (.int .u16 t372) ∧ w'.cell? ⟨gb384, 1, none⟩ = some (.int .u16 t373) ∧ w'.cell? ⟨gb384, 2, none⟩ = some (.int .u32 t374) ∧ w'.cell? ⟨gb384, 3, none⟩ = some (.int .u32 t375) ∧ w'.cell? ⟨gb384, 4, none⟩ = some (.int .u8 t376) ∧ w'.cell? ⟨gb384, 5, none⟩ = some (.int .u16 t377)) (ds := []) #[false, false, false, false, false, false, false, false, false, false, false, false, false, false, false, false, false, false, false, false, false, false, false, false, false, false, false] (by kernel_rfl) rfl rfl ⟨(blk_cell BK384.out 0).trans rfl, (blk_cell BK384.out 1).trans rfl, (blk_cell BK384.out 2).trans rfl, (blk_cell BK384.out 3).trans rfl, (blk_cell BK384.out 4).trans rfl, (blk_cell BK384.out 5).trans rfl⟩ (fun hHeld => ?_); refine with_tabW sallyportlaw09_SegNames.tab12 sallyportlaw09_SegNames.bits12 (fun HT_ HW_ => ?_)
                                generalize w64.drew = w65 at HO_4 HO411 BK384 HB hHeld ⊢
                                refine pure_ (i := 0) (N := some 64) (v := ?_) (a' := ?_) #[true, false, false, false, false, false, false, false, false, false, false, false, false, false, false, false, false, false, false, false, false, false, false, false, false, false, false] rfl rfl (any_of HT_.out (by kernel_rfl)) (fun _ _ _ h => h) (Or.inl ⟨by rfl, ?_⟩) ?_ ?_
                                rotate_left
                                · intro w'
                                  go_simp
                                  with_reducible rfl
                                rotate_left
                                · simp only [Act.put, List.setIfInBounds_toArray, List.set_cons_zero, List.set_cons_succ, i64_w, i32_w]
                                  rfl
                                refine one_ (i := 1) (N := some 65) #[true, true, false, false, false, false, false, false, false, false, false, false, false, false, false, false, false, false, false, false, false, false, false, false, false, false, false] rfl rfl (one_of HT_.out (by kernel_rfl)) (by decide) (fun K hK => ?_)
                                refine goes_ Try.func49 (by kernel_rfl) rfl #[] (by rfl) rfl rfl (by (try simp only [List.map_toArray, List.map_cons, List.map_nil]); first | done | rfl | (simp only [List.length_drop, List.length_take]; rfl)) ?_
                                with_reducible refine (sallyportlaw09_awake.calls k1  true ⟨by first | rfl | exact hr_.out⟩ _ A44.out).mono ?_
                                rintro e w66 ⟨rfl, hb⟩
                                refine ⟨_, rfl, ?_⟩
                                have n0_ := Aside0.mk (Kd.R_below (by (with_reducible repeat (first | apply Kd.R_alloc | apply Kd.R_drewN | apply Kd.R_drew)); exact HO_4.out) hb)
                                have n1_ := Aside0.mk (Kd.R_below (by (with_reducible repeat (first | apply Kd.R_alloc | apply Kd.R_drewN | apply Kd.R_drew)); exact HO411.out) hb)
                                have n2_ := Aside0.mk (blk_below (g := gb384) (o := .cells #[.int .u16 t372, .int .u16 t373, .int .u32 t374, .int .u32 t375, .int .u8 t376, .int .u16 t377] 59 (0, 0)) (by (with_reducible repeat (first | refine blk_drewN ?_ _ | refine blk_drew ?_ | refine blk_alloc ?_ _)); exact BK384.out) hb)
                                have n3_ := Aside0.mk (below_step (by repeat (first | (with_reducible first | exact HB.out | apply below_alloc | apply pw_below_drewN | apply below_drew1 | refine below_set ?_ GE384.out) | exact HB.out)) hb)
                                clear HO_4
                                clear HO411
                                clear BK384
                                clear HB
                                have HO_4 := n0_
                                have HO411 := n1_
                                have BK384 := n2_
                                have HB := n3_
                                clear n0_ n1_ n2_ n3_
                                (try clear hb)
                                (try clear hb2)
                                (try clear hk)
                                (try clear hi)
                                refine hK.out _ _ ⟨(blk_cell BK384.out 0).trans rfl, (blk_cell BK384.out 1).trans rfl, (blk_cell BK384.out 2).trans rfl, (blk_cell BK384.out 3).trans rfl, (blk_cell BK384.out 4).trans rfl, (blk_cell BK384.out 5).trans rfl⟩ (fun hHeld => ?_)
                                clear hK K
                                refine norm_ (a' := ?_) ?_ ?_
                                rotate_left
                                · show Act.put _ (some 65) _ = _
                                  simp only [Act.put, List.setIfInBounds_toArray, List.set_cons_zero, List.set_cons_succ, i64_w, i32_w]
                                  rfl
                                refine pure_ (i := 2) (N := some 66) (v := ?_) (a' := ?_) #[true, true, true, false, false, false, false, false, false, false, false, false, false, false, false, false, false, false, false, false, false, false, false, false, false, false, false] rfl rfl (any_of HT_.out (by kernel_rfl)) (fun _ _ _ h => h) (Or.inl ⟨by rfl, ?_⟩) ?_ ?_
                                rotate_left
                                · intro w'
                                  go_simp
                                  with_reducible rfl
                                rotate_left
                                · simp only [Act.put, List.setIfInBounds_toArray, List.set_cons_zero, List.set_cons_succ, i64_w, i32_w]
                                  rfl
                                refine pure_ (i := 3) (N := some 67) (v := ?_) (a' := ?_) #[true, true, true, true, false, false, false, false, false, false, false, false, false, false, false, false, false, false, false, false, false, false, false, false, false, false, false] rfl rfl (any_of HT_.out (by kernel_rfl)) (fun _ _ _ h => h) (Or.inl ⟨by rfl, ?_⟩) ?_ ?_
                                rotate_left
                                · intro w'
                                  go_simp
                                  with_reducible rfl
                                rotate_left
                                · simp only [Act.put, List.setIfInBounds_toArray, List.set_cons_zero, List.set_cons_succ, i64_w, i32_w]
                                  rfl
                                refine take_ (i := 4) (N := some 68) (v := ?_) (a' := ?_) #[true, true, true, true, true, false, false, false, false, false, false, false, false, false, false, false, false, false, false, false, false, false, false, false, false, false, false] rfl rfl (take_ofW HT_.out HW_.out (by kernel_rfl)) (fun _ _ _ h => h) (Or.inl ⟨by rfl, ?_⟩) hHeld ?_ ?_
                                rotate_left
                                · rintro w' ⟨s0, s1, s2, s3, s4, s5⟩
                                  go_simp
                                  with_reducible rfl
                                rotate_left
                                · simp only [Act.put, List.setIfInBounds_toArray, List.set_cons_zero, List.set_cons_succ, i64_w, i32_w]
                                  rfl
                                refine one_ (i := 5) (N := some 69) #[true, true, true, true, true, true, false, false, false, false, false, false, false, false, false, false, false, false, false, false, false, false, false, false, false, false, false] rfl rfl (one_of HT_.out (by kernel_rfl)) (by decide) (fun K hK => ?_)
                                refine Kd.R_make_step (Kd.int .u8) _ 5 (by rfl) (N := 69) rfl 26 _ _ rfl 2028 rfl rfl Try.underlying26 (.int .u8 0) 1 info5 rfl (by decide) (by omega) 0 (ok := fun _ => True) (okp := fun _ => True) rfl (fun _ hk => hk) trivial (by omega) (by omega) (Below.refl _ _) (Nat.le_refl _) ?_
                                intro v415 w67 ho68 hb hg_ hnew_
                                clear hg_ hnew_
                                (first | rw [← Ny414.out] at ho68 | (simp only [Int.reduceToNat] at ho68; rw [← Ny414.out] at ho68))
                                have n0_ := Aside0.mk (Kd.R_elder' (by (with_reducible repeat (first | apply Kd.R_alloc | apply Kd.R_drewN | apply Kd.R_drew)); exact HO_4.out) (Kd.R_base ho68) hb)
                                have n1_ := Aside0.mk (Kd.R_elder' (by (with_reducible repeat (first | apply Kd.R_alloc | apply Kd.R_drewN | apply Kd.R_drew)); exact HO411.out) (Kd.R_base ho68) hb)
                                have n2_ := Aside0.mk (Kd.R_lower (Kd.R_new' (Kd.R_new' ho68 (Kd.R_lt (by (with_reducible repeat (first | apply Kd.R_alloc | apply Kd.R_drewN | apply Kd.R_drew)); exact HO_4.out))) (Kd.R_lt (by (with_reducible repeat (first | apply Kd.R_alloc | apply Kd.R_drewN | apply Kd.R_drew)); exact HO411.out))) (below_size (by repeat (first | (with_reducible first | exact HB.out | apply below_alloc | apply pw_below_drewN | apply below_drew1 | refine below_set ?_ GE384.out) | exact HB.out))))
                                have n3_ := Aside0.mk (blk_below (g := gb384) (o := .cells #[.int .u16 t372, .int .u16 t373, .int .u32 t374, .int .u32 t375, .int .u8 t376, .int .u16 t377] 59 (0, 0)) (by (with_reducible repeat (first | refine blk_drewN ?_ _ | refine blk_drew ?_ | refine blk_alloc ?_ _)); exact BK384.out) hb)
                                have n4_ := Aside0.mk (below_step (by repeat (first | (with_reducible first | exact HB.out | apply below_alloc | apply pw_below_drewN | apply below_drew1 | refine below_set ?_ GE384.out) | exact HB.out)) hb)
                                clear HO_4
                                clear HO411
                                clear BK384
                                clear HB
                                have HO_4 := n0_
                                have HO411 := n1_
                                have HO416 := n2_
                                have BK384 := n3_
                                have HB := n4_
                                clear n0_ n1_ n2_ n3_ n4_
                                clear hb ho68
                                obtain ⟨Ao69, co69, eo69⟩ := Kd.R_slice HO416.out
                                (first | subst eo69 | (injection eo69 with f1_ f2_ f3_; have f4_ := f1_.symm; have f5_ := f3_.symm; clear f1_ f2_ f3_; subst f4_; subst f5_))
                                refine hK.out _ _ ⟨(blk_cell BK384.out 0).trans rfl, (blk_cell BK384.out 1).trans rfl, (blk_cell BK384.out 2).trans rfl, (blk_cell BK384.out 3).trans rfl, (blk_cell BK384.out 4).trans rfl, (blk_cell BK384.out 5).trans rfl⟩ (fun hHeld => ?_)
                                clear hK K
                                refine norm_ (a' := ?_) ?_ ?_
                                rotate_left
                                · show Act.put _ (some 69) _ = _
                                  simp only [Act.put, List.setIfInBounds_toArray, List.set_cons_zero, List.set_cons_succ, i64_w, i32_w]
                                  rfl
                                refine one_ (i := 6) (N := some 70) #[true, true, true, true, true, true, true, false, false, false, false, false, false, false, false, false, false, false, false, false, false, false, false, false, false, false, false] rfl rfl (one_of HT_.out (by kernel_rfl)) (by decide) (fun K hK => ?_)
                                refine goes_ Try.func13 (by kernel_rfl) rfl #[.agg #[.int .u16 t372, .int .u16 t373, .int .u32 t374, .int .u32 t375, .int .u8 t376, .int .u16 t377], .slice Ao69 y414.length co69] (by rfl) rfl rfl (by (try simp only [List.map_toArray, List.map_cons, List.map_nil]); first | done | rfl | (simp only [List.length_drop, List.length_take]; rfl)) ?_
                                with_reducible refine (sallyportlaw09_SegBytes.calls k1 t372 t373 t374 t375 t376 t377 _ _ y414 true ⟨by first | rfl | exact hr_.out⟩ _ ?side1 ?side2 A47.out).mono ?_
                                (case side1 => repeat (first | exact (Kd.R_reads' HO416.out).2.2 | (with_reducible refine Kd.C_alloc ?_ _) | (with_reducible refine Kd.C_drewN ?_ _) | (with_reducible refine Kd.C_drew ?_)))
                                (case side2 => exact (Kd.R_reads' HO416.out).2.1)
                                rintro e w70 ⟨rfl, hb⟩
                                refine ⟨_, rfl, ?_⟩
                                have n0_ := Aside0.mk (Kd.R_below (by (with_reducible repeat (first | apply Kd.R_alloc | apply Kd.R_drewN | apply Kd.R_drew)); exact HO_4.out) hb)
                                have n1_ := Aside0.mk (Kd.R_below (by (with_reducible repeat (first | apply Kd.R_alloc | apply Kd.R_drewN | apply Kd.R_drew)); exact HO411.out) hb)
                                have n2_ := Aside0.mk (Kd.R_below (by (with_reducible repeat (first | apply Kd.R_alloc | apply Kd.R_drewN | apply Kd.R_drew)); exact HO416.out) hb)
                                have n3_ := Aside0.mk (blk_below (g := gb384) (o := .cells #[.int .u16 t372, .int .u16 t373, .int .u32 t374, .int .u32 t375, .int .u8 t376, .int .u16 t377] 59 (0, 0)) (by (with_reducible repeat (first | refine blk_drewN ?_ _ | refine blk_drew ?_ | refine blk_alloc ?_ _)); exact BK384.out) hb)
                                have n4_ := Aside0.mk (below_step (by repeat (first | (with_reducible first | exact HB.out | apply below_alloc | apply pw_below_drewN | apply below_drew1 | refine below_set ?_ GE384.out) | exact HB.out)) hb)
                                clear HO_4
                                clear HO411
                                clear HO416
                                clear BK384
                                clear HB
                                have HO_4 := n0_
                                have HO411 := n1_
                                have HO416 := n2_
                                have BK384 := n3_
                                have HB := n4_
                                clear n0_ n1_ n2_ n3_ n4_
                                (try clear hb)
                                (try clear hb2)
                                (try clear hk)
                                (try clear hi)
                                refine hK.out _ _ ⟨(blk_cell BK384.out 0).trans rfl, (blk_cell BK384.out 1).trans rfl, (blk_cell BK384.out 2).trans rfl, (blk_cell BK384.out 3).trans rfl, (blk_cell BK384.out 4).trans rfl, (blk_cell BK384.out 5).trans rfl⟩ (fun hHeld => ?_)
                                clear hK K
                                refine norm_ (a' := ?_) ?_ ?_
                                rotate_left
                                · show Act.put _ (some 70) _ = _
                                  simp only [Act.put, List.setIfInBounds_toArray, List.set_cons_zero, List.set_cons_succ, i64_w, i32_w]
                                  rfl
                                refine pure_ (i := 7) (N := some 71) (v := ?_) (a' := ?_) #[true, true, true, true, true, true, true, true, false, false, false, false, false, false, false, false, false, false, false, false, false, false, false, false, false, false, false] rfl rfl (any_of HT_.out (by kernel_rfl)) (fun _ _ _ h => h) (Or.inl ⟨by rfl, ?_⟩) ?_ ?_
                                rotate_left
                                · intro w'
                                  go_simp
                                  with_reducible rfl
                                rotate_left
                                · simp only [Act.put, List.setIfInBounds_toArray, List.set_cons_zero, List.set_cons_succ, i64_w, i32_w]
                                  rfl
                                refine pure_ (i := 8) (N := some 72) (v := ?_) (a' := ?_) #[true, true, true, true, true, true, true, true, true, false, false, false, false, false, false, false, false, false, false, false, false, false, false, false, false, false, false] rfl rfl (any_of HT_.out (by kernel_rfl)) (fun _ _ _ h => h) (Or.inl ⟨by rfl, ?_⟩) ?_ ?_
                                rotate_left
                                · intro w'
                                  go_simp
                                  with_reducible rfl
                                rotate_left
                                · simp only [Act.put, List.setIfInBounds_toArray, List.set_cons_zero, List.set_cons_succ, i64_w, i32_w]
                                  rfl
                                refine take_ (i := 9) (N := some 73) (v := ?_) (a' := ?_) #[true, true, true, true, true, true, true, true, true, true, false, false, false, false, false, false, false, false, false, false, false, false, false, false, false, false, false] rfl rfl (take_ofW HT_.out HW_.out (by kernel_rfl)) (fun _ _ _ h => h) (Or.inl ⟨by rfl, ?_⟩) hHeld ?_ ?_
                                rotate_left
                                · rintro w' ⟨s0, s1, s2, s3, s4, s5⟩
                                  go_simp
                                  with_reducible rfl
                                rotate_left
                                · simp only [Act.put, List.setIfInBounds_toArray, List.set_cons_zero, List.set_cons_succ, i64_w, i32_w]
                                  rfl
                                refine one_ (i := 10) (N := some 74) #[true, true, true, true, true, true, true, true, true, true, true, false, false, false, false, false, false, false, false, false, false, false, false, false, false, false, false] rfl rfl (one_of HT_.out (by kernel_rfl)) (by decide) (fun K hK => ?_)
                                refine Kd.R_make_step (Kd.int .u8) _ 5 (by rfl) (N := 74) rfl 26 _ _ rfl 2029 rfl rfl Try.underlying26 (.int .u8 0) 1 info5 rfl (by decide) (by omega) 0 (ok := fun _ => True) (okp := fun _ => True) rfl (fun _ hk => hk) trivial (by omega) (by omega) (Below.refl _ _) (Nat.le_refl _) ?_
                                intro v419 w71 ho72 hb hg_ hnew_
                                clear hg_ hnew_
                                (first | rw [← Ny418.out] at ho72 | (simp only [Int.reduceToNat] at ho72; rw [← Ny418.out] at ho72))
                                have n0_ := Aside0.mk (Kd.R_elder' (by (with_reducible repeat (first | apply Kd.R_alloc | apply Kd.R_drewN | apply Kd.R_drew)); exact HO_4.out) (Kd.R_base ho72) hb)
                                have n1_ := Aside0.mk (Kd.R_elder' (by (with_reducible repeat (first | apply Kd.R_alloc | apply Kd.R_drewN | apply Kd.R_drew)); exact HO411.out) (Kd.R_base ho72) hb)
                                have n2_ := Aside0.mk (Kd.R_elder' (by (with_reducible repeat (first | apply Kd.R_alloc | apply Kd.R_drewN | apply Kd.R_drew)); exact HO416.out) (Kd.R_base ho72) hb)
                                have n3_ := Aside0.mk (Kd.R_lower (Kd.R_new' (Kd.R_new' (Kd.R_new' ho72 (Kd.R_lt (by (with_reducible repeat (first | apply Kd.R_alloc | apply Kd.R_drewN | apply Kd.R_drew)); exact HO_4.out))) (Kd.R_lt (by (with_reducible repeat (first | apply Kd.R_alloc | apply Kd.R_drewN | apply Kd.R_drew)); exact HO411.out))) (Kd.R_lt (by (with_reducible repeat (first | apply Kd.R_alloc | apply Kd.R_drewN | apply Kd.R_drew)); exact HO416.out))) (below_size (by repeat (first | (with_reducible first | exact HB.out | apply below_alloc | apply pw_below_drewN | apply below_drew1 | refine below_set ?_ GE384.out) | exact HB.out))))
                                have n4_ := Aside0.mk (blk_below (g := gb384) (o := .cells #[.int .u16 t372, .int .u16 t373, .int .u32 t374, .int .u32 t375, .int .u8 t376, .int .u16 t377] 59 (0, 0)) (by (with_reducible repeat (first | refine blk_drewN ?_ _ | refine blk_drew ?_ | refine blk_alloc ?_ _)); exact BK384.out) hb)
                                have n5_ := Aside0.mk (below_step (by repeat (first | (with_reducible first | exact HB.out | apply below_alloc | apply pw_below_drewN | apply below_drew1 | refine below_set ?_ GE384.out) | exact HB.out)) hb)
                                clear HO_4
                                clear HO411
                                clear HO416
                                clear BK384
                                clear HB
                                have HO_4 := n0_
                                have HO411 := n1_
                                have HO416 := n2_
                                have HO420 := n3_
                                have BK384 := n4_
                                have HB := n5_
                                clear n0_ n1_ n2_ n3_ n4_ n5_
                                clear hb ho72
                                obtain ⟨Ao73, co73, eo73⟩ := Kd.R_slice HO420.out
                                (first | subst eo73 | (injection eo73 with f1_ f2_ f3_; have f4_ := f1_.symm; have f5_ := f3_.symm; clear f1_ f2_ f3_; subst f4_; subst f5_))
                                refine hK.out _ _ ⟨(blk_cell BK384.out 0).trans rfl, (blk_cell BK384.out 1).trans rfl, (blk_cell BK384.out 2).trans rfl, (blk_cell BK384.out 3).trans rfl, (blk_cell BK384.out 4).trans rfl, (blk_cell BK384.out 5).trans rfl⟩ (fun hHeld => ?_)
                                clear hK K
                                refine norm_ (a' := ?_) ?_ ?_
                                rotate_left
                                · show Act.put _ (some 74) _ = _
                                  simp only [Act.put, List.setIfInBounds_toArray, List.set_cons_zero, List.set_cons_succ, i64_w, i32_w]
                                  rfl
                                refine one_ (i := 11) (N := some 75) #[true, true, true, true, true, true, true, true, true, true, true, true, false, false, false, false, false, false, false, false, false, false, false, false, false, false, false] rfl rfl (one_of HT_.out (by kernel_rfl)) (by decide) (fun K hK => ?_)
                                refine goes_ Try.func13 (by kernel_rfl) rfl #[.agg #[.int .u16 t372, .int .u16 t373, .int .u32 t374, .int .u32 t375, .int .u8 t376, .int .u16 t377], .slice Ao73 y418.length co73] (by rfl) rfl rfl (by (try simp only [List.map_toArray, List.map_cons, List.map_nil]); first | done | rfl | (simp only [List.length_drop, List.length_take]; rfl)) ?_
                                with_reducible refine (sallyportlaw09_SegBytes.calls k1 t372 t373 t374 t375 t376 t377 _ _ y418 true ⟨by first | rfl | exact hr_.out⟩ _ ?side1 ?side2 A50.out).mono ?_
                                (case side1 => repeat (first | exact (Kd.R_reads' HO420.out).2.2 | (with_reducible refine Kd.C_alloc ?_ _) | (with_reducible refine Kd.C_drewN ?_ _) | (with_reducible refine Kd.C_drew ?_)))
                                (case side2 => exact (Kd.R_reads' HO420.out).2.1)
                                rintro e w74 ⟨rfl, hb⟩
                                refine ⟨_, rfl, ?_⟩
                                have n0_ := Aside0.mk (Kd.R_below (by (with_reducible repeat (first | apply Kd.R_alloc | apply Kd.R_drewN | apply Kd.R_drew)); exact HO_4.out) hb)
                                have n1_ := Aside0.mk (Kd.R_below (by (with_reducible repeat (first | apply Kd.R_alloc | apply Kd.R_drewN | apply Kd.R_drew)); exact HO411.out) hb)
                                have n2_ := Aside0.mk (Kd.R_below (by (with_reducible repeat (first | apply Kd.R_alloc | apply Kd.R_drewN | apply Kd.R_drew)); exact HO416.out) hb)
                                have n3_ := Aside0.mk (Kd.R_below (by (with_reducible repeat (first | apply Kd.R_alloc | apply Kd.R_drewN | apply Kd.R_drew)); exact HO420.out) hb)
                                have n4_ := Aside0.mk (blk_below (g := gb384) (o := .cells #[.int .u16 t372, .int .u16 t373, .int .u32 t374, .int .u32 t375, .int .u8 t376, .int .u16 t377] 59 (0, 0)) (by (with_reducible repeat (first | refine blk_drewN ?_ _ | refine blk_drew ?_ | refine blk_alloc ?_ _)); exact BK384.out) hb)
                                have n5_ := Aside0.mk (below_step (by repeat (first | (with_reducible first | exact HB.out | apply below_alloc | apply pw_below_drewN | apply below_drew1 | refine below_set ?_ GE384.out) | exact HB.out)) hb)
                                clear HO_4
                                clear HO411
                                clear HO416
                                clear HO420
                                clear BK384
                                clear HB
                                have HO_4 := n0_
                                have HO411 := n1_
                                have HO416 := n2_
                                have HO420 := n3_
                                have BK384 := n4_
                                have HB := n5_
                                clear n0_ n1_ n2_ n3_ n4_ n5_
                                (try clear hb)
                                (try clear hb2)
                                (try clear hk)
                                (try clear hi)
                                refine hK.out _ _ ⟨(blk_cell BK384.out 0).trans rfl, (blk_cell BK384.out 1).trans rfl, (blk_cell BK384.out 2).trans rfl, (blk_cell BK384.out 3).trans rfl, (blk_cell BK384.out 4).trans rfl, (blk_cell BK384.out 5).trans rfl⟩ (fun hHeld => ?_)
                                clear hK K
                                refine norm_ (a' := ?_) ?_ ?_
                                rotate_left
                                · show Act.put _ (some 75) _ = _
                                  simp only [Act.put, List.setIfInBounds_toArray, List.set_cons_zero, List.set_cons_succ, i64_w, i32_w]
                                  rfl
                                refine pure_ (i := 12) (N := some 76) (v := ?_) (a' := ?_) #[true, true, true, true, true, true, true, true, true, true, true, true, true, false, false, false, false, false, false, false, false, false, false, false, false, false, false] rfl rfl (any_of HT_.out (by kernel_rfl)) (fun _ _ _ h => h) (Or.inl ⟨by rfl, ?_⟩) ?_ ?_
                                rotate_left
                                · intro w'
                                  go_simp
                                  with_reducible rfl
                                rotate_left
                                · simp only [Act.put, List.setIfInBounds_toArray, List.set_cons_zero, List.set_cons_succ, i64_w, i32_w]
                                  rfl
                                refine pure_ (i := 13) (N := some 77) (v := ?_) (a' := ?_) #[true, true, true, true, true, true, true, true, true, true, true, true, true, true, false, false, false, false, false, false, false, false, false, false, false, false, false] rfl rfl (any_of HT_.out (by kernel_rfl)) (fun _ _ _ h => h) (Or.inl ⟨by rfl, ?_⟩) ?_ ?_
                                rotate_left
                                · intro w'
                                  go_simp
                                  with_reducible rfl
                                rotate_left
                                · simp only [Act.put, List.setIfInBounds_toArray, List.set_cons_zero, List.set_cons_succ, i64_w, i32_w]
                                  rfl
                                refine pure_ (i := 14) (N := some 78) (v := ?_) (a' := ?_) #[true, true, true, true, true, true, true, true, true, true, true, true, true, true, true, false, false, false, false, false, false, false, false, false, false, false, false] rfl rfl (any_of HT_.out (by kernel_rfl)) (fun _ _ _ h => h) (Or.inl ⟨by rfl, ?_⟩) ?_ ?_
                                rotate_left
                                · intro w'
                                  go_simp
                                  with_reducible rfl
                                rotate_left
                                · simp only [Act.put, List.setIfInBounds_toArray, List.set_cons_zero, List.set_cons_succ, i64_w, i32_w]
                                  rfl
                                refine one_ (i := 15) (N := some 79) #[true, true, true, true, true, true, true, true, true, true, true, true, true, true, true, true, false, false, false, false, false, false, false, false, false, false, false] rfl rfl (one_of HT_.out (by kernel_rfl)) (by decide) (fun K hK => ?_)
                                refine goes_ Try.func13 (by kernel_rfl) rfl #[.agg #[.int .u16 0, .int .u16 0, .int .u32 0, .int .u32 0, .int .u8 0, .int .u16 0], .slice none 0 0] (by rfl) rfl rfl (by (try simp only [List.map_toArray, List.map_cons, List.map_nil]); first | done | rfl | (simp only [List.length_drop, List.length_take]; rfl)) ?_
                                refine (sallyportlaw09_SegBytes.calls k1 0 0 0 0 0 0 _ _ ([] : List Int) true ⟨by first | rfl | exact hr_.out⟩ _ ?side1 ?side2 A52.out).mono ?_
                                (case side1 => exact Kd.C_nil _ _)
                                (case side2 => exact Nat.le_refl _)
                                rintro e w75 ⟨rfl, hb⟩
                                refine ⟨_, rfl, ?_⟩
                                have n0_ := Aside0.mk (Kd.R_below (by (with_reducible repeat (first | apply Kd.R_alloc | apply Kd.R_drewN | apply Kd.R_drew)); exact HO_4.out) hb)
                                have n1_ := Aside0.mk (Kd.R_below (by (with_reducible repeat (first | apply Kd.R_alloc | apply Kd.R_drewN | apply Kd.R_drew)); exact HO411.out) hb)
                                have n2_ := Aside0.mk (Kd.R_below (by (with_reducible repeat (first | apply Kd.R_alloc | apply Kd.R_drewN | apply Kd.R_drew)); exact HO416.out) hb)
                                have n3_ := Aside0.mk (Kd.R_below (by (with_reducible repeat (first | apply Kd.R_alloc | apply Kd.R_drewN | apply Kd.R_drew)); exact HO420.out) hb)
                                have n4_ := Aside0.mk (blk_below (g := gb384) (o := .cells #[.int .u16 t372, .int .u16 t373, .int .u32 t374, .int .u32 t375, .int .u8 t376, .int .u16 t377] 59 (0, 0)) (by (with_reducible repeat (first | refine blk_drewN ?_ _ | refine blk_drew ?_ | refine blk_alloc ?_ _)); exact BK384.out) hb)
                                have n5_ := Aside0.mk (below_step (by repeat (first | (with_reducible first | exact HB.out | apply below_alloc | apply pw_below_drewN | apply below_drew1 | refine below_set ?_ GE384.out) | exact HB.out)) hb)
                                clear HO_4
                                clear HO411
                                clear HO416
                                clear HO420
                                clear BK384
                                clear HB
                                have HO_4 := n0_
                                have HO411 := n1_
                                have HO416 := n2_
                                have HO420 := n3_
                                have BK384 := n4_
                                have HB := n5_
                                clear n0_ n1_ n2_ n3_ n4_ n5_
                                (try clear hb)
                                (try clear hb2)
                                (try clear hk)
                                (try clear hi)
                                refine hK.out _ _ ⟨(blk_cell BK384.out 0).trans rfl, (blk_cell BK384.out 1).trans rfl, (blk_cell BK384.out 2).trans rfl, (blk_cell BK384.out 3).trans rfl, (blk_cell BK384.out 4).trans rfl, (blk_cell BK384.out 5).trans rfl⟩ (fun hHeld => ?_)
                                clear hK K
                                refine norm_ (a' := ?_) ?_ ?_
                                rotate_left
                                · show Act.put _ (some 79) _ = _
                                  simp only [Act.put, List.setIfInBounds_toArray, List.set_cons_zero, List.set_cons_succ, i64_w, i32_w]
                                  rfl
                                refine pure_ (i := 16) (N := some 80) (v := ?_) (a' := ?_) #[true, true, true, true, true, true, true, true, true, true, true, true, true, true, true, true, true, false, false, false, false, false, false, false, false, false, false] rfl rfl (any_of HT_.out (by kernel_rfl)) (fun _ _ _ h => h) (Or.inl ⟨by rfl, ?_⟩) ?_ ?_
                                rotate_left
                                · intro w'
                                  go_simp
                                  with_reducible rfl
                                rotate_left
                                · simp only [Act.put, List.setIfInBounds_toArray, List.set_cons_zero, List.set_cons_succ, i64_w, i32_w]
                                  rfl
                                refine pure_ (i := 17) (N := some 81) (v := ?_) (a' := ?_) #[true, true, true, true, true, true, true, true, true, true, true, true, true, true, true, true, true, true, false, false, false, false, false, false, false, false, false] rfl rfl (any_of HT_.out (by kernel_rfl)) (fun _ _ _ h => h) (Or.inl ⟨by rfl, ?_⟩) ?_ ?_
                                rotate_left
                                · intro w'
                                  go_simp
                                  with_reducible rfl
                                rotate_left
                                · simp only [Act.put, List.setIfInBounds_toArray, List.set_cons_zero, List.set_cons_succ, i64_w, i32_w]
                                  rfl
                                refine one_ (i := 18) (N := some 82) #[true, true, true, true, true, true, true, true, true, true, true, true, true, true, true, true, true, true, true, false, false, false, false, false, false, false, false] rfl rfl (one_of HT_.out (by kernel_rfl)) (by decide) (fun K hK => ?_)
                                refine Kd.R_make_step (Kd.int .u8) _ 5 (by rfl) (N := 82) rfl 26 _ _ rfl 70000 rfl rfl Try.underlying26 (.int .u8 0) 1 info5 rfl (by decide) (by omega) 0 (ok := fun _ => True) (okp := fun _ => True) rfl (fun _ hk => hk) trivial (by omega) (by omega) (Below.refl _ _) (Nat.le_refl _) ?_
                                intro v424 w76 ho77 hb hg_ hnew_
                                clear hg_ hnew_
                                (first | rw [← Ny423.out] at ho77 | (simp only [Int.reduceToNat] at ho77; rw [← Ny423.out] at ho77))
                                have n0_ := Aside0.mk (Kd.R_elder' (by (with_reducible repeat (first | apply Kd.R_alloc | apply Kd.R_drewN | apply Kd.R_drew)); exact HO_4.out) (Kd.R_base ho77) hb)
                                have n1_ := Aside0.mk (Kd.R_elder' (by (with_reducible repeat (first | apply Kd.R_alloc | apply Kd.R_drewN | apply Kd.R_drew)); exact HO411.out) (Kd.R_base ho77) hb)
                                have n2_ := Aside0.mk (Kd.R_elder' (by (with_reducible repeat (first | apply Kd.R_alloc | apply Kd.R_drewN | apply Kd.R_drew)); exact HO416.out) (Kd.R_base ho77) hb)
                                have n3_ := Aside0.mk (Kd.R_elder' (by (with_reducible repeat (first | apply Kd.R_alloc | apply Kd.R_drewN | apply Kd.R_drew)); exact HO420.out) (Kd.R_base ho77) hb)
                                have n4_ := Aside0.mk (Kd.R_lower (Kd.R_new' (Kd.R_new' (Kd.R_new' (Kd.R_new' ho77 (Kd.R_lt (by (with_reducible repeat (first | apply Kd.R_alloc | apply Kd.R_drewN | apply Kd.R_drew)); exact HO_4.out))) (Kd.R_lt (by (with_reducible repeat (first | apply Kd.R_alloc | apply Kd.R_drewN | apply Kd.R_drew)); exact HO411.out))) (Kd.R_lt (by (with_reducible repeat (first | apply Kd.R_alloc | apply Kd.R_drewN | apply Kd.R_drew)); exact HO416.out))) (Kd.R_lt (by (with_reducible repeat (first | apply Kd.R_alloc | apply Kd.R_drewN | apply Kd.R_drew)); exact HO420.out))) (below_size (by repeat (first | (with_reducible first | exact HB.out | apply below_alloc | apply pw_below_drewN | apply below_drew1 | refine below_set ?_ GE384.out) | exact HB.out))))
                                have n5_ := Aside0.mk (blk_below (g := gb384) (o := .cells #[.int .u16 t372, .int .u16 t373, .int .u32 t374, .int .u32 t375, .int .u8 t376, .int .u16 t377] 59 (0, 0)) (by (with_reducible repeat (first | refine blk_drewN ?_ _ | refine blk_drew ?_ | refine blk_alloc ?_ _)); exact BK384.out) hb)
                                have n6_ := Aside0.mk (below_step (by repeat (first | (with_reducible first | exact HB.out | apply below_alloc | apply pw_below_drewN | apply below_drew1 | refine below_set ?_ GE384.out) | exact HB.out)) hb)
                                clear HO_4
                                clear HO411
                                clear HO416
                                clear HO420
                                clear BK384
                                clear HB
                                have HO_4 := n0_
                                have HO411 := n1_
                                have HO416 := n2_
                                have HO420 := n3_
                                have HO425 := n4_
                                have BK384 := n5_
                                have HB := n6_
                                clear n0_ n1_ n2_ n3_ n4_ n5_ n6_
                                clear hb ho77
                                obtain ⟨Ao78, co78, eo78⟩ := Kd.R_slice HO425.out
                                (first | subst eo78 | (injection eo78 with f1_ f2_ f3_; have f4_ := f1_.symm; have f5_ := f3_.symm; clear f1_ f2_ f3_; subst f4_; subst f5_))
                                refine hK.out _ _ ⟨(blk_cell BK384.out 0).trans rfl, (blk_cell BK384.out 1).trans rfl, (blk_cell BK384.out 2).trans rfl, (blk_cell BK384.out 3).trans rfl, (blk_cell BK384.out 4).trans rfl, (blk_cell BK384.out 5).trans rfl⟩ (fun hHeld => ?_)
                                clear hK K
                                refine norm_ (a' := ?_) ?_ ?_
                                rotate_left
                                · show Act.put _ (some 82) _ = _
                                  simp only [Act.put, List.setIfInBounds_toArray, List.set_cons_zero, List.set_cons_succ, i64_w, i32_w]
                                  rfl
                                refine one_ (i := 19) (N := some 83) #[true, true, true, true, true, true, true, true, true, true, true, true, true, true, true, true, true, true, true, true, false, false, false, false, false, false, false] rfl rfl (one_of HT_.out (by kernel_rfl)) (by decide) (fun K hK => ?_)
                                refine goes_ Try.func14 (by kernel_rfl) rfl #[.slice Ao78 y423.length co78] (by rfl) rfl rfl (by (try simp only [List.map_toArray, List.map_cons, List.map_nil]); first | done | rfl | (simp only [List.length_drop, List.length_take]; rfl)) ?_
                                with_reducible refine (sallyportlaw09_SegReads.calls k1 _ _ y423 true ⟨by first | rfl | exact hr_.out⟩ _ ?side1 ?side2 A55.out).mono ?_
                                (case side1 => repeat (first | exact (Kd.R_reads' HO425.out).2.2 | (with_reducible refine Kd.C_alloc ?_ _) | (with_reducible refine Kd.C_drewN ?_ _) | (with_reducible refine Kd.C_drew ?_)))
                                (case side2 => exact (Kd.R_reads' HO425.out).2.1)
                                rintro e w79 ⟨rfl, hb⟩
                                refine ⟨_, rfl, ?_⟩
                                have n0_ := Aside0.mk (Kd.R_below (by (with_reducible repeat (first | apply Kd.R_alloc | apply Kd.R_drewN | apply Kd.R_drew)); exact HO_4.out) hb)
                                have n1_ := Aside0.mk (Kd.R_below (by (with_reducible repeat (first | apply Kd.R_alloc | apply Kd.R_drewN | apply Kd.R_drew)); exact HO411.out) hb)
                                have n2_ := Aside0.mk (Kd.R_below (by (with_reducible repeat (first | apply Kd.R_alloc | apply Kd.R_drewN | apply Kd.R_drew)); exact HO416.out) hb)
                                have n3_ := Aside0.mk (Kd.R_below (by (with_reducible repeat (first | apply Kd.R_alloc | apply Kd.R_drewN | apply Kd.R_drew)); exact HO420.out) hb)
                                have n4_ := Aside0.mk (Kd.R_below (by (with_reducible repeat (first | apply Kd.R_alloc | apply Kd.R_drewN | apply Kd.R_drew)); exact HO425.out) hb)
                                have n5_ := Aside0.mk (blk_below (g := gb384) (o := .cells #[.int .u16 t372, .int .u16 t373, .int .u32 t374, .int .u32 t375, .int .u8 t376, .int .u16 t377] 59 (0, 0)) (by (with_reducible repeat (first | refine blk_drewN ?_ _ | refine blk_drew ?_ | refine blk_alloc ?_ _)); exact BK384.out) hb)
                                have n6_ := Aside0.mk (below_step (by repeat (first | (with_reducible first | exact HB.out | apply below_alloc | apply pw_below_drewN | apply below_drew1 | refine below_set ?_ GE384.out) | exact HB.out)) hb)
                                clear HO_4
                                clear HO411
                                clear HO416
                                clear HO420
                                clear HO425
                                clear BK384
                                clear HB
                                have HO_4 := n0_
                                have HO411 := n1_
                                have HO416 := n2_
                                have HO420 := n3_
                                have HO425 := n4_
                                have BK384 := n5_
                                have HB := n6_
                                clear n0_ n1_ n2_ n3_ n4_ n5_ n6_
                                (try clear hb)
                                (try clear hb2)
                                (try clear hk)
                                (try clear hi)
                                refine hK.out _ _ ⟨(blk_cell BK384.out 0).trans rfl, (blk_cell BK384.out 1).trans rfl, (blk_cell BK384.out 2).trans rfl, (blk_cell BK384.out 3).trans rfl, (blk_cell BK384.out 4).trans rfl, (blk_cell BK384.out 5).trans rfl⟩ (fun hHeld => ?_)
                                clear hK K
                                refine norm_ (a' := ?_) ?_ ?_
                                rotate_left
                                · show Act.put _ (some 83) _ = _
                                  simp only [Act.put, List.setIfInBounds_toArray, List.set_cons_zero, List.set_cons_succ, i64_w, i32_w]
                                  rfl
                                refine pure_ (i := 20) (N := some 84) (v := ?_) (a' := ?_) #[true, true, true, true, true, true, true, true, true, true, true, true, true, true, true, true, true, true, true, true, true, false, false, false, false, false, false] rfl rfl (any_of HT_.out (by kernel_rfl)) (fun _ _ _ h => h) (Or.inl ⟨by rfl, ?_⟩) ?_ ?_
                                rotate_left
                                · intro w'
                                  go_simp
                                  with_reducible rfl
                                rotate_left
                                · simp only [Act.put, List.setIfInBounds_toArray, List.set_cons_zero, List.set_cons_succ, i64_w, i32_w]
                                  rfl
                                refine pure_ (i := 21) (N := some 85) (v := ?_) (a' := ?_) #[true, true, true, true, true, true, true, true, true, true, true, true, true, true, true, true, true, true, true, true, true, true, false, false, false, false, false] rfl rfl (any_of HT_.out (by kernel_rfl)) (fun _ _ _ h => h) (Or.inl ⟨by rfl, ?_⟩) ?_ ?_
                                rotate_left
                                · intro w'
                                  go_simp
                                  with_reducible rfl
                                rotate_left
                                · simp only [Act.put, List.setIfInBounds_toArray, List.set_cons_zero, List.set_cons_succ, i64_w, i32_w]
                                  rfl
                                refine take_ (i := 22) (N := some 86) (v := ?_) (a' := ?_) #[true, true, true, true, true, true, true, true, true, true, true, true, true, true, true, true, true, true, true, true, true, true, true, false, false, false, false] rfl rfl (take_ofW HT_.out HW_.out (by kernel_rfl)) (fun _ _ _ h => h) (Or.inl ⟨by rfl, ?_⟩) hHeld ?_ ?_
                                rotate_left
                                · rintro w' ⟨s0, s1, s2, s3, s4, s5⟩
                                  go_simp
                                  with_reducible rfl
                                rotate_left
                                · simp only [Act.put, List.setIfInBounds_toArray, List.set_cons_zero, List.set_cons_succ, i64_w, i32_w]
                                  rfl
                                refine one_ (i := 23) (N := some 87) #[true, true, true, true, true, true, true, true, true, true, true, true, true, true, true, true, true, true, true, true, true, true, true, true, false, false, false] rfl rfl (one_of HT_.out (by kernel_rfl)) (by decide) (fun K hK => ?_)
                                refine Kd.R_make_step (Kd.int .u8) _ 5 (by rfl) (N := 87) rfl 26 _ _ rfl 2028 rfl rfl Try.underlying26 (.int .u8 0) 1 info5 rfl (by decide) (by omega) 0 (ok := fun _ => True) (okp := fun _ => True) rfl (fun _ hk => hk) trivial (by omega) (by omega) (Below.refl _ _) (Nat.le_refl _) ?_
                                intro v428 w80 ho81 hb hg_ hnew_
                                clear hg_ hnew_
                                (first | rw [← Ny427.out] at ho81 | (simp only [Int.reduceToNat] at ho81; rw [← Ny427.out] at ho81))
                                have n0_ := Aside0.mk (Kd.R_elder' (by (with_reducible repeat (first | apply Kd.R_alloc | apply Kd.R_drewN | apply Kd.R_drew)); exact HO_4.out) (Kd.R_base ho81) hb)
                                have n1_ := Aside0.mk (Kd.R_elder' (by (with_reducible repeat (first | apply Kd.R_alloc | apply Kd.R_drewN | apply Kd.R_drew)); exact HO411.out) (Kd.R_base ho81) hb)
                                have n2_ := Aside0.mk (Kd.R_elder' (by (with_reducible repeat (first | apply Kd.R_alloc | apply Kd.R_drewN | apply Kd.R_drew)); exact HO416.out) (Kd.R_base ho81) hb)
                                have n3_ := Aside0.mk (Kd.R_elder' (by (with_reducible repeat (first | apply Kd.R_alloc | apply Kd.R_drewN | apply Kd.R_drew)); exact HO420.out) (Kd.R_base ho81) hb)
                                have n4_ := Aside0.mk (Kd.R_elder' (by (with_reducible repeat (first | apply Kd.R_alloc | apply Kd.R_drewN | apply Kd.R_drew)); exact HO425.out) (Kd.R_base ho81) hb)
                                have n5_ := Aside0.mk (Kd.R_lower (Kd.R_new' (Kd.R_new' (Kd.R_new' (Kd.R_new' (Kd.R_new' ho81 (Kd.R_lt (by (with_reducible repeat (first | apply Kd.R_alloc | apply Kd.R_drewN | apply Kd.R_drew)); exact HO_4.out))) (Kd.R_lt (by (with_reducible repeat (first | apply Kd.R_alloc | apply Kd.R_drewN | apply Kd.R_drew)); exact HO411.out))) (Kd.R_lt (by (with_reducible repeat (first | apply Kd.R_alloc | apply Kd.R_drewN | apply Kd.R_drew)); exact HO416.out))) (Kd.R_lt (by (with_reducible repeat (first | apply Kd.R_alloc | apply Kd.R_drewN | apply Kd.R_drew)); exact HO420.out))) (Kd.R_lt (by (with_reducible repeat (first | apply Kd.R_alloc | apply Kd.R_drewN | apply Kd.R_drew)); exact HO425.out))) (below_size (by repeat (first | (with_reducible first | exact HB.out | apply below_alloc | apply pw_below_drewN | apply below_drew1 | refine below_set ?_ GE384.out) | exact HB.out))))
                                have n6_ := Aside0.mk (blk_below (g := gb384) (o := .cells #[.int .u16 t372, .int .u16 t373, .int .u32 t374, .int .u32 t375, .int .u8 t376, .int .u16 t377] 59 (0, 0)) (by (with_reducible repeat (first | refine blk_drewN ?_ _ | refine blk_drew ?_ | refine blk_alloc ?_ _)); exact BK384.out) hb)
                                have n7_ := Aside0.mk (below_step (by repeat (first | (with_reducible first | exact HB.out | apply below_alloc | apply pw_below_drewN | apply below_drew1 | refine below_set ?_ GE384.out) | exact HB.out)) hb)
                                clear HO_4
                                clear HO411
                                clear HO416
                                clear HO420
                                clear HO425
                                clear BK384
                                clear HB
                                have HO_4 := n0_
                                have HO411 := n1_
                                have HO416 := n2_
                                have HO420 := n3_
                                have HO425 := n4_
                                have HO429 := n5_
                                have BK384 := n6_
                                have HB := n7_
                                clear n0_ n1_ n2_ n3_ n4_ n5_ n6_ n7_
                                clear hb ho81
                                obtain ⟨Ao82, co82, eo82⟩ := Kd.R_slice HO429.out
                                (first | subst eo82 | (injection eo82 with f1_ f2_ f3_; have f4_ := f1_.symm; have f5_ := f3_.symm; clear f1_ f2_ f3_; subst f4_; subst f5_))
                                refine hK.out _ _ ⟨(blk_cell BK384.out 0).trans rfl, (blk_cell BK384.out 1).trans rfl, (blk_cell BK384.out 2).trans rfl, (blk_cell BK384.out 3).trans rfl, (blk_cell BK384.out 4).trans rfl, (blk_cell BK384.out 5).trans rfl⟩ (fun hHeld => ?_)
                                clear hK K
                                refine norm_ (a' := ?_) ?_ ?_
                                rotate_left
                                · show Act.put _ (some 87) _ = _
                                  simp only [Act.put, List.setIfInBounds_toArray, List.set_cons_zero, List.set_cons_succ, i64_w, i32_w]
                                  rfl
                                refine one_ (i := 24) (N := some 88) #[true, true, true, true, true, true, true, true, true, true, true, true, true, true, true, true, true, true, true, true, true, true, true, true, true, false, false] rfl rfl (one_of HT_.out (by kernel_rfl)) (by decide) (fun K hK => ?_)
                                refine goes_ Try.func15 (by kernel_rfl) rfl #[.agg #[.int .u16 t372, .int .u16 t373, .int .u32 t374, .int .u32 t375, .int .u8 t376, .int .u16 t377], .slice Ao82 y427.length co82, .slice none 0 0] (by rfl) rfl rfl (by (try simp only [List.map_toArray, List.map_cons, List.map_nil]); first | done | rfl | (simp only [List.length_drop, List.length_take]; rfl)) ?_
                                refine (sallyportlaw09_SegBack.calls k1 t372 t373 t374 t375 t376 t377 _ _ y427 _ _ ([] : List Int) t430 ⟨by first | rfl | exact hr_.out⟩ _ ?side1 ?side2 ?side3 ?side4 A57.out).mono ?_
                                (case side1 => repeat (first | exact (Kd.R_reads' HO429.out).2.2 | (with_reducible refine Kd.C_alloc ?_ _) | (with_reducible refine Kd.C_drewN ?_ _) | (with_reducible refine Kd.C_drew ?_)))
                                (case side2 => exact (Kd.R_reads' HO429.out).2.1)
                                (case side3 => exact Kd.C_nil _ _)
                                (case side4 => exact Nat.le_refl _)
                                rintro e w83 ⟨rfl, hb⟩
                                refine ⟨_, rfl, ?_⟩
                                have n0_ := Aside0.mk (Kd.R_below (by (with_reducible repeat (first | apply Kd.R_alloc | apply Kd.R_drewN | apply Kd.R_drew)); exact HO_4.out) hb)
                                have n1_ := Aside0.mk (Kd.R_below (by (with_reducible repeat (first | apply Kd.R_alloc | apply Kd.R_drewN | apply Kd.R_drew)); exact HO411.out) hb)
                                have n2_ := Aside0.mk (Kd.R_below (by (with_reducible repeat (first | apply Kd.R_alloc | apply Kd.R_drewN | apply Kd.R_drew)); exact HO416.out) hb)
                                have n3_ := Aside0.mk (Kd.R_below (by (with_reducible repeat (first | apply Kd.R_alloc | apply Kd.R_drewN | apply Kd.R_drew)); exact HO420.out) hb)
                                have n4_ := Aside0.mk (Kd.R_below (by (with_reducible repeat (first | apply Kd.R_alloc | apply Kd.R_drewN | apply Kd.R_drew)); exact HO425.out) hb)
                                have n5_ := Aside0.mk (Kd.R_below (by (with_reducible repeat (first | apply Kd.R_alloc | apply Kd.R_drewN | apply Kd.R_drew)); exact HO429.out) hb)
                                have n6_ := Aside0.mk (blk_below (g := gb384) (o := .cells #[.int .u16 t372, .int .u16 t373, .int .u32 t374, .int .u32 t375, .int .u8 t376, .int .u16 t377] 59 (0, 0)) (by (with_reducible repeat (first | refine blk_drewN ?_ _ | refine blk_drew ?_ | refine blk_alloc ?_ _)); exact BK384.out) hb)
                                have n7_ := Aside0.mk (below_step (by repeat (first | (with_reducible first | exact HB.out | apply below_alloc | apply pw_below_drewN | apply below_drew1 | refine below_set ?_ GE384.out) | exact HB.out)) hb)
                                clear HO_4
                                clear HO411
                                clear HO416
                                clear HO420
                                clear HO425
                                clear HO429
                                clear BK384
                                clear HB
                                have HO_4 := n0_
                                have HO411 := n1_
                                have HO416 := n2_
                                have HO420 := n3_
                                have HO425 := n4_
                                have HO429 := n5_
                                have BK384 := n6_
                                have HB := n7_
                                clear n0_ n1_ n2_ n3_ n4_ n5_ n6_ n7_
                                (try clear hb)
                                (try clear hb2)
                                (try clear hk)
                                (try clear hi)
                                refine hK.out _ _ ⟨(blk_cell BK384.out 0).trans rfl, (blk_cell BK384.out 1).trans rfl, (blk_cell BK384.out 2).trans rfl, (blk_cell BK384.out 3).trans rfl, (blk_cell BK384.out 4).trans rfl, (blk_cell BK384.out 5).trans rfl⟩ (fun hHeld => ?_)
                                clear hK K
                                refine norm_ (a' := ?_) ?_ ?_
                                rotate_left
                                · show Act.put _ (some 88) _ = _
                                  simp only [Act.put, List.setIfInBounds_toArray, List.set_cons_zero, List.set_cons_succ, i64_w, i32_w]
                                  rfl
                                refine pure_ (i := 25) (N := some 89) (v := ?_) (a' := ?_) #[true, true, true, true, true, true, true, true, true, true, true, true, true, true, true, true, true, true, true, true, true, true, true, true, true, true, false] rfl rfl (any_of HT_.out (by kernel_rfl)) (fun _ _ _ h => h) (Or.inl ⟨by rfl, ?_⟩) ?_ ?_
                                rotate_left
                                · intro w'
                                  go_simp
                                  with_reducible rfl
                                rotate_left
                                · simp only [Act.put, List.setIfInBounds_toArray, List.set_cons_zero, List.set_cons_succ, i64_w, i32_w]
                                  rfl
                                refine pure_ (i := 26) (N := some 0) (v := ?_) (a' := ?_) #[true, true, true, true, true, true, true, true, true, true, true, true, true, true, true, true, true, true, true, true, true, true, true, true, true, true, true] rfl rfl (any_of HT_.out (by kernel_rfl)) (fun _ _ _ h => h) (Or.inl ⟨by rfl, ?_⟩) ?_ ?_
                                rotate_left
                                · intro w'
                                  go_simp
                                  with_reducible rfl
                                rotate_left
                                · simp only [Act.put, List.setIfInBounds_toArray, List.set_cons_zero, List.set_cons_succ, i64_w, i32_w]
                                  rfl
                                refine done_ (done_of HT_.out (by kernel_rfl)) ?_
                                try go_wp2
                                go_ret
                                exact ⟨by first | rfl | (simp [errW_none, errW_some] <;> rfl) | (simp [*, errW_none, errW_some] <;> rfl), by repeat (first | (with_reducible first | exact HB.out | apply below_alloc | apply pw_below_drewN | apply below_drew1 | refine below_set ?_ GE384.out) | exact HB.out)⟩
                              · replace c56 := Bool.eq_false_iff.mpr c56
                                subst c56
                                have H1 : (some false) = some r := by rw [if_neg (show ¬ (false = true) by decide)] at H; exact H
                                clear H
                                have H := H1
                                clear H1
                                obtain rfl := Option.some.inj H
                                exact absurd hr_.out (by decide)
                            · rw [if_neg c54] at H
                              exact absurd H (by simp)
                          · replace c53 := Bool.eq_false_iff.mpr c53
                            subst c53
                            have H1 : (some false) = some r := by rw [if_neg (show ¬ (false = true) by decide)] at H; exact H
                            clear H
                            have H := H1
                            clear H1
                            obtain rfl := Option.some.inj H
                            exact absurd hr_.out (by decide)
                        · replace c51 := Bool.eq_false_iff.mpr c51
                          subst c51
                          have H1 : (some false) = some r := by rw [if_neg (show ¬ (false = true) by decide)] at H; exact H
                          clear H
                          have H := H1
                          clear H1
                          obtain rfl := Option.some.inj H
                          exact absurd hr_.out (by decide)
                      · rw [if_neg c49] at H
                        exact absurd H (by simp)
                    · replace c48 := Bool.eq_false_iff.mpr c48
                      subst c48
                      have H1 : (some false) = some r := by rw [if_neg (show ¬ (false = true) by decide)] at H; exact H
                      clear H
                      have H := H1
                      clear H1
                      obtain rfl := Option.some.inj H
                      exact absurd hr_.out (by decide)
                  · rw [if_neg c46] at H
                    exact absurd H (by simp)
                · replace c45 := Bool.eq_false_iff.mpr c45
                  subst c45
                  have H1 : (some false) = some r := by rw [if_neg (show ¬ (false = true) by decide)] at H; exact H
                  clear H
                  have H := H1
                  clear H1
                  obtain rfl := Option.some.inj H
                  exact absurd hr_.out (by decide)
              · replace c43 := Bool.eq_false_iff.mpr c43
                subst c43
                have H1 : (some false) = some r := by rw [if_neg (show ¬ (false = true) by decide)] at H; exact H
                clear H
                have H := H1
                clear H1
                obtain rfl := Option.some.inj H
                exact absurd hr_.out (by decide)
            · rw [if_neg c41] at H
              exact absurd H (by simp)
          · replace c40 := Bool.eq_false_iff.mpr c40
            subst c40
            have H1 : (some false) = some r := by rw [if_neg (show ¬ (false = true) by decide)] at H; exact H
            clear H
            have H := H1
            clear H1
            obtain rfl := Option.some.inj H
            exact absurd hr_.out (by decide)
        · rw [if_neg c38] at H
          have c38b0 : (t407 == 90) = false := beq_eq_false_iff_ne.mpr c38
          have c38b1 : (t407 != 90) = true := bne_iff_ne.mpr c38
          obtain rfl := Option.some.inj H
          exact absurd hr_.out (by decide)

/-- THE ONE PURE STATEMENT of sallyportlaw09_SegNames: yours. -/
def sallyportlaw09_SegNames.Pure : Prop := ∃ k, sallyportlaw09_SegNames.f k  = some true
theorem sallyportlaw09_SegNames.walk (P : sallyportlaw09_SegNames.Pure)  (w : World)  :
    Calls Try.prog 17 #[] w fun e w' => e = .returned (.bool true) ∧ Below w.heap.size w w' := by
  obtain ⟨k, h⟩ := P  
  refine (sallyportlaw09_SegNames.calls k  true ⟨rfl⟩ w h).mono ?_
  rintro e w' ⟨rfl, hd⟩
  exact ⟨rfl, hd⟩

end Go.Proofs.Ytipdajgcepefgaa.P
