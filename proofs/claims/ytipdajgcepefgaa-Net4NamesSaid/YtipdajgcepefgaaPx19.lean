/- Contracts of the functions that the statements reach, and the statements: written by a program of this repo (wip/patch_print.py); Lean checks every line; no conditions. -/
import Derived.Test.YtipdajgcepefgaaPx0
import Derived.Test.YtipdajgcepefgaaPx2
import Derived.Test.YtipdajgcepefgaaPx10
import Derived.Test.YtipdajgcepefgaaPx11
import Derived.Test.YtipdajgcepefgaaPx12
import Derived.Test.YtipdajgcepefgaaPx13
import Derived.Test.YtipdajgcepefgaaPx16
import Derived.Test.YtipdajgcepefgaaPx17
namespace Go.Proofs.Ytipdajgcepefgaa.P
open Go.RowKit Go.Proofs.YtipdajgcepefgaaW.PrintWords Go.Proofs.YtipdajgcepefgaaW.PrintLast Go.Proofs.YtipdajgcepefgaaW.PrintMore
attribute [local go_sem] max2_int min2_int max_two min_two max_three min_three max_four min_four Go.Proofs.YtipdajgcepefgaaW.Own.u16_all   -- for this text's walks alone
set_option linter.unusedVariables false
set_option linter.unusedSimpArgs false

/-! ### sallyportlaw07_Net4Names: function 7 -/
def sallyportlaw07_Net4Names.l0 : Nat → List Int → Int → Int → Int → Int → Int → Int → Int → Int → Int → Int → Int → Int → Int → Option (Bool)
  | 0, _, _, _, _, _, _, _, _, _, _, _, _, _, _ => none
  | k + 1, x4, x5, x397000, x397001, x397002, x397003, x397004, x397005, x397006, x397007, x397008, x397009, x397010, x397011 => if x5 < (x4.length : Int) then ((sallyportref00_CopyBytes.f x4).bind fun t400 => (if 0 ≤ x5 then (if x5 < (t400.length : Int) then ((sallyportlaw07_Net4Reads.f k (t400.set (x5 : Int).toNat (Go.bits .xor .u8 (rd t400 x5) 16))).bind fun t405 => (if t405 = true then (if x5 ≤ (x4.length : Int) then ((sallyportlaw07_Net4Reads.f k (x4.take (x5 : Int).toNat)).bind fun t410 => (if t410 = true then ((sallyportlaw07_join.f x4 (x4.take (x5 : Int).toNat)).bind fun t415 => ((sallyportlaw07_Net4Reads.f k t415).bind fun t418 => (if t418 = true then (sallyportlaw07_Net4Names.l0 k x4 (wrap64 (x5 + 1)) x397000 x397001 x397002 x397003 x397004 x397005 x397006 x397007 x397008 x397009 x397010 x397011) else (some false)))) else (some false))) else (none)) else (some false))) else (none)) else (none))) else ((sallyportlaw07_awake.f k).bind fun t419 => (if t419 = true then (if 2028 ≤ 281474976710656 then ((sallyportlaw07_Net4Bytes.f k x397000 x397001 x397002 x397003 x397004 x397005 x397006 x397007 x397008 x397009 x397010 x397011 (List.replicate 2028 0)).bind fun t423 => (if t423 = true then (if 2029 ≤ 281474976710656 then ((sallyportlaw07_Net4Bytes.f k x397000 x397001 x397002 x397003 x397004 x397005 x397006 x397007 x397008 x397009 x397010 x397011 (List.replicate 2029 0)).bind fun t427 => (if t427 = true then ((sallyportlaw07_Net4Bytes.f k 0 0 0 0 0 0 0 0 0 0 0 0 ([] : List Int)).bind fun t428 => (if t428 = true then (if 70000 ≤ 281474976710656 then ((sallyportlaw07_Net4Reads.f k (List.replicate 70000 0)).bind fun t432 => (if t432 = true then ((sallyportlaw07_Net4Back.f k x397000 x397001 x397002 x397003 x397004 x397005 x397006 x397007 x397008 x397009 x397010 x397011 (List.replicate 2028 0) ([] : List Int)).bind fun t436 => (some t436)) else (some false))) else (none)) else (some false))) else (some false))) else (none)) else (some false))) else (none)) else (some false)))
def sallyportlaw07_Net4Names.f (k : Nat)  : Option (Bool) := (sallyportlaw07_usual.f).bind fun bt378 => ((sallyportlaw07_join.f bt378.2.2.2.2.2.2.2.2.2.2.2.2.2 bt378.2.2.2.2.2.2.2.2.2.2.2.2.1).bind fun t397 => (sallyportlaw07_Net4Names.l0 k t397 0 bt378.1 bt378.2.1 bt378.2.2.1 bt378.2.2.2.1 bt378.2.2.2.2.1 bt378.2.2.2.2.2.1 bt378.2.2.2.2.2.2.1 bt378.2.2.2.2.2.2.2.1 bt378.2.2.2.2.2.2.2.2.1 bt378.2.2.2.2.2.2.2.2.2.1 bt378.2.2.2.2.2.2.2.2.2.2.1 bt378.2.2.2.2.2.2.2.2.2.2.2.1))
theorem sallyportlaw07_Net4Names.mono_l : ∀ k, (∀ y0 y1 y2 y3 y4 y5 y6 y7 y8 y9 y10 y11 y12 y13, LeO (sallyportlaw07_Net4Names.l0 k y0 y1 y2 y3 y4 y5 y6 y7 y8 y9 y10 y11 y12 y13) (sallyportlaw07_Net4Names.l0 (k + 1) y0 y1 y2 y3 y4 y5 y6 y7 y8 y9 y10 y11 y12 y13))
  | 0 => fun _ _ _ _ _ _ _ _ _ _ _ _ _ _ r h => by simp [sallyportlaw07_Net4Names.l0] at h
  | k + 1 => by
    have ih0 := sallyportlaw07_Net4Names.mono_l k
    · intro y0 y1 y2 y3 y4 y5 y6 y7 y8 y9 y10 y11 y12 y13
      unfold sallyportlaw07_Net4Names.l0
      repeat' first
      | (with_reducible exact ih0 _ _ _ _ _ _ _ _ _ _ _ _ _ _)
      | (with_reducible exact sallyportlaw07_Net4Back.mono _ _ _ _ _ _ _ _ _ _ _ _ _ _ _)
      | (with_reducible exact sallyportlaw07_Net4Bytes.mono _ _ _ _ _ _ _ _ _ _ _ _ _ _)
      | (with_reducible exact sallyportlaw07_Net4Reads.mono _ _)
      | (with_reducible exact sallyportlaw07_awake.mono _)
      | (with_reducible exact LeO.refl _)
      | (with_reducible exact LeO.none _)
      | (with_reducible refine LeO.ite ?_ ?_)
      | (with_reducible refine LeO.bind ?_ (fun _ => ?_))
      | exact ih0 _ _ _ _ _ _ _ _ _ _ _ _ _ _
      | exact sallyportlaw07_Net4Back.mono _ _ _ _ _ _ _ _ _ _ _ _ _ _ _
      | exact sallyportlaw07_Net4Bytes.mono _ _ _ _ _ _ _ _ _ _ _ _ _ _
      | exact sallyportlaw07_Net4Reads.mono _ _
      | exact sallyportlaw07_awake.mono _
      | exact LeO.none _
      | refine LeO.ite ?_ ?_
      | refine LeO.bind ?_ (fun _ => ?_)
theorem sallyportlaw07_Net4Names.mono : ∀ k, LeO (sallyportlaw07_Net4Names.f k ) (sallyportlaw07_Net4Names.f (k + 1) ) := by
  intro  k
  have ih0 := sallyportlaw07_Net4Names.mono_l k
  unfold sallyportlaw07_Net4Names.f
  repeat' first
      | (with_reducible exact ih0 _ _ _ _ _ _ _ _ _ _ _ _ _ _)
      | (with_reducible exact sallyportlaw07_Net4Back.mono _ _ _ _ _ _ _ _ _ _ _ _ _ _ _)
      | (with_reducible exact sallyportlaw07_Net4Bytes.mono _ _ _ _ _ _ _ _ _ _ _ _ _ _)
      | (with_reducible exact sallyportlaw07_Net4Reads.mono _ _)
      | (with_reducible exact sallyportlaw07_awake.mono _)
      | (with_reducible exact LeO.refl _)
      | (with_reducible exact LeO.none _)
      | (with_reducible refine LeO.ite ?_ ?_)
      | (with_reducible refine LeO.bind ?_ (fun _ => ?_))
      | exact ih0 _ _ _ _ _ _ _ _ _ _ _ _ _ _
      | exact sallyportlaw07_Net4Back.mono _ _ _ _ _ _ _ _ _ _ _ _ _ _ _
      | exact sallyportlaw07_Net4Bytes.mono _ _ _ _ _ _ _ _ _ _ _ _ _ _
      | exact sallyportlaw07_Net4Reads.mono _ _
      | exact sallyportlaw07_awake.mono _
      | exact LeO.none _
      | refine LeO.ite ?_ ?_
      | refine LeO.bind ?_ (fun _ => ?_)
def sallyportlaw07_Net4Names.T10 : Bool × List (List Nat × List Nat) := (true, [([], []), ([0, 0], [0]), ([0, 1], [0, 1]), ([2, 1], [2]), ([3], [3]), ([3], [3]), ([4, 5, 3, 3], [3, 4, 5]), ([3, 6], [3, 6]), ([7, 6], [7]), ([8], [8]), ([8], [8]), ([9, 10, 8, 8], [8, 9, 10]), ([8, 11], [8, 11]), ([12, 11], [12]), ([13], [13]), ([14, 13, 13], [13, 14]), ([13, 15], [13, 15]), ([16, 15], [16]), ([17], [17]), ([18, 17, 17], [17, 18]), ([17, 19], [17, 19]), ([20, 19], [20]), ([21], [21]), ([21], [21]), ([22, 23, 21, 21], [21, 22, 23]), ([21, 24], [21, 24]), ([25, 24, 0, 1, 2, 3, 4, 5, 6, 7, 8, 9, 10, 11, 12, 13, 14, 15, 16, 17, 18, 19, 20, 21, 22, 23, 24, 25], [25])])
def sallyportlaw07_Net4Names.B10 : List Nat := [0, 1, 3, 7, 15, 15, 63, 127, 255, 511, 511, 2047, 4095, 8191, 16383, 32767, 65535, 131071, 262143, 524287, 1048575, 2097151, 4194303, 4194303, 16777215, 33554431, 67108863]
theorem sallyportlaw07_Net4Names.tab10 : rtab .any (opsOf Try.f7 10) = sallyportlaw07_Net4Names.T10 := by kernel_rfl
theorem sallyportlaw07_Net4Names.bits10 : waitsOk sallyportlaw07_Net4Names.T10.2 sallyportlaw07_Net4Names.B10 = true := by kernel_rfl
set_option maxHeartbeats 8000000 in
set_option maxRecDepth 100000 in
theorem sallyportlaw07_Net4Names.calls (k : Nat)  (r : Bool) (hr_ : Aside0 (r = true)) (w : World) (h : sallyportlaw07_Net4Names.f k  = some r) :
    Calls Try.prog 7 #[] w fun e w' => e = .returned (.bool r) ∧ Below w.heap.size w w' := by
  have hu25 := Try.underlying25
  have HB := Aside0.mk (Below.refl w.heap.size w)
  have H : ((sallyportlaw07_usual.f).bind fun bt378 => ((sallyportlaw07_join.f bt378.2.2.2.2.2.2.2.2.2.2.2.2.2 bt378.2.2.2.2.2.2.2.2.2.2.2.2.1).bind fun t397 => (sallyportlaw07_Net4Names.l0 k t397 0 bt378.1 bt378.2.1 bt378.2.2.1 bt378.2.2.2.1 bt378.2.2.2.2.1 bt378.2.2.2.2.2.1 bt378.2.2.2.2.2.2.1 bt378.2.2.2.2.2.2.2.1 bt378.2.2.2.2.2.2.2.2.1 bt378.2.2.2.2.2.2.2.2.2.1 bt378.2.2.2.2.2.2.2.2.2.2.1 bt378.2.2.2.2.2.2.2.2.2.2.2.1))) = some r := h
  clear h
  replace H := Option.bind_eq_some_iff.mp H
  obtain ⟨⟨t378, t379, t380, t381, t382, t383, t384, t385, t386, t387, t388, t389, t390, t393⟩, A10, H⟩ := H
  replace H : ((sallyportlaw07_join.f t393 t390).bind fun t397 => (sallyportlaw07_Net4Names.l0 k t397 0 t378 t379 t380 t381 t382 t383 t384 t385 t386 t387 t388 t389)) = some r := H
  have A1 := Aside0.mk A10
  clear A10
  replace H := Option.bind_eq_some_iff.mp H
  obtain ⟨t397, A20, H⟩ := H
  replace H : (sallyportlaw07_Net4Names.l0 k t397 0 t378 t379 t380 t381 t382 t383 t384 t385 t386 t387 t388 t389) = some r := H
  have A2 := Aside0.mk A20
  clear A20
  have H' := Aside0.mk H
  clear H
  go_enter Try.func7, Try.ntmps7
  go_wp2_with (first | ((with_reducible refine gate_callee (f := 31) rfl ?_); refine goesL_ (some 8) rfl rfl Try.func31 (by kernel_rfl) rfl #[] rfl (by (try simp only [List.map_toArray, List.map_cons, List.map_nil]); first | done | rfl | (simp only [List.length_drop, List.length_take]; rfl)) ?_; (with_reducible refine (sallyportlaw07_usual.calls  t378 t379 t380 t381 t382 t383 t384 t385 t386 t387 t388 t389 t390 t393 _ A1.out).mono ?_); rintro e w3 ⟨v391, v394, rfl, ho0, ho1, hb⟩; refine ⟨_, rfl, ?_⟩; have n0_ := Aside0.mk (Kd.R_lower ho0 (below_size (by repeat (first | (with_reducible first | exact HB.out | apply below_alloc | apply pw_below_drewN | apply below_drew1) | exact HB.out)))); have n1_ := Aside0.mk (Kd.R_lower ho1 (below_size (by repeat (first | (with_reducible first | exact HB.out | apply below_alloc | apply pw_below_drewN | apply below_drew1) | exact HB.out)))); have n2_ := Aside0.mk (below_step (by repeat (first | (with_reducible first | exact HB.out | apply below_alloc | apply pw_below_drewN | apply below_drew1) | exact HB.out)) hb); clear HB; have HO392 := n0_; have HO395 := n1_; have HB := n2_; clear n0_ n1_ n2_; (try clear hb); (try clear hb2); (try clear hk); (try clear hi); (try clear ho0); (try clear ho1)) | ((with_reducible refine gate_dst (N := 1) rfl ?_); (try (refine gate_guard (by rfl) ?_; dsimp only)); refine box_event ?hg (N := 1) ?hd (cs := #[.int .u8 0, .int .u8 0, .int .u8 0, .int .u16 0, .int .u8 0, .int .u8 0, .int .u8 0, .int .u8 0, .int .u8 0, .int .u8 0, .int .u8 0, .int .u8 0]) (t := 25) ?hr ?_; (case hd => rfl); (case hg => rfl); (case hr => first | (go_simp; done) | (go_simp; rfl)); intro gb396 hg w4 hbox hb; have n0_ := Aside0.mk (Kd.R_below (by (with_reducible repeat (first | apply Kd.R_alloc | apply Kd.R_drewN | apply Kd.R_drew)); exact HO392.out) hb); have n1_ := Aside0.mk (Kd.R_below (by (with_reducible repeat (first | apply Kd.R_alloc | apply Kd.R_drewN | apply Kd.R_drew)); exact HO395.out) hb); have n2_ := Aside0.mk (below_step (by repeat (first | (with_reducible first | exact HB.out | apply below_alloc | apply pw_below_drewN | apply below_drew1) | exact HB.out)) hb); have n3_ := Aside0.mk (hbox); have n4_ := Aside0.mk ((by rw [hg]; exact (below_size (by repeat (first | (with_reducible first | exact HB.out | apply below_alloc | apply pw_below_drewN | apply below_drew1) | exact HB.out))) : w.heap.size ≤ gb396)); have n5_ := Aside0.mk ((by rw [hg]; exact (below_size (by repeat (first | (with_reducible first | exact HB.out | apply below_alloc | apply pw_below_drewN | apply below_drew1) | exact HB.out))) : w.heap.size ≤ gb396)); clear HO392; clear HO395; clear HB; have HO392 := n0_; have HO395 := n1_; have HB := n2_; have BK396 := n3_; have GW396 := n4_; have GE396 := n5_; clear n0_ n1_ n2_ n3_ n4_ n5_; clear hb hbox hg; have hcz5_0 : w4.cell? ⟨gb396, 0, none⟩ = some (.int .u8 0) := (blk_cell BK396.out 0).trans rfl; have hcz5_1 : w4.cell? ⟨gb396, 1, none⟩ = some (.int .u8 0) := (blk_cell BK396.out 1).trans rfl; have hcz5_2 : w4.cell? ⟨gb396, 2, none⟩ = some (.int .u8 0) := (blk_cell BK396.out 2).trans rfl; have hcz5_3 : w4.cell? ⟨gb396, 3, none⟩ = some (.int .u16 0) := (blk_cell BK396.out 3).trans rfl; have hcz5_4 : w4.cell? ⟨gb396, 4, none⟩ = some (.int .u8 0) := (blk_cell BK396.out 4).trans rfl; have hcz5_5 : w4.cell? ⟨gb396, 5, none⟩ = some (.int .u8 0) := (blk_cell BK396.out 5).trans rfl; have hcz5_6 : w4.cell? ⟨gb396, 6, none⟩ = some (.int .u8 0) := (blk_cell BK396.out 6).trans rfl; have hcz5_7 : w4.cell? ⟨gb396, 7, none⟩ = some (.int .u8 0) := (blk_cell BK396.out 7).trans rfl; have hcz5_8 : w4.cell? ⟨gb396, 8, none⟩ = some (.int .u8 0) := (blk_cell BK396.out 8).trans rfl; have hcz5_9 : w4.cell? ⟨gb396, 9, none⟩ = some (.int .u8 0) := (blk_cell BK396.out 9).trans rfl; have hcz5_10 : w4.cell? ⟨gb396, 10, none⟩ = some (.int .u8 0) := (blk_cell BK396.out 10).trans rfl; have hcz5_11 : w4.cell? ⟨gb396, 11, none⟩ = some (.int .u8 0) := (blk_cell BK396.out 11).trans rfl; have hfz5_0 := blk_frozen BK396.out 0; have hfz5_1 := blk_frozen BK396.out 1; have hfz5_2 := blk_frozen BK396.out 2; have hfz5_3 := blk_frozen BK396.out 3; have hfz5_4 := blk_frozen BK396.out 4; have hfz5_5 := blk_frozen BK396.out 5; have hfz5_6 := blk_frozen BK396.out 6; have hfz5_7 := blk_frozen BK396.out 7; have hfz5_8 := blk_frozen BK396.out 8; have hfz5_9 := blk_frozen BK396.out 9; have hfz5_10 := blk_frozen BK396.out 10; have hfz5_11 := blk_frozen BK396.out 11; obtain ⟨Ao6, co6, eo6⟩ := Kd.R_slice HO395.out; subst eo6; obtain ⟨Ao7, co7, eo7⟩ := Kd.R_slice HO392.out; subst eo7) | ((with_reducible refine gate_callee (f := 29) rfl ?_); refine goesL_ (some 14) rfl rfl Try.func29 (by kernel_rfl) rfl #[.slice Ao6 t393.length co6, .slice Ao7 t390.length co7] rfl (by (try simp only [List.map_toArray, List.map_cons, List.map_nil]); first | done | rfl | (simp only [List.length_drop, List.length_take]; rfl)) ?_; (with_reducible refine (sallyportlaw07_join.calls _ _ t393 _ _ t390 t397 _ ?side1 ?side2 ?side3 ?side4 A2.out).mono ?_); (case side1 => refine (Kd.R_reads' (e := 5) (base := w.heap.size) (ok := fun k_ => some k_ ≠ (.slice Ao7 t390.length co7 : Value).ownBlock) (n := t393.length) (c := co6) ?_).2.2; exact (by (with_reducible repeat (first | apply Kd.R_alloc | apply Kd.R_drewN | apply Kd.R_drew)); exact (Kd.R_mono (Kd.R_far (p := ⟨gb396, 11, none⟩) (Kd.R_far (p := ⟨gb396, 10, none⟩) (Kd.R_far (p := ⟨gb396, 9, none⟩) (Kd.R_far (p := ⟨gb396, 8, none⟩) (Kd.R_far (p := ⟨gb396, 7, none⟩) (Kd.R_far (p := ⟨gb396, 6, none⟩) (Kd.R_far (p := ⟨gb396, 5, none⟩) (Kd.R_far (p := ⟨gb396, 4, none⟩) (Kd.R_far (p := ⟨gb396, 3, none⟩) (Kd.R_far (p := ⟨gb396, 2, none⟩) (Kd.R_far (p := ⟨gb396, 1, none⟩) (Kd.R_far (p := ⟨gb396, 0, none⟩) (Kd.R_types HO395.out BK396.out (by decide)) (fun _ hk => hk.2) (.int .u8 t378)) (fun _ hk => hk.2) (.int .u8 t379)) (fun _ hk => hk.2) (.int .u8 t380)) (fun _ hk => hk.2) (.int .u16 t381)) (fun _ hk => hk.2) (.int .u8 t382)) (fun _ hk => hk.2) (.int .u8 t383)) (fun _ hk => hk.2) (.int .u8 t384)) (fun _ hk => hk.2) (.int .u8 t385)) (fun _ hk => hk.2) (.int .u8 t386)) (fun _ hk => hk.2) (.int .u8 t387)) (fun _ hk => hk.2) (.int .u8 t388)) (fun _ hk => hk.2) (.int .u8 t389)) (fun _ h_ => h_.1)))); (case side2 => exact (Kd.R_reads' HO395.out).2.1); (case side3 => refine (Kd.R_reads' (e := 5) (base := w.heap.size) (ok := fun k_ => some k_ ≠ (.slice Ao6 t393.length co6 : Value).ownBlock) (n := t390.length) (c := co7) ?_).2.2; exact (by (with_reducible repeat (first | apply Kd.R_alloc | apply Kd.R_drewN | apply Kd.R_drew)); exact (Kd.R_mono (Kd.R_far (p := ⟨gb396, 11, none⟩) (Kd.R_far (p := ⟨gb396, 10, none⟩) (Kd.R_far (p := ⟨gb396, 9, none⟩) (Kd.R_far (p := ⟨gb396, 8, none⟩) (Kd.R_far (p := ⟨gb396, 7, none⟩) (Kd.R_far (p := ⟨gb396, 6, none⟩) (Kd.R_far (p := ⟨gb396, 5, none⟩) (Kd.R_far (p := ⟨gb396, 4, none⟩) (Kd.R_far (p := ⟨gb396, 3, none⟩) (Kd.R_far (p := ⟨gb396, 2, none⟩) (Kd.R_far (p := ⟨gb396, 1, none⟩) (Kd.R_far (p := ⟨gb396, 0, none⟩) (Kd.R_types HO392.out BK396.out (by decide)) (fun _ hk => hk.2) (.int .u8 t378)) (fun _ hk => hk.2) (.int .u8 t379)) (fun _ hk => hk.2) (.int .u8 t380)) (fun _ hk => hk.2) (.int .u16 t381)) (fun _ hk => hk.2) (.int .u8 t382)) (fun _ hk => hk.2) (.int .u8 t383)) (fun _ hk => hk.2) (.int .u8 t384)) (fun _ hk => hk.2) (.int .u8 t385)) (fun _ hk => hk.2) (.int .u8 t386)) (fun _ hk => hk.2) (.int .u8 t387)) (fun _ hk => hk.2) (.int .u8 t388)) (fun _ hk => hk.2) (.int .u8 t389)) (fun _ h_ => h_.1)))); (case side4 => exact (Kd.R_reads' HO392.out).2.1); rintro e w8 ⟨v398, rfl, ho0, hb⟩; refine ⟨_, rfl, ?_⟩; have n0_ := Aside0.mk (Kd.R_elder' (by (with_reducible repeat (first | apply Kd.R_alloc | apply Kd.R_drewN | apply Kd.R_drew)); exact (Kd.R_mono (Kd.R_far (p := ⟨gb396, 11, none⟩) (Kd.R_far (p := ⟨gb396, 10, none⟩) (Kd.R_far (p := ⟨gb396, 9, none⟩) (Kd.R_far (p := ⟨gb396, 8, none⟩) (Kd.R_far (p := ⟨gb396, 7, none⟩) (Kd.R_far (p := ⟨gb396, 6, none⟩) (Kd.R_far (p := ⟨gb396, 5, none⟩) (Kd.R_far (p := ⟨gb396, 4, none⟩) (Kd.R_far (p := ⟨gb396, 3, none⟩) (Kd.R_far (p := ⟨gb396, 2, none⟩) (Kd.R_far (p := ⟨gb396, 1, none⟩) (Kd.R_far (p := ⟨gb396, 0, none⟩) (Kd.R_types HO392.out BK396.out (by decide)) (fun _ hk => hk.2) (.int .u8 t378)) (fun _ hk => hk.2) (.int .u8 t379)) (fun _ hk => hk.2) (.int .u8 t380)) (fun _ hk => hk.2) (.int .u16 t381)) (fun _ hk => hk.2) (.int .u8 t382)) (fun _ hk => hk.2) (.int .u8 t383)) (fun _ hk => hk.2) (.int .u8 t384)) (fun _ hk => hk.2) (.int .u8 t385)) (fun _ hk => hk.2) (.int .u8 t386)) (fun _ hk => hk.2) (.int .u8 t387)) (fun _ hk => hk.2) (.int .u8 t388)) (fun _ hk => hk.2) (.int .u8 t389)) (fun _ h_ => h_.1))) (Kd.R_base ho0) hb); have n1_ := Aside0.mk (Kd.R_elder' (by (with_reducible repeat (first | apply Kd.R_alloc | apply Kd.R_drewN | apply Kd.R_drew)); exact (Kd.R_mono (Kd.R_far (p := ⟨gb396, 11, none⟩) (Kd.R_far (p := ⟨gb396, 10, none⟩) (Kd.R_far (p := ⟨gb396, 9, none⟩) (Kd.R_far (p := ⟨gb396, 8, none⟩) (Kd.R_far (p := ⟨gb396, 7, none⟩) (Kd.R_far (p := ⟨gb396, 6, none⟩) (Kd.R_far (p := ⟨gb396, 5, none⟩) (Kd.R_far (p := ⟨gb396, 4, none⟩) (Kd.R_far (p := ⟨gb396, 3, none⟩) (Kd.R_far (p := ⟨gb396, 2, none⟩) (Kd.R_far (p := ⟨gb396, 1, none⟩) (Kd.R_far (p := ⟨gb396, 0, none⟩) (Kd.R_types HO395.out BK396.out (by decide)) (fun _ hk => hk.2) (.int .u8 t378)) (fun _ hk => hk.2) (.int .u8 t379)) (fun _ hk => hk.2) (.int .u8 t380)) (fun _ hk => hk.2) (.int .u16 t381)) (fun _ hk => hk.2) (.int .u8 t382)) (fun _ hk => hk.2) (.int .u8 t383)) (fun _ hk => hk.2) (.int .u8 t384)) (fun _ hk => hk.2) (.int .u8 t385)) (fun _ hk => hk.2) (.int .u8 t386)) (fun _ hk => hk.2) (.int .u8 t387)) (fun _ hk => hk.2) (.int .u8 t388)) (fun _ hk => hk.2) (.int .u8 t389)) (fun _ h_ => h_.1))) (Kd.R_base ho0) hb); have n2_ := Aside0.mk (Kd.R_lower (Kd.R_new' (Kd.R_new' ho0 (Kd.R_lt (by (with_reducible repeat (first | apply Kd.R_alloc | apply Kd.R_drewN | apply Kd.R_drew)); exact (Kd.R_mono (Kd.R_far (p := ⟨gb396, 11, none⟩) (Kd.R_far (p := ⟨gb396, 10, none⟩) (Kd.R_far (p := ⟨gb396, 9, none⟩) (Kd.R_far (p := ⟨gb396, 8, none⟩) (Kd.R_far (p := ⟨gb396, 7, none⟩) (Kd.R_far (p := ⟨gb396, 6, none⟩) (Kd.R_far (p := ⟨gb396, 5, none⟩) (Kd.R_far (p := ⟨gb396, 4, none⟩) (Kd.R_far (p := ⟨gb396, 3, none⟩) (Kd.R_far (p := ⟨gb396, 2, none⟩) (Kd.R_far (p := ⟨gb396, 1, none⟩) (Kd.R_far (p := ⟨gb396, 0, none⟩) (Kd.R_types HO392.out BK396.out (by decide)) (fun _ hk => hk.2) (.int .u8 t378)) (fun _ hk => hk.2) (.int .u8 t379)) (fun _ hk => hk.2) (.int .u8 t380)) (fun _ hk => hk.2) (.int .u16 t381)) (fun _ hk => hk.2) (.int .u8 t382)) (fun _ hk => hk.2) (.int .u8 t383)) (fun _ hk => hk.2) (.int .u8 t384)) (fun _ hk => hk.2) (.int .u8 t385)) (fun _ hk => hk.2) (.int .u8 t386)) (fun _ hk => hk.2) (.int .u8 t387)) (fun _ hk => hk.2) (.int .u8 t388)) (fun _ hk => hk.2) (.int .u8 t389)) (fun _ h_ => h_.1))))) (Kd.R_lt (by (with_reducible repeat (first | apply Kd.R_alloc | apply Kd.R_drewN | apply Kd.R_drew)); exact (Kd.R_mono (Kd.R_far (p := ⟨gb396, 11, none⟩) (Kd.R_far (p := ⟨gb396, 10, none⟩) (Kd.R_far (p := ⟨gb396, 9, none⟩) (Kd.R_far (p := ⟨gb396, 8, none⟩) (Kd.R_far (p := ⟨gb396, 7, none⟩) (Kd.R_far (p := ⟨gb396, 6, none⟩) (Kd.R_far (p := ⟨gb396, 5, none⟩) (Kd.R_far (p := ⟨gb396, 4, none⟩) (Kd.R_far (p := ⟨gb396, 3, none⟩) (Kd.R_far (p := ⟨gb396, 2, none⟩) (Kd.R_far (p := ⟨gb396, 1, none⟩) (Kd.R_far (p := ⟨gb396, 0, none⟩) (Kd.R_types HO395.out BK396.out (by decide)) (fun _ hk => hk.2) (.int .u8 t378)) (fun _ hk => hk.2) (.int .u8 t379)) (fun _ hk => hk.2) (.int .u8 t380)) (fun _ hk => hk.2) (.int .u16 t381)) (fun _ hk => hk.2) (.int .u8 t382)) (fun _ hk => hk.2) (.int .u8 t383)) (fun _ hk => hk.2) (.int .u8 t384)) (fun _ hk => hk.2) (.int .u8 t385)) (fun _ hk => hk.2) (.int .u8 t386)) (fun _ hk => hk.2) (.int .u8 t387)) (fun _ hk => hk.2) (.int .u8 t388)) (fun _ hk => hk.2) (.int .u8 t389)) (fun _ h_ => h_.1))))) (below_size (by repeat (first | (with_reducible first | exact HB.out | apply below_alloc | apply pw_below_drewN | apply below_drew1 | refine below_set ?_ GE396.out) | exact HB.out)))); have n3_ := Aside0.mk (blk_below (g := gb396) (o := .cells #[.int .u8 t378, .int .u8 t379, .int .u8 t380, .int .u16 t381, .int .u8 t382, .int .u8 t383, .int .u8 t384, .int .u8 t385, .int .u8 t386, .int .u8 t387, .int .u8 t388, .int .u8 t389] 25 (0, 0)) (by (with_reducible repeat (first | refine blk_drewN ?_ _ | refine blk_drew ?_ | refine blk_alloc ?_ _)); refine blk_put (cs := #[.int .u8 t378, .int .u8 t379, .int .u8 t380, .int .u16 t381, .int .u8 t382, .int .u8 t383, .int .u8 t384, .int .u8 t385, .int .u8 t386, .int .u8 t387, .int .u8 t388, .int .u8 0]) ?_ 11 _ rfl; (with_reducible repeat (first | refine blk_drewN ?_ _ | refine blk_drew ?_ | refine blk_alloc ?_ _)); refine blk_put (cs := #[.int .u8 t378, .int .u8 t379, .int .u8 t380, .int .u16 t381, .int .u8 t382, .int .u8 t383, .int .u8 t384, .int .u8 t385, .int .u8 t386, .int .u8 t387, .int .u8 0, .int .u8 0]) ?_ 10 _ rfl; (with_reducible repeat (first | refine blk_drewN ?_ _ | refine blk_drew ?_ | refine blk_alloc ?_ _)); refine blk_put (cs := #[.int .u8 t378, .int .u8 t379, .int .u8 t380, .int .u16 t381, .int .u8 t382, .int .u8 t383, .int .u8 t384, .int .u8 t385, .int .u8 t386, .int .u8 0, .int .u8 0, .int .u8 0]) ?_ 9 _ rfl; (with_reducible repeat (first | refine blk_drewN ?_ _ | refine blk_drew ?_ | refine blk_alloc ?_ _)); refine blk_put (cs := #[.int .u8 t378, .int .u8 t379, .int .u8 t380, .int .u16 t381, .int .u8 t382, .int .u8 t383, .int .u8 t384, .int .u8 t385, .int .u8 0, .int .u8 0, .int .u8 0, .int .u8 0]) ?_ 8 _ rfl; (with_reducible repeat (first | refine blk_drewN ?_ _ | refine blk_drew ?_ | refine blk_alloc ?_ _)); refine blk_put (cs := #[.int .u8 t378, .int .u8 t379, .int .u8 t380, .int .u16 t381, .int .u8 t382, .int .u8 t383, .int .u8 t384, .int .u8 0, .int .u8 0, .int .u8 0, .int .u8 0, .int .u8 0]) ?_ 7 _ rfl; (with_reducible repeat (first | refine blk_drewN ?_ _ | refine blk_drew ?_ | refine blk_alloc ?_ _)); refine blk_put (cs := #[.int .u8 t378, .int .u8 t379, .int .u8 t380, .int .u16 t381, .int .u8 t382, .int .u8 t383, .int .u8 0, .int .u8 0, .int .u8 0, .int .u8 0, .int .u8 0, .int .u8 0]) ?_ 6 _ rfl; (with_reducible repeat (first | refine blk_drewN ?_ _ | refine blk_drew ?_ | refine blk_alloc ?_ _)); refine blk_put (cs := #[.int .u8 t378, .int .u8 t379, .int .u8 t380, .int .u16 t381, .int .u8 t382, .int .u8 0, .int .u8 0, .int .u8 0, .int .u8 0, .int .u8 0, .int .u8 0, .int .u8 0]) ?_ 5 _ rfl; (with_reducible repeat (first | refine blk_drewN ?_ _ | refine blk_drew ?_ | refine blk_alloc ?_ _)); refine blk_put (cs := #[.int .u8 t378, .int .u8 t379, .int .u8 t380, .int .u16 t381, .int .u8 0, .int .u8 0, .int .u8 0, .int .u8 0, .int .u8 0, .int .u8 0, .int .u8 0, .int .u8 0]) ?_ 4 _ rfl; (with_reducible repeat (first | refine blk_drewN ?_ _ | refine blk_drew ?_ | refine blk_alloc ?_ _)); refine blk_put (cs := #[.int .u8 t378, .int .u8 t379, .int .u8 t380, .int .u16 0, .int .u8 0, .int .u8 0, .int .u8 0, .int .u8 0, .int .u8 0, .int .u8 0, .int .u8 0, .int .u8 0]) ?_ 3 _ rfl; (with_reducible repeat (first | refine blk_drewN ?_ _ | refine blk_drew ?_ | refine blk_alloc ?_ _)); refine blk_put (cs := #[.int .u8 t378, .int .u8 t379, .int .u8 0, .int .u16 0, .int .u8 0, .int .u8 0, .int .u8 0, .int .u8 0, .int .u8 0, .int .u8 0, .int .u8 0, .int .u8 0]) ?_ 2 _ rfl; (with_reducible repeat (first | refine blk_drewN ?_ _ | refine blk_drew ?_ | refine blk_alloc ?_ _)); refine blk_put (cs := #[.int .u8 t378, .int .u8 0, .int .u8 0, .int .u16 0, .int .u8 0, .int .u8 0, .int .u8 0, .int .u8 0, .int .u8 0, .int .u8 0, .int .u8 0, .int .u8 0]) ?_ 1 _ rfl; (with_reducible repeat (first | refine blk_drewN ?_ _ | refine blk_drew ?_ | refine blk_alloc ?_ _)); refine blk_put (cs := #[.int .u8 0, .int .u8 0, .int .u8 0, .int .u16 0, .int .u8 0, .int .u8 0, .int .u8 0, .int .u8 0, .int .u8 0, .int .u8 0, .int .u8 0, .int .u8 0]) ?_ 0 _ rfl; (with_reducible repeat (first | refine blk_drewN ?_ _ | refine blk_drew ?_ | refine blk_alloc ?_ _)); exact BK396.out) hb); have n4_ := Aside0.mk (below_step (by repeat (first | (with_reducible first | exact HB.out | apply below_alloc | apply pw_below_drewN | apply below_drew1 | refine below_set ?_ GE396.out) | exact HB.out)) hb); clear HO392; clear HO395; clear BK396; clear HB; have HO392 := n0_; have HO395 := n1_; have HO399 := n2_; have BK396 := n3_; have HB := n4_; clear n0_ n1_ n2_ n3_ n4_; (try clear hb); (try clear hb2); (try clear hk); (try clear hi); (try clear ho0)))
  go_loopg [5] k (fun kq v5 w' => ∃ (x4_1 : List Int) (x5_1 : Int), v5 = .int .i64 x5_1 ∧ Aside0 (sallyportlaw07_Net4Names.l0 kq x4_1 x5_1 t378 t379 t380 t381 t382 t383 t384 t385 t386 t387 t388 t389 = some r) ∧ Aside0 (kq ≤ k) ∧ Aside0 (Kd.R (Kd.int .u8) 5 w' w.heap.size (fun _ => True) v398 x4_1) ∧ Aside0 (w'.heap[gb396]? = some (.cells #[.int .u8 t378, .int .u8 t379, .int .u8 t380, .int .u16 t381, .int .u8 t382, .int .u8 t383, .int .u8 t384, .int .u8 t385, .int .u8 t386, .int .u8 t387, .int .u8 t388, .int .u8 t389] 25 (0, 0))) ∧ Aside0 (Below w.heap.size w w'))
  case atStart => exact ⟨(t397), (0), (by first | rfl | (simp; done) | (simp [*]; done)), H', ⟨Nat.le_refl _⟩, ⟨by (with_reducible repeat (first | apply Kd.R_alloc | apply Kd.R_drewN | apply Kd.R_drew)); exact Kd.R_mono HO399.out (fun _ hk => trivial)⟩, ⟨by (with_reducible repeat (first | refine blk_drewN ?_ _ | refine blk_drew ?_ | refine blk_alloc ?_ _)); exact BK396.out⟩, ⟨by repeat (first | (with_reducible first | exact HB.out | apply below_alloc | apply pw_below_drewN | apply below_drew1 | refine below_set ?_ GE396.out) | exact HB.out)⟩⟩
  case round =>
    clear H'
    try clear c2
    try clear p2
    try clear c3
    try clear c7
    try clear hcz5_0
    try clear hcz5_1
    try clear hcz5_10
    try clear hcz5_11
    try clear hcz5_2
    try clear hcz5_3
    try clear hcz5_4
    try clear hcz5_5
    try clear hcz5_6
    try clear hcz5_7
    try clear hcz5_8
    try clear hcz5_9
    try clear hfz5_0
    try clear hfz5_1
    try clear hfz5_10
    try clear hfz5_11
    try clear hfz5_2
    try clear hfz5_3
    try clear hfz5_4
    try clear hfz5_5
    try clear hfz5_6
    try clear hfz5_7
    try clear hfz5_8
    try clear hfz5_9
    obtain ⟨x4_1, x5_1, rfl, HA, HK1, HO_4, BK396, HB⟩ := hrel
    cases gk with
    | zero => exact absurd HA.out (by simp [sallyportlaw07_Net4Names.l0])
    | succ k1 =>
      have H := HA.out
      clear HA
      simp only [sallyportlaw07_Net4Names.l0] at H
      by_cases c9 : x5_1 < (x4_1.length : Int)
      · rw [if_pos c9] at H
        have c9b0 : decide (x5_1 < (x4_1.length : Int)) = true := decide_eq_true c9
        clear c9
        replace H := Option.bind_eq_some_iff.mp H
        obtain ⟨t400, A100, H⟩ := H
        replace H : (if 0 ≤ x5_1 then (if x5_1 < (t400.length : Int) then ((sallyportlaw07_Net4Reads.f k1 (t400.set (x5_1 : Int).toNat (Go.bits .xor .u8 (rd t400 x5_1) 16))).bind fun t405 => (if t405 = true then (if x5_1 ≤ (x4_1.length : Int) then ((sallyportlaw07_Net4Reads.f k1 (x4_1.take (x5_1 : Int).toNat)).bind fun t410 => (if t410 = true then ((sallyportlaw07_join.f x4_1 (x4_1.take (x5_1 : Int).toNat)).bind fun t415 => ((sallyportlaw07_Net4Reads.f k1 t415).bind fun t418 => (if t418 = true then (sallyportlaw07_Net4Names.l0 k1 x4_1 (wrap64 (x5_1 + 1)) t378 t379 t380 t381 t382 t383 t384 t385 t386 t387 t388 t389) else (some false)))) else (some false))) else (none)) else (some false))) else (none)) else (none)) = some r := H
        have A10 := Aside0.mk A100
        clear A100
        by_cases c11 : 0 ≤ x5_1
        · rw [if_pos c11] at H
          have c11b0 : decide (0 ≤ x5_1) = true := decide_eq_true c11
          clear c11
          by_cases c12 : x5_1 < (t400.length : Int)
          · rw [if_pos c12] at H
            have c12b0 : decide (x5_1 < (t400.length : Int)) = true := decide_eq_true c12
            clear c12
            obtain ⟨y404, hy404⟩ : ∃ y_ : List Int, y_ = (t400.set (x5_1 : Int).toNat (Go.bits .xor .u8 (rd t400 x5_1) 16)) := ⟨_, rfl⟩
            replace H : ((sallyportlaw07_Net4Reads.f k1 y404).bind fun t405 => (if t405 = true then (if x5_1 ≤ (x4_1.length : Int) then ((sallyportlaw07_Net4Reads.f k1 (x4_1.take (x5_1 : Int).toNat)).bind fun t410 => (if t410 = true then ((sallyportlaw07_join.f x4_1 (x4_1.take (x5_1 : Int).toNat)).bind fun t415 => ((sallyportlaw07_Net4Reads.f k1 t415).bind fun t418 => (if t418 = true then (sallyportlaw07_Net4Names.l0 k1 x4_1 (wrap64 (x5_1 + 1)) t378 t379 t380 t381 t382 t383 t384 t385 t386 t387 t388 t389) else (some false)))) else (some false))) else (none)) else (some false))) = some r := by first | (rw [hy404]; with_reducible exact H) | (have H2_ := (Option.bind_some _ _).symm.trans H; rw [hy404]; with_reducible exact H2_) | (have H2_ := (Option.bind_some _ _).symm.trans H; with_reducible exact H2_) | with_reducible exact H | (rw [hy404]; exact H) | exact H
            have Ny404 := Aside0.mk hy404
            clear hy404
            replace H := Option.bind_eq_some_iff.mp H
            obtain ⟨t405, A140, H⟩ := H
            replace H : (if t405 = true then (if x5_1 ≤ (x4_1.length : Int) then ((sallyportlaw07_Net4Reads.f k1 (x4_1.take (x5_1 : Int).toNat)).bind fun t410 => (if t410 = true then ((sallyportlaw07_join.f x4_1 (x4_1.take (x5_1 : Int).toNat)).bind fun t415 => ((sallyportlaw07_Net4Reads.f k1 t415).bind fun t418 => (if t418 = true then (sallyportlaw07_Net4Names.l0 k1 x4_1 (wrap64 (x5_1 + 1)) t378 t379 t380 t381 t382 t383 t384 t385 t386 t387 t388 t389) else (some false)))) else (some false))) else (none)) else (some false)) = some r := H
            have A14 := Aside0.mk A140
            clear A140
            by_cases c15 : t405 = true
            · subst c15
              have H1 : (if x5_1 ≤ (x4_1.length : Int) then ((sallyportlaw07_Net4Reads.f k1 (x4_1.take (x5_1 : Int).toNat)).bind fun t410 => (if t410 = true then ((sallyportlaw07_join.f x4_1 (x4_1.take (x5_1 : Int).toNat)).bind fun t415 => ((sallyportlaw07_Net4Reads.f k1 t415).bind fun t418 => (if t418 = true then (sallyportlaw07_Net4Names.l0 k1 x4_1 (wrap64 (x5_1 + 1)) t378 t379 t380 t381 t382 t383 t384 t385 t386 t387 t388 t389) else (some false)))) else (some false))) else (none)) = some r := by rw [if_pos rfl] at H; exact H
              clear H
              have H := H1
              clear H1
              have c16b0 := eq_true (of_decide_eq_true (by first | (with_reducible assumption) | assumption) : 0 ≤ x5_1)
              by_cases c17 : x5_1 ≤ (x4_1.length : Int)
              · rw [if_pos c17] at H
                have c17b0 := eq_true c17
                have c17b1 : decide (x5_1 ≤ (x4_1.length : Int)) = true := decide_eq_true c17
                clear c17
                obtain ⟨y406, hy406⟩ : ∃ y_ : List Int, y_ = (x4_1.take (x5_1 : Int).toNat) := ⟨_, rfl⟩
                replace H : ((sallyportlaw07_Net4Reads.f k1 y406).bind fun t410 => (if t410 = true then ((sallyportlaw07_join.f x4_1 (x4_1.take (x5_1 : Int).toNat)).bind fun t415 => ((sallyportlaw07_Net4Reads.f k1 t415).bind fun t418 => (if t418 = true then (sallyportlaw07_Net4Names.l0 k1 x4_1 (wrap64 (x5_1 + 1)) t378 t379 t380 t381 t382 t383 t384 t385 t386 t387 t388 t389) else (some false)))) else (some false))) = some r := by first | (rw [hy406]; with_reducible exact H) | (have H2_ := (Option.bind_some _ _).symm.trans H; rw [hy406]; with_reducible exact H2_) | (have H2_ := (Option.bind_some _ _).symm.trans H; with_reducible exact H2_) | with_reducible exact H | (rw [hy406]; exact H) | exact H
                have Ny406 := Aside0.mk hy406
                clear hy406
                replace H := Option.bind_eq_some_iff.mp H
                obtain ⟨t410, A180, H⟩ := H
                replace H : (if t410 = true then ((sallyportlaw07_join.f x4_1 (x4_1.take (x5_1 : Int).toNat)).bind fun t415 => ((sallyportlaw07_Net4Reads.f k1 t415).bind fun t418 => (if t418 = true then (sallyportlaw07_Net4Names.l0 k1 x4_1 (wrap64 (x5_1 + 1)) t378 t379 t380 t381 t382 t383 t384 t385 t386 t387 t388 t389) else (some false)))) else (some false)) = some r := H
                have A18 := Aside0.mk A180
                clear A180
                by_cases c19 : t410 = true
                · subst c19
                  have H1 : ((sallyportlaw07_join.f x4_1 (x4_1.take (x5_1 : Int).toNat)).bind fun t415 => ((sallyportlaw07_Net4Reads.f k1 t415).bind fun t418 => (if t418 = true then (sallyportlaw07_Net4Names.l0 k1 x4_1 (wrap64 (x5_1 + 1)) t378 t379 t380 t381 t382 t383 t384 t385 t386 t387 t388 t389) else (some false)))) = some r := by rw [if_pos rfl] at H; exact H
                  clear H
                  have H := H1
                  clear H1
                  have c20b0 := eq_true (of_decide_eq_true (by first | (with_reducible assumption) | assumption) : 0 ≤ x5_1)
                  have c21b0 := eq_true (of_decide_eq_true (by first | (with_reducible assumption) | assumption) : x5_1 ≤ (x4_1.length : Int))
                  have hy411 := Ny406.out
                  replace H : ((sallyportlaw07_join.f x4_1 y406).bind fun t415 => ((sallyportlaw07_Net4Reads.f k1 t415).bind fun t418 => (if t418 = true then (sallyportlaw07_Net4Names.l0 k1 x4_1 (wrap64 (x5_1 + 1)) t378 t379 t380 t381 t382 t383 t384 t385 t386 t387 t388 t389) else (some false)))) = some r := by first | (rw [hy411]; with_reducible exact H) | (have H2_ := (Option.bind_some _ _).symm.trans H; rw [hy411]; with_reducible exact H2_) | (have H2_ := (Option.bind_some _ _).symm.trans H; with_reducible exact H2_) | with_reducible exact H | (rw [hy411]; exact H) | exact H
                  have Ny411 := Aside0.mk hy411
                  clear hy411
                  replace H := Option.bind_eq_some_iff.mp H
                  obtain ⟨t415, A220, H⟩ := H
                  replace H : ((sallyportlaw07_Net4Reads.f k1 t415).bind fun t418 => (if t418 = true then (sallyportlaw07_Net4Names.l0 k1 x4_1 (wrap64 (x5_1 + 1)) t378 t379 t380 t381 t382 t383 t384 t385 t386 t387 t388 t389) else (some false))) = some r := H
                  have A22 := Aside0.mk A220
                  clear A220
                  replace H := Option.bind_eq_some_iff.mp H
                  obtain ⟨t418, A230, H⟩ := H
                  replace H : (if t418 = true then (sallyportlaw07_Net4Names.l0 k1 x4_1 (wrap64 (x5_1 + 1)) t378 t379 t380 t381 t382 t383 t384 t385 t386 t387 t388 t389) else (some false)) = some r := H
                  have A23 := Aside0.mk A230
                  clear A230
                  by_cases c24 : t418 = true
                  · subst c24
                    have H1 : (sallyportlaw07_Net4Names.l0 k1 x4_1 (wrap64 (x5_1 + 1)) t378 t379 t380 t381 t382 t383 t384 t385 t386 t387 t388 t389) = some r := by rw [if_pos rfl] at H; exact H
                    clear H
                    have H := H1
                    clear H1
                    have H' := Aside0.mk H
                    clear H
                    obtain ⟨Ao25, co25, eo25⟩ := Kd.R_slice HO_4.out
                    subst eo25
                    go_wp2_with (first | ((with_reducible refine gate_callee (f := 18) rfl ?_); refine goesL_ (some 22) rfl rfl Try.func18 (by kernel_rfl) rfl #[.slice Ao25 x4_1.length co25] rfl (by (try simp only [List.map_toArray, List.map_cons, List.map_nil]); first | done | rfl | (simp only [List.length_drop, List.length_take]; rfl)) ?_; (with_reducible refine (sallyportref00_CopyBytes.calls _ _ x4_1 t400 _ ?side1 ?side2 A10.out).mono ?_); (case side1 => repeat (first | exact (Kd.R_reads' HO_4.out).2.2 | (with_reducible refine Kd.C_alloc ?_ _) | (with_reducible refine Kd.C_drewN ?_ _) | (with_reducible refine Kd.C_drew ?_))); (case side2 => exact (Kd.R_reads' HO_4.out).2.1); rintro e w26 ⟨v401, rfl, ho0, hb⟩; refine ⟨_, rfl, ?_⟩; have n0_ := Aside0.mk (Kd.R_elder' (by (with_reducible repeat (first | apply Kd.R_alloc | apply Kd.R_drewN | apply Kd.R_drew)); exact HO_4.out) (Kd.R_base ho0) hb); have n1_ := Aside0.mk (Kd.R_lower (Kd.R_new' ho0 (Kd.R_lt (by (with_reducible repeat (first | apply Kd.R_alloc | apply Kd.R_drewN | apply Kd.R_drew)); exact HO_4.out))) (below_size (by repeat (first | (with_reducible first | exact HB.out | apply below_alloc | apply pw_below_drewN | apply below_drew1 | refine below_set ?_ GE396.out) | exact HB.out)))); have n2_ := Aside0.mk (blk_below (g := gb396) (o := .cells #[.int .u8 t378, .int .u8 t379, .int .u8 t380, .int .u16 t381, .int .u8 t382, .int .u8 t383, .int .u8 t384, .int .u8 t385, .int .u8 t386, .int .u8 t387, .int .u8 t388, .int .u8 t389] 25 (0, 0)) (by (with_reducible repeat (first | refine blk_drewN ?_ _ | refine blk_drew ?_ | refine blk_alloc ?_ _)); exact BK396.out) hb); have n3_ := Aside0.mk (below_step (by repeat (first | (with_reducible first | exact HB.out | apply below_alloc | apply pw_below_drewN | apply below_drew1 | refine below_set ?_ GE396.out) | exact HB.out)) hb); clear HO_4; clear BK396; clear HB; have HO_4 := n0_; have HO402 := n1_; have BK396 := n2_; have HB := n3_; clear n0_ n1_ n2_ n3_; (try clear hb); (try clear hb2); (try clear hk); (try clear hi); (try clear ho0); obtain ⟨Ao27, co27, eo27⟩ := Kd.R_slice HO402.out; subst eo27; have p403 : 0 ≤ (x5_1 : Int) := of_decide_eq_true (by first | (with_reducible assumption) | assumption); have q403 : x5_1 < (t400.length : Int) := of_decide_eq_true (by first | (with_reducible assumption) | assumption); obtain ⟨ad403, e403, hx403_0⟩ := Kd.at_int (Kd.R_reads' HO402.out).2.2 x5_1 p403 q403; cases e403; replace p403 := eq_true p403; replace q403 := eq_true q403; have p13 : 0 ≤ (x5_1 : Int) := of_decide_eq_true (by first | (with_reducible assumption) | assumption); have q13 : (x5_1 : Int) < ((t400.length : Int) : Int) := of_decide_eq_true (by first | (with_reducible assumption) | assumption); obtain ⟨go13, co13, eo13, gb13, gl13, cl13, HG13⟩ := Kd.R_form HO402.out (by omega); (first | cases eo13 | (injection eo13 with ea_ en_ ec_; (first | subst ea_ | (injection ea_ with ea_; subst ea_)); subst ec_; clear en_)); have GB13 := Aside0.mk gb13; have GG13 := Aside0.mk HG13; clear gb13 gl13 HG13; (first | simp only [add_plain] at hx403_0 | skip); obtain ⟨hx13_0, hf13_0⟩ := Kd.R_celln 0 HO402.out (x5_1 : Int) p13 q13; replace p13 := eq_true p13; replace q13 := eq_true q13; have n_ := Aside0.mk (Kd.R_mono (ok' := (fun k_ => some k_ ≠ (.slice Ao25 x4_1.length co25 : Value).ownBlock)) HO402.out (fun k_ hk => by first | exact hk.2 | exact hk | (simp [hk]; done))); clear HO402; have HO402 := n_; clear n_; obtain ⟨hy28_, hz28_⟩ := Kd.R_celln 0 HO402.out (x5_1 : Int) (of_decide_eq_true (by first | (with_reducible assumption) | assumption)) (of_decide_eq_true (by first | (with_reducible assumption) | assumption)); have HP28 := Kd.R_putg HO402.out (x5_1 : Int) (Go.bits .xor .u8 (rd t400 x5_1) 16)) | ((with_reducible refine gate_store (t := 5) (p := 30) rfl ?_); refine store_event (t := 5) (p := 30) (v := ?vo_w29) (w1 := (w26.setCell ⟨go13, (x5_1 : Int).toNat, none⟩ (.int .u8 (Go.bits .xor .u8 (rd t400 x5_1) 16)))) ?hg ?ho ?hn ?hr ?_; (case ho => rfl); (case hg => rfl); (case hn => rfl); (case hr => first | (go_simp; done) | (go_simp; rfl)); intro w29 hw; have hg : w26.grownBy w29 (some go13) := (by rw [hw]; exact HP28.2); have hp_ : Kd.R (Kd.int .u8) 5 w29 w.heap.size (fun k_ => some k_ ≠ (.slice Ao25 x4_1.length co25 : Value).ownBlock) (.slice (some ⟨go13, 0, none⟩) t400.length co27) y404 := (by rw [hw, Ny404.out]; exact HP28.1); clear HP28; have n0_ := Aside0.mk (Kd.R_after (v := (.slice (some ⟨go13, 0, none⟩) t400.length co27)) (v1 := (.slice (some ⟨go13, 0, none⟩) t400.length co27)) (ok := (fun _ => True)) (by (with_reducible repeat (first | apply Kd.R_alloc | apply Kd.R_drewN | apply Kd.R_drew)); exact HO_4.out) hg (.inl rfl)); have n1_ := Aside0.mk (blk_grown (g := gb396) (o := .cells #[.int .u8 t378, .int .u8 t379, .int .u8 t380, .int .u16 t381, .int .u8 t382, .int .u8 t383, .int .u8 t384, .int .u8 t385, .int .u8 t386, .int .u8 t387, .int .u8 t388, .int .u8 t389] 25 (0, 0)) (by (with_reducible repeat (first | refine blk_drewN ?_ _ | refine blk_drew ?_ | refine blk_alloc ?_ _)); exact BK396.out) hg (Kd.R_ne HO402.out BK396.out (by decide))); have n2_ := Aside0.mk (hp_); have n3_ := Aside0.mk ((by rw [hw]; exact below_set (HB.out) GB13.out : Below w.heap.size w w29)); clear HO_4; clear BK396; clear HO402; clear HB; have HO_4 := n0_; have BK396 := n1_; have HO402 := n2_; have HB := n3_; clear n0_ n1_ n2_ n3_; clear hg hw hp_) | ((with_reducible refine gate_callee (f := 4) rfl ?_); refine goesL_ (some 32) rfl rfl Try.func4 (by kernel_rfl) rfl #[.slice (some ⟨go13, 0, none⟩) y404.length co27] rfl (by (try simp only [List.map_toArray, List.map_cons, List.map_nil]); first | done | (rw [show y404.length = t400.length from (Kd.R_reads' HO402.out).1.symm] <;> rfl) | rfl | (simp only [List.length_drop, List.length_take]; rfl)) ?_; (with_reducible refine (sallyportlaw07_Net4Reads.calls k1 _ _ y404 true ⟨by first | rfl | exact hr_.out⟩ _ ?side1 ?side2 A14.out).mono ?_); (case side1 => repeat (first | exact (Kd.R_reads' HO402.out).2.2 | (with_reducible refine Kd.C_alloc ?_ _) | (with_reducible refine Kd.C_drewN ?_ _) | (with_reducible refine Kd.C_drew ?_))); (case side2 => rw [show y404.length = t400.length from (Kd.R_reads' HO402.out).1.symm]; exact (Kd.R_reads' HO402.out).2.1); rintro e w30 ⟨rfl, hb⟩; refine ⟨_, rfl, ?_⟩; have n0_ := Aside0.mk (Kd.R_below (by (with_reducible repeat (first | apply Kd.R_alloc | apply Kd.R_drewN | apply Kd.R_drew)); exact HO_4.out) hb); have n1_ := Aside0.mk (Kd.R_below (by (with_reducible repeat (first | apply Kd.R_alloc | apply Kd.R_drewN | apply Kd.R_drew)); exact HO402.out) hb); have n2_ := Aside0.mk (blk_below (g := gb396) (o := .cells #[.int .u8 t378, .int .u8 t379, .int .u8 t380, .int .u16 t381, .int .u8 t382, .int .u8 t383, .int .u8 t384, .int .u8 t385, .int .u8 t386, .int .u8 t387, .int .u8 t388, .int .u8 t389] 25 (0, 0)) (by (with_reducible repeat (first | refine blk_drewN ?_ _ | refine blk_drew ?_ | refine blk_alloc ?_ _)); exact BK396.out) hb); have n3_ := Aside0.mk (below_step (by repeat (first | (with_reducible first | exact HB.out | apply below_alloc | apply pw_below_drewN | apply below_drew1 | refine below_set ?_ GE396.out) | exact HB.out)) hb); clear HO_4; clear HO402; clear BK396; clear HB; have HO_4 := n0_; have HO402 := n1_; have BK396 := n2_; have HB := n3_; clear n0_ n1_ n2_ n3_; (try clear hb); (try clear hb2); (try clear hk); (try clear hi); have q31 : (x5_1 : Int) ≤ ((x4_1.length : Int) : Int) := of_decide_eq_true (by first | (with_reducible assumption) | assumption); obtain ⟨i031, hi031, _, hsz31, _⟩ := info_parts info5; have hroom31 : x4_1.length ≤ co25 := (Kd.R_reads' HO_4.out).2.1; have hC31 : Kd.C (Kd.int .u8) _ Ao25 x4_1.length x4_1 := (Kd.R_reads' HO_4.out).2.2; have hcut31 := cut_to (P := Try.prog) 26 5 .i64 Try.underlying26 hi031 Ao25 x4_1.length co25 x5_1 (of_decide_eq_true (by first | (with_reducible assumption) | assumption)) q31 hroom31; have hr31 := Kd.C_take (m := (x5_1 : Int).toNat) hC31 (by omega); have hy31 : y406.length = (x5_1 : Int).toNat := (by rw [Ny406.out, List.length_take]; omega); rw [← Ny406.out] at hr31; rw [← hy31] at hcut31; have HR409 := Aside0.mk hr31; have HC409 := Aside0.mk (show y406.length ≤ co25 from by omega); clear hr31 hC31 hroom31 hi031 hsz31; have KY31 := Aside0.mk hy31; clear hy31; have KL31 := Aside0.mk (show (x5_1 : Int).toNat ≤ x4_1.length from by omega); replace q31 := eq_true q31) | (go_at_call 4; (with_reducible refine (sallyportlaw07_Net4Reads.calls k1 _ _ y406 true ⟨by first | rfl | exact hr_.out⟩ _ ?side1 ?side2 A18.out).mono ?_); (case side1 => repeat (first | exact (by repeat (first | (with_reducible exact HR409.out) | (with_reducible refine Kd.C_alloc ?_ _) | (with_reducible refine Kd.C_drewN ?_ _) | (with_reducible refine Kd.C_drew ?_) | exact HR409.out)) | (with_reducible refine Kd.C_alloc ?_ _) | (with_reducible refine Kd.C_drewN ?_ _) | (with_reducible refine Kd.C_drew ?_))); (case side2 => exact HC409.out); rintro e w32 ⟨rfl, hb⟩; have n0_ := Aside0.mk (Kd.R_below (by (with_reducible repeat (first | apply Kd.R_alloc | apply Kd.R_drewN | apply Kd.R_drew)); exact HO_4.out) hb); have n1_ := Aside0.mk (Kd.R_below (by (with_reducible repeat (first | apply Kd.R_alloc | apply Kd.R_drewN | apply Kd.R_drew)); exact HO402.out) hb); have n2_ := Aside0.mk (blk_below (g := gb396) (o := .cells #[.int .u8 t378, .int .u8 t379, .int .u8 t380, .int .u16 t381, .int .u8 t382, .int .u8 t383, .int .u8 t384, .int .u8 t385, .int .u8 t386, .int .u8 t387, .int .u8 t388, .int .u8 t389] 25 (0, 0)) (by (with_reducible repeat (first | refine blk_drewN ?_ _ | refine blk_drew ?_ | refine blk_alloc ?_ _)); exact BK396.out) hb); have n3_ := Aside0.mk (Kd.C_below (by repeat (first | (with_reducible exact HR409.out) | (with_reducible refine Kd.C_alloc ?_ _) | (with_reducible refine Kd.C_drewN ?_ _) | (with_reducible refine Kd.C_drew ?_) | exact HR409.out)) hb); have n4_ := Aside0.mk (below_step (by repeat (first | (with_reducible first | exact HB.out | apply below_alloc | apply pw_below_drewN | apply below_drew1 | refine below_set ?_ GE396.out) | exact HB.out)) hb); clear HO_4; clear HO402; clear BK396; clear HR409; clear HB; have HO_4 := n0_; have HO402 := n1_; have BK396 := n2_; have HR409 := n3_; have HB := n4_; clear n0_ n1_ n2_ n3_ n4_; (try clear hb); (try clear hb2); (try clear hk); (try clear hi); have q33 : (x5_1 : Int) ≤ ((x4_1.length : Int) : Int) := of_decide_eq_true (by first | (with_reducible assumption) | assumption); obtain ⟨i033, hi033, _, hsz33, _⟩ := info_parts info5; have hroom33 : x4_1.length ≤ co25 := (Kd.R_reads' HO_4.out).2.1; have hC33 : Kd.C (Kd.int .u8) _ Ao25 x4_1.length x4_1 := (Kd.R_reads' HO_4.out).2.2; have hcut33 := cut_to (P := Try.prog) 26 5 .i64 Try.underlying26 hi033 Ao25 x4_1.length co25 x5_1 (of_decide_eq_true (by first | (with_reducible assumption) | assumption)) q33 hroom33; have hr33 := Kd.C_take (m := (x5_1 : Int).toNat) hC33 (by omega); have hy33 : y406.length = (x5_1 : Int).toNat := (by rw [Ny411.out, List.length_take]; omega); rw [← Ny411.out] at hr33; rw [← hy33] at hcut33; have HR414 := Aside0.mk hr33; have HC414 := Aside0.mk (show y406.length ≤ co25 from by omega); clear hr33 hC33 hroom33 hi033 hsz33; have KY33 := Aside0.mk hy33; clear hy33; have KL33 := Aside0.mk (show (x5_1 : Int).toNat ≤ x4_1.length from by omega); replace q33 := eq_true q33) | (go_at_call 29; (with_reducible refine (sallyportlaw07_join.calls _ _ x4_1 _ _ y406 t415 _ ?side1 ?side2 ?side3 ?side4 A22.out).mono ?_); (case side1 => repeat (first | exact (Kd.R_reads' HO_4.out).2.2 | (with_reducible refine Kd.C_alloc ?_ _) | (with_reducible refine Kd.C_drewN ?_ _) | (with_reducible refine Kd.C_drew ?_))); (case side2 => exact (Kd.R_reads' HO_4.out).2.1); (case side3 => repeat (first | exact (by repeat (first | (with_reducible exact HR414.out) | (with_reducible refine Kd.C_alloc ?_ _) | (with_reducible refine Kd.C_drewN ?_ _) | (with_reducible refine Kd.C_drew ?_) | exact HR414.out)) | (with_reducible refine Kd.C_alloc ?_ _) | (with_reducible refine Kd.C_drewN ?_ _) | (with_reducible refine Kd.C_drew ?_))); (case side4 => exact HC414.out); rintro e w34 ⟨v416, rfl, ho0, hb⟩; have n0_ := Aside0.mk (Kd.R_elder' (by (with_reducible repeat (first | apply Kd.R_alloc | apply Kd.R_drewN | apply Kd.R_drew)); exact HO_4.out) (Kd.R_base ho0) hb); have n1_ := Aside0.mk (Kd.R_elder' (by (with_reducible repeat (first | apply Kd.R_alloc | apply Kd.R_drewN | apply Kd.R_drew)); exact HO402.out) (Kd.R_base ho0) hb); have n2_ := Aside0.mk (Kd.R_lower (Kd.R_new' (Kd.R_new' ho0 (Kd.R_lt (by (with_reducible repeat (first | apply Kd.R_alloc | apply Kd.R_drewN | apply Kd.R_drew)); exact HO_4.out))) (Kd.R_lt (by (with_reducible repeat (first | apply Kd.R_alloc | apply Kd.R_drewN | apply Kd.R_drew)); exact HO402.out))) (below_size (by repeat (first | (with_reducible first | exact HB.out | apply below_alloc | apply pw_below_drewN | apply below_drew1 | refine below_set ?_ GE396.out) | exact HB.out)))); have n3_ := Aside0.mk (blk_below (g := gb396) (o := .cells #[.int .u8 t378, .int .u8 t379, .int .u8 t380, .int .u16 t381, .int .u8 t382, .int .u8 t383, .int .u8 t384, .int .u8 t385, .int .u8 t386, .int .u8 t387, .int .u8 t388, .int .u8 t389] 25 (0, 0)) (by (with_reducible repeat (first | refine blk_drewN ?_ _ | refine blk_drew ?_ | refine blk_alloc ?_ _)); exact BK396.out) hb); have n4_ := Aside0.mk (Kd.C_below (by repeat (first | (with_reducible exact HR409.out) | (with_reducible refine Kd.C_alloc ?_ _) | (with_reducible refine Kd.C_drewN ?_ _) | (with_reducible refine Kd.C_drew ?_) | exact HR409.out)) hb); have n5_ := Aside0.mk (Kd.C_below (by repeat (first | (with_reducible exact HR414.out) | (with_reducible refine Kd.C_alloc ?_ _) | (with_reducible refine Kd.C_drewN ?_ _) | (with_reducible refine Kd.C_drew ?_) | exact HR414.out)) hb); have n6_ := Aside0.mk (below_step (by repeat (first | (with_reducible first | exact HB.out | apply below_alloc | apply pw_below_drewN | apply below_drew1 | refine below_set ?_ GE396.out) | exact HB.out)) hb); clear HO_4; clear HO402; clear BK396; clear HR409; clear HR414; clear HB; have HO_4 := n0_; have HO402 := n1_; have HO417 := n2_; have BK396 := n3_; have HR409 := n4_; have HR414 := n5_; have HB := n6_; clear n0_ n1_ n2_ n3_ n4_ n5_ n6_; (try clear hb); (try clear hb2); (try clear hk); (try clear hi); (try clear ho0); obtain ⟨Ao35, co35, eo35⟩ := Kd.R_slice HO417.out; subst eo35) | (go_at_call 4; (with_reducible refine (sallyportlaw07_Net4Reads.calls k1 _ _ t415 true ⟨by first | rfl | exact hr_.out⟩ _ ?side1 ?side2 A23.out).mono ?_); (case side1 => repeat (first | exact (Kd.R_reads' HO417.out).2.2 | (with_reducible refine Kd.C_alloc ?_ _) | (with_reducible refine Kd.C_drewN ?_ _) | (with_reducible refine Kd.C_drew ?_))); (case side2 => exact (Kd.R_reads' HO417.out).2.1); rintro e w36 ⟨rfl, hb⟩; have n0_ := Aside0.mk (Kd.R_below (by (with_reducible repeat (first | apply Kd.R_alloc | apply Kd.R_drewN | apply Kd.R_drew)); exact HO_4.out) hb); have n1_ := Aside0.mk (Kd.R_below (by (with_reducible repeat (first | apply Kd.R_alloc | apply Kd.R_drewN | apply Kd.R_drew)); exact HO402.out) hb); have n2_ := Aside0.mk (Kd.R_below (by (with_reducible repeat (first | apply Kd.R_alloc | apply Kd.R_drewN | apply Kd.R_drew)); exact HO417.out) hb); have n3_ := Aside0.mk (blk_below (g := gb396) (o := .cells #[.int .u8 t378, .int .u8 t379, .int .u8 t380, .int .u16 t381, .int .u8 t382, .int .u8 t383, .int .u8 t384, .int .u8 t385, .int .u8 t386, .int .u8 t387, .int .u8 t388, .int .u8 t389] 25 (0, 0)) (by (with_reducible repeat (first | refine blk_drewN ?_ _ | refine blk_drew ?_ | refine blk_alloc ?_ _)); exact BK396.out) hb); have n4_ := Aside0.mk (Kd.C_below (by repeat (first | (with_reducible exact HR409.out) | (with_reducible refine Kd.C_alloc ?_ _) | (with_reducible refine Kd.C_drewN ?_ _) | (with_reducible refine Kd.C_drew ?_) | exact HR409.out)) hb); have n5_ := Aside0.mk (Kd.C_below (by repeat (first | (with_reducible exact HR414.out) | (with_reducible refine Kd.C_alloc ?_ _) | (with_reducible refine Kd.C_drewN ?_ _) | (with_reducible refine Kd.C_drew ?_) | exact HR414.out)) hb); have n6_ := Aside0.mk (below_step (by repeat (first | (with_reducible first | exact HB.out | apply below_alloc | apply pw_below_drewN | apply below_drew1 | refine below_set ?_ GE396.out) | exact HB.out)) hb); clear HO_4; clear HO402; clear HO417; clear BK396; clear HR409; clear HR414; clear HB; have HO_4 := n0_; have HO402 := n1_; have HO417 := n2_; have BK396 := n3_; have HR409 := n4_; have HR414 := n5_; have HB := n6_; clear n0_ n1_ n2_ n3_ n4_ n5_ n6_; (try clear hb); (try clear hb2); (try clear hk); (try clear hi)))
                    go_roundg k1
                    case measure => have := HK1.out; omega
                    case rel => exact ⟨(x4_1), (wrap64 (x5_1 + 1)), (by first | rfl | (simp; done) | (simp [*]; done)), H', ⟨by have := HK1.out; omega⟩, ⟨by (with_reducible repeat (first | apply Kd.R_alloc | apply Kd.R_drewN | apply Kd.R_drew)); exact Kd.R_mono HO_4.out (fun _ hk => trivial)⟩, ⟨by (with_reducible repeat (first | refine blk_drewN ?_ _ | refine blk_drew ?_ | refine blk_alloc ?_ _)); exact BK396.out⟩, ⟨by repeat (first | (with_reducible first | exact HB.out | apply below_alloc | apply pw_below_drewN | apply below_drew1 | refine below_set ?_ GE396.out) | exact HB.out)⟩⟩
                  · replace c24 := Bool.eq_false_iff.mpr c24
                    subst c24
                    have H1 : (some false) = some r := by rw [if_neg (show ¬ (false = true) by decide)] at H; exact H
                    clear H
                    have H := H1
                    clear H1
                    obtain rfl := Option.some.inj H
                    exact absurd hr_.out (by decide)
                · replace c19 := Bool.eq_false_iff.mpr c19
                  subst c19
                  have H1 : (some false) = some r := by rw [if_neg (show ¬ (false = true) by decide)] at H; exact H
                  clear H
                  have H := H1
                  clear H1
                  obtain rfl := Option.some.inj H
                  exact absurd hr_.out (by decide)
              · rw [if_neg c17] at H
                exact absurd H (by simp)
            · replace c15 := Bool.eq_false_iff.mpr c15
              subst c15
              have H1 : (some false) = some r := by rw [if_neg (show ¬ (false = true) by decide)] at H; exact H
              clear H
              have H := H1
              clear H1
              obtain rfl := Option.some.inj H
              exact absurd hr_.out (by decide)
          · rw [if_neg c12] at H
            exact absurd H (by simp)
        · rw [if_neg c11] at H
          exact absurd H (by simp)
      · rw [if_neg c9] at H
        have c9b0 : decide (x5_1 < (x4_1.length : Int)) = false := decide_eq_false c9
        clear c9
        replace H := Option.bind_eq_some_iff.mp H
        obtain ⟨t419, A370, H⟩ := H
        replace H : (if t419 = true then (if 2028 ≤ 281474976710656 then ((sallyportlaw07_Net4Bytes.f k1 t378 t379 t380 t381 t382 t383 t384 t385 t386 t387 t388 t389 (List.replicate 2028 0)).bind fun t423 => (if t423 = true then (if 2029 ≤ 281474976710656 then ((sallyportlaw07_Net4Bytes.f k1 t378 t379 t380 t381 t382 t383 t384 t385 t386 t387 t388 t389 (List.replicate 2029 0)).bind fun t427 => (if t427 = true then ((sallyportlaw07_Net4Bytes.f k1 0 0 0 0 0 0 0 0 0 0 0 0 ([] : List Int)).bind fun t428 => (if t428 = true then (if 70000 ≤ 281474976710656 then ((sallyportlaw07_Net4Reads.f k1 (List.replicate 70000 0)).bind fun t432 => (if t432 = true then ((sallyportlaw07_Net4Back.f k1 t378 t379 t380 t381 t382 t383 t384 t385 t386 t387 t388 t389 (List.replicate 2028 0) ([] : List Int)).bind fun t436 => (some t436)) else (some false))) else (none)) else (some false))) else (some false))) else (none)) else (some false))) else (none)) else (some false)) = some r := H
        have A37 := Aside0.mk A370
        clear A370
        by_cases c38 : t419 = true
        · subst c38
          have H1 : (if 2028 ≤ 281474976710656 then ((sallyportlaw07_Net4Bytes.f k1 t378 t379 t380 t381 t382 t383 t384 t385 t386 t387 t388 t389 (List.replicate 2028 0)).bind fun t423 => (if t423 = true then (if 2029 ≤ 281474976710656 then ((sallyportlaw07_Net4Bytes.f k1 t378 t379 t380 t381 t382 t383 t384 t385 t386 t387 t388 t389 (List.replicate 2029 0)).bind fun t427 => (if t427 = true then ((sallyportlaw07_Net4Bytes.f k1 0 0 0 0 0 0 0 0 0 0 0 0 ([] : List Int)).bind fun t428 => (if t428 = true then (if 70000 ≤ 281474976710656 then ((sallyportlaw07_Net4Reads.f k1 (List.replicate 70000 0)).bind fun t432 => (if t432 = true then ((sallyportlaw07_Net4Back.f k1 t378 t379 t380 t381 t382 t383 t384 t385 t386 t387 t388 t389 (List.replicate 2028 0) ([] : List Int)).bind fun t436 => (some t436)) else (some false))) else (none)) else (some false))) else (some false))) else (none)) else (some false))) else (none)) = some r := by rw [if_pos rfl] at H; exact H
          clear H
          have H := H1
          clear H1
          by_cases c39 : 2028 ≤ 281474976710656
          · rw [if_pos c39] at H
            have c39b0 := eq_true c39
            have c39b1 : decide (2028 ≤ 281474976710656) = true := decide_eq_true c39
            clear c39
            obtain ⟨y420, hy420⟩ : ∃ y_ : List Int, y_ = (List.replicate 2028 0) := ⟨_, rfl⟩
            replace H : ((sallyportlaw07_Net4Bytes.f k1 t378 t379 t380 t381 t382 t383 t384 t385 t386 t387 t388 t389 y420).bind fun t423 => (if t423 = true then (if 2029 ≤ 281474976710656 then ((sallyportlaw07_Net4Bytes.f k1 t378 t379 t380 t381 t382 t383 t384 t385 t386 t387 t388 t389 (List.replicate 2029 0)).bind fun t427 => (if t427 = true then ((sallyportlaw07_Net4Bytes.f k1 0 0 0 0 0 0 0 0 0 0 0 0 ([] : List Int)).bind fun t428 => (if t428 = true then (if 70000 ≤ 281474976710656 then ((sallyportlaw07_Net4Reads.f k1 (List.replicate 70000 0)).bind fun t432 => (if t432 = true then ((sallyportlaw07_Net4Back.f k1 t378 t379 t380 t381 t382 t383 t384 t385 t386 t387 t388 t389 (List.replicate 2028 0) ([] : List Int)).bind fun t436 => (some t436)) else (some false))) else (none)) else (some false))) else (some false))) else (none)) else (some false))) = some r := by first | (rw [hy420]; with_reducible exact H) | (have H2_ := (Option.bind_some _ _).symm.trans H; rw [hy420]; with_reducible exact H2_) | (have H2_ := (Option.bind_some _ _).symm.trans H; with_reducible exact H2_) | with_reducible exact H | (rw [hy420]; exact H) | exact H
            have Ny420 := Aside0.mk hy420
            clear hy420
            replace H := Option.bind_eq_some_iff.mp H
            obtain ⟨t423, A400, H⟩ := H
            replace H : (if t423 = true then (if 2029 ≤ 281474976710656 then ((sallyportlaw07_Net4Bytes.f k1 t378 t379 t380 t381 t382 t383 t384 t385 t386 t387 t388 t389 (List.replicate 2029 0)).bind fun t427 => (if t427 = true then ((sallyportlaw07_Net4Bytes.f k1 0 0 0 0 0 0 0 0 0 0 0 0 ([] : List Int)).bind fun t428 => (if t428 = true then (if 70000 ≤ 281474976710656 then ((sallyportlaw07_Net4Reads.f k1 (List.replicate 70000 0)).bind fun t432 => (if t432 = true then ((sallyportlaw07_Net4Back.f k1 t378 t379 t380 t381 t382 t383 t384 t385 t386 t387 t388 t389 (List.replicate 2028 0) ([] : List Int)).bind fun t436 => (some t436)) else (some false))) else (none)) else (some false))) else (some false))) else (none)) else (some false)) = some r := H
            have A40 := Aside0.mk A400
            clear A400
            by_cases c41 : t423 = true
            · subst c41
              have H1 : (if 2029 ≤ 281474976710656 then ((sallyportlaw07_Net4Bytes.f k1 t378 t379 t380 t381 t382 t383 t384 t385 t386 t387 t388 t389 (List.replicate 2029 0)).bind fun t427 => (if t427 = true then ((sallyportlaw07_Net4Bytes.f k1 0 0 0 0 0 0 0 0 0 0 0 0 ([] : List Int)).bind fun t428 => (if t428 = true then (if 70000 ≤ 281474976710656 then ((sallyportlaw07_Net4Reads.f k1 (List.replicate 70000 0)).bind fun t432 => (if t432 = true then ((sallyportlaw07_Net4Back.f k1 t378 t379 t380 t381 t382 t383 t384 t385 t386 t387 t388 t389 (List.replicate 2028 0) ([] : List Int)).bind fun t436 => (some t436)) else (some false))) else (none)) else (some false))) else (some false))) else (none)) = some r := by rw [if_pos rfl] at H; exact H
              clear H
              have H := H1
              clear H1
              by_cases c42 : 2029 ≤ 281474976710656
              · rw [if_pos c42] at H
                have c42b0 := eq_true c42
                have c42b1 : decide (2029 ≤ 281474976710656) = true := decide_eq_true c42
                clear c42
                obtain ⟨y424, hy424⟩ : ∃ y_ : List Int, y_ = (List.replicate 2029 0) := ⟨_, rfl⟩
                replace H : ((sallyportlaw07_Net4Bytes.f k1 t378 t379 t380 t381 t382 t383 t384 t385 t386 t387 t388 t389 y424).bind fun t427 => (if t427 = true then ((sallyportlaw07_Net4Bytes.f k1 0 0 0 0 0 0 0 0 0 0 0 0 ([] : List Int)).bind fun t428 => (if t428 = true then (if 70000 ≤ 281474976710656 then ((sallyportlaw07_Net4Reads.f k1 (List.replicate 70000 0)).bind fun t432 => (if t432 = true then ((sallyportlaw07_Net4Back.f k1 t378 t379 t380 t381 t382 t383 t384 t385 t386 t387 t388 t389 (List.replicate 2028 0) ([] : List Int)).bind fun t436 => (some t436)) else (some false))) else (none)) else (some false))) else (some false))) = some r := by first | (rw [hy424]; with_reducible exact H) | (have H2_ := (Option.bind_some _ _).symm.trans H; rw [hy424]; with_reducible exact H2_) | (have H2_ := (Option.bind_some _ _).symm.trans H; with_reducible exact H2_) | with_reducible exact H | (rw [hy424]; exact H) | exact H
                have Ny424 := Aside0.mk hy424
                clear hy424
                replace H := Option.bind_eq_some_iff.mp H
                obtain ⟨t427, A430, H⟩ := H
                replace H : (if t427 = true then ((sallyportlaw07_Net4Bytes.f k1 0 0 0 0 0 0 0 0 0 0 0 0 ([] : List Int)).bind fun t428 => (if t428 = true then (if 70000 ≤ 281474976710656 then ((sallyportlaw07_Net4Reads.f k1 (List.replicate 70000 0)).bind fun t432 => (if t432 = true then ((sallyportlaw07_Net4Back.f k1 t378 t379 t380 t381 t382 t383 t384 t385 t386 t387 t388 t389 (List.replicate 2028 0) ([] : List Int)).bind fun t436 => (some t436)) else (some false))) else (none)) else (some false))) else (some false)) = some r := H
                have A43 := Aside0.mk A430
                clear A430
                by_cases c44 : t427 = true
                · subst c44
                  have H1 : ((sallyportlaw07_Net4Bytes.f k1 0 0 0 0 0 0 0 0 0 0 0 0 ([] : List Int)).bind fun t428 => (if t428 = true then (if 70000 ≤ 281474976710656 then ((sallyportlaw07_Net4Reads.f k1 (List.replicate 70000 0)).bind fun t432 => (if t432 = true then ((sallyportlaw07_Net4Back.f k1 t378 t379 t380 t381 t382 t383 t384 t385 t386 t387 t388 t389 (List.replicate 2028 0) ([] : List Int)).bind fun t436 => (some t436)) else (some false))) else (none)) else (some false))) = some r := by rw [if_pos rfl] at H; exact H
                  clear H
                  have H := H1
                  clear H1
                  replace H := Option.bind_eq_some_iff.mp H
                  obtain ⟨t428, A450, H⟩ := H
                  replace H : (if t428 = true then (if 70000 ≤ 281474976710656 then ((sallyportlaw07_Net4Reads.f k1 (List.replicate 70000 0)).bind fun t432 => (if t432 = true then ((sallyportlaw07_Net4Back.f k1 t378 t379 t380 t381 t382 t383 t384 t385 t386 t387 t388 t389 (List.replicate 2028 0) ([] : List Int)).bind fun t436 => (some t436)) else (some false))) else (none)) else (some false)) = some r := H
                  have A45 := Aside0.mk A450
                  clear A450
                  by_cases c46 : t428 = true
                  · subst c46
                    have H1 : (if 70000 ≤ 281474976710656 then ((sallyportlaw07_Net4Reads.f k1 (List.replicate 70000 0)).bind fun t432 => (if t432 = true then ((sallyportlaw07_Net4Back.f k1 t378 t379 t380 t381 t382 t383 t384 t385 t386 t387 t388 t389 (List.replicate 2028 0) ([] : List Int)).bind fun t436 => (some t436)) else (some false))) else (none)) = some r := by rw [if_pos rfl] at H; exact H
                    clear H
                    have H := H1
                    clear H1
                    by_cases c47 : 70000 ≤ 281474976710656
                    · rw [if_pos c47] at H
                      have c47b0 := eq_true c47
                      have c47b1 : decide (70000 ≤ 281474976710656) = true := decide_eq_true c47
                      clear c47
                      obtain ⟨y429, hy429⟩ : ∃ y_ : List Int, y_ = (List.replicate 70000 0) := ⟨_, rfl⟩
                      replace H : ((sallyportlaw07_Net4Reads.f k1 y429).bind fun t432 => (if t432 = true then ((sallyportlaw07_Net4Back.f k1 t378 t379 t380 t381 t382 t383 t384 t385 t386 t387 t388 t389 (List.replicate 2028 0) ([] : List Int)).bind fun t436 => (some t436)) else (some false))) = some r := by first | (rw [hy429]; with_reducible exact H) | (have H2_ := (Option.bind_some _ _).symm.trans H; rw [hy429]; with_reducible exact H2_) | (have H2_ := (Option.bind_some _ _).symm.trans H; with_reducible exact H2_) | with_reducible exact H | (rw [hy429]; exact H) | exact H
                      have Ny429 := Aside0.mk hy429
                      clear hy429
                      replace H := Option.bind_eq_some_iff.mp H
                      obtain ⟨t432, A480, H⟩ := H
                      replace H : (if t432 = true then ((sallyportlaw07_Net4Back.f k1 t378 t379 t380 t381 t382 t383 t384 t385 t386 t387 t388 t389 (List.replicate 2028 0) ([] : List Int)).bind fun t436 => (some t436)) else (some false)) = some r := H
                      have A48 := Aside0.mk A480
                      clear A480
                      by_cases c49 : t432 = true
                      · subst c49
                        have H1 : ((sallyportlaw07_Net4Back.f k1 t378 t379 t380 t381 t382 t383 t384 t385 t386 t387 t388 t389 (List.replicate 2028 0) ([] : List Int)).bind fun t436 => (some t436)) = some r := by rw [if_pos rfl] at H; exact H
                        clear H
                        have H := H1
                        clear H1
                        obtain ⟨y433, hy433⟩ : ∃ y_ : List Int, y_ = (List.replicate 2028 0) := ⟨_, rfl⟩
                        replace H : ((sallyportlaw07_Net4Back.f k1 t378 t379 t380 t381 t382 t383 t384 t385 t386 t387 t388 t389 y433 ([] : List Int)).bind fun t436 => (some t436)) = some r := by first | (rw [hy433]; with_reducible exact H) | (have H2_ := (Option.bind_some _ _).symm.trans H; rw [hy433]; with_reducible exact H2_) | (have H2_ := (Option.bind_some _ _).symm.trans H; with_reducible exact H2_) | with_reducible exact H | (rw [hy433]; exact H) | exact H
                        have Ny433 := Aside0.mk hy433
                        clear hy433
                        replace H := Option.bind_eq_some_iff.mp H
                        obtain ⟨t436, A500, H⟩ := H
                        replace H : (some t436) = some r := H
                        have A50 := Aside0.mk A500
                        clear A500
                        obtain rfl := Option.some.inj H
                        obtain ⟨Ao51, co51, eo51⟩ := Kd.R_slice HO_4.out
                        subst eo51
                        try go_wp2
                        have n0_ := Aside0.mk (Kd.R_drew HO_4.out)
                        have n1_ := Aside0.mk (blk_drew BK396.out)
                        have n2_ := Aside0.mk (below_drew1 HB.out)
                        clear HO_4
                        clear BK396
                        clear HB
                        have HO_4 := n0_
                        have BK396 := n1_
                        have HB := n2_
                        clear n0_ n1_ n2_
                        refine start_ (n := 27) (S := fun w' => w'.cell? ⟨gb396, 0, none⟩ = some (.int .u8 t378) ∧ w'.cell? ⟨gb396, 1, none⟩ = some (.int .u8 t379) ∧ w'.cell? ⟨gb396, 2, none⟩ = some (.int .u8 t380) ∧ w'.cell? ⟨gb396, 3, none⟩ = some (.int .u16 t381) ∧ w'.cell? ⟨gb396, 4, none⟩ = some (.int .u8 t382) ∧ w'.cell? ⟨gb396, 5, none⟩ = some (.int .u8 t383) ∧ w'.cell? ⟨gb396, 6, none⟩ = some (.int .u8 t384) ∧ w'.cell? ⟨gb396, 7, none⟩ = some (.int .u8 t385) ∧ w'.cell? ⟨gb396, 8, none⟩ = some (.int .u8 t386) ∧ w'.cell? ⟨gb396, 9, none⟩ = some (.int .u8 t387) ∧ w'.cell? ⟨gb396, 10, none⟩ = some (.int .u8 t388) ∧ w'.cell? ⟨gb396, 11, none⟩ = some (.int .u8 t389)) (ds := []) #[false, false, false, false, false, false, false, false, false, false, false, false, false, false, false, false, false, false, false, false, false, false, false, false, false, false, false] (by kernel_rfl) rfl rfl ⟨(blk_cell BK396.out 0).trans rfl, (blk_cell BK396.out 1).trans rfl, (blk_cell BK396.out 2).trans rfl, (blk_cell BK396.out 3).trans rfl, (blk_cell BK396.out 4).trans rfl, (blk_cell BK396.out 5).trans rfl, (blk_cell BK396.out 6).trans rfl, (blk_cell BK396.out 7).trans rfl, (blk_cell BK396.out 8).trans rfl, (blk_cell BK396.out 9).trans rfl, (blk_cell BK396.out 10).trans rfl, (blk_cell BK396.out 11).trans rfl⟩ (fun hHeld => ?_); refine with_tabW sallyportlaw07_Net4Names.tab10 sallyportlaw07_Net4Names.bits10 (fun HT_ HW_ => ?_)
                        generalize wr.drew = w52 at HO_4 BK396 HB hHeld ⊢
                        refine pure_ (i := 0) (N := some 50) (v := ?_) (a' := ?_) #[true, false, false, false, false, false, false, false, false, false, false, false, false, false, false, false, false, false, false, false, false, false, false, false, false, false, false] rfl rfl (any_of HT_.out (by kernel_rfl)) (fun _ _ _ h => h) (Or.inl ⟨by rfl, ?_⟩) ?_ ?_
                        rotate_left
                        · intro w'
                          go_simp
                          with_reducible rfl
                        rotate_left
                        · simp only [Act.put, List.setIfInBounds_toArray, List.set_cons_zero, List.set_cons_succ, i64_w, i32_w]
                          rfl
                        refine one_ (i := 1) (N := some 51) #[true, true, false, false, false, false, false, false, false, false, false, false, false, false, false, false, false, false, false, false, false, false, false, false, false, false, false] rfl rfl (one_of HT_.out (by kernel_rfl)) (by decide) (fun K hK => ?_)
                        refine goes_ Try.func26 (by kernel_rfl) rfl #[] (by rfl) rfl rfl (by (try simp only [List.map_toArray, List.map_cons, List.map_nil]); first | done | rfl | (simp only [List.length_drop, List.length_take]; rfl)) ?_
                        with_reducible refine (sallyportlaw07_awake.calls k1  true ⟨by first | rfl | exact hr_.out⟩ _ A37.out).mono ?_
                        rintro e w53 ⟨rfl, hb⟩
                        refine ⟨_, rfl, ?_⟩
                        have n0_ := Aside0.mk (Kd.R_below (by (with_reducible repeat (first | apply Kd.R_alloc | apply Kd.R_drewN | apply Kd.R_drew)); exact HO_4.out) hb)
                        have n1_ := Aside0.mk (blk_below (g := gb396) (o := .cells #[.int .u8 t378, .int .u8 t379, .int .u8 t380, .int .u16 t381, .int .u8 t382, .int .u8 t383, .int .u8 t384, .int .u8 t385, .int .u8 t386, .int .u8 t387, .int .u8 t388, .int .u8 t389] 25 (0, 0)) (by (with_reducible repeat (first | refine blk_drewN ?_ _ | refine blk_drew ?_ | refine blk_alloc ?_ _)); exact BK396.out) hb)
                        have n2_ := Aside0.mk (below_step (by repeat (first | (with_reducible first | exact HB.out | apply below_alloc | apply pw_below_drewN | apply below_drew1 | refine below_set ?_ GE396.out) | exact HB.out)) hb)
                        clear HO_4
                        clear BK396
                        clear HB
                        have HO_4 := n0_
                        have BK396 := n1_
                        have HB := n2_
                        clear n0_ n1_ n2_
                        (try clear hb)
                        (try clear hb2)
                        (try clear hk)
                        (try clear hi)
                        refine hK.out _ _ ⟨(blk_cell BK396.out 0).trans rfl, (blk_cell BK396.out 1).trans rfl, (blk_cell BK396.out 2).trans rfl, (blk_cell BK396.out 3).trans rfl, (blk_cell BK396.out 4).trans rfl, (blk_cell BK396.out 5).trans rfl, (blk_cell BK396.out 6).trans rfl, (blk_cell BK396.out 7).trans rfl, (blk_cell BK396.out 8).trans rfl, (blk_cell BK396.out 9).trans rfl, (blk_cell BK396.out 10).trans rfl, (blk_cell BK396.out 11).trans rfl⟩ (fun hHeld => ?_)
                        clear hK K
                        refine norm_ (a' := ?_) ?_ ?_
                        rotate_left
                        · show Act.put _ (some 51) _ = _
                          simp only [Act.put, List.setIfInBounds_toArray, List.set_cons_zero, List.set_cons_succ, i64_w, i32_w]
                          rfl
                        refine pure_ (i := 2) (N := some 52) (v := ?_) (a' := ?_) #[true, true, true, false, false, false, false, false, false, false, false, false, false, false, false, false, false, false, false, false, false, false, false, false, false, false, false] rfl rfl (any_of HT_.out (by kernel_rfl)) (fun _ _ _ h => h) (Or.inl ⟨by rfl, ?_⟩) ?_ ?_
                        rotate_left
                        · intro w'
                          go_simp
                          with_reducible rfl
                        rotate_left
                        · simp only [Act.put, List.setIfInBounds_toArray, List.set_cons_zero, List.set_cons_succ, i64_w, i32_w]
                          rfl
                        refine pure_ (i := 3) (N := some 53) (v := ?_) (a' := ?_) #[true, true, true, true, false, false, false, false, false, false, false, false, false, false, false, false, false, false, false, false, false, false, false, false, false, false, false] rfl rfl (any_of HT_.out (by kernel_rfl)) (fun _ _ _ h => h) (Or.inl ⟨by rfl, ?_⟩) ?_ ?_
                        rotate_left
                        · intro w'
                          go_simp
                          with_reducible rfl
                        rotate_left
                        · simp only [Act.put, List.setIfInBounds_toArray, List.set_cons_zero, List.set_cons_succ, i64_w, i32_w]
                          rfl
                        refine take_ (i := 4) (N := some 54) (v := ?_) (a' := ?_) #[true, true, true, true, true, false, false, false, false, false, false, false, false, false, false, false, false, false, false, false, false, false, false, false, false, false, false] rfl rfl (take_ofW HT_.out HW_.out (by kernel_rfl)) (fun _ _ _ h => h) (Or.inl ⟨by rfl, ?_⟩) hHeld ?_ ?_
                        rotate_left
                        · rintro w' ⟨s0, s1, s2, s3, s4, s5, s6, s7, s8, s9, s10, s11⟩
                          go_simp
                          with_reducible rfl
                        rotate_left
                        · simp only [Act.put, List.setIfInBounds_toArray, List.set_cons_zero, List.set_cons_succ, i64_w, i32_w]
                          rfl
                        refine one_ (i := 5) (N := some 55) #[true, true, true, true, true, true, false, false, false, false, false, false, false, false, false, false, false, false, false, false, false, false, false, false, false, false, false] rfl rfl (one_of HT_.out (by kernel_rfl)) (by decide) (fun K hK => ?_)
                        refine Kd.R_make_step (Kd.int .u8) _ 5 (by rfl) (N := 55) rfl 26 _ _ rfl 2028 rfl rfl Try.underlying26 (.int .u8 0) 1 info5 rfl (by decide) (by omega) 0 (ok := fun _ => True) (okp := fun _ => True) rfl (fun _ hk => hk) trivial (by omega) (by omega) (Below.refl _ _) (Nat.le_refl _) ?_
                        intro v421 w54 ho55 hb hg_ hnew_
                        clear hg_ hnew_
                        (first | rw [← Ny420.out] at ho55 | (simp only [Int.reduceToNat] at ho55; rw [← Ny420.out] at ho55))
                        have n0_ := Aside0.mk (Kd.R_elder' (by (with_reducible repeat (first | apply Kd.R_alloc | apply Kd.R_drewN | apply Kd.R_drew)); exact HO_4.out) (Kd.R_base ho55) hb)
                        have n1_ := Aside0.mk (Kd.R_lower (Kd.R_new' ho55 (Kd.R_lt (by (with_reducible repeat (first | apply Kd.R_alloc | apply Kd.R_drewN | apply Kd.R_drew)); exact HO_4.out))) (below_size (by repeat (first | (with_reducible first | exact HB.out | apply below_alloc | apply pw_below_drewN | apply below_drew1 | refine below_set ?_ GE396.out) | exact HB.out))))
                        have n2_ := Aside0.mk (blk_below (g := gb396) (o := .cells #[.int .u8 t378, .int .u8 t379, .int .u8 t380, .int .u16 t381, .int .u8 t382, .int .u8 t383, .int .u8 t384, .int .u8 t385, .int .u8 t386, .int .u8 t387, .int .u8 t388, .int .u8 t389] 25 (0, 0)) (by (with_reducible repeat (first | refine blk_drewN ?_ _ | refine blk_drew ?_ | refine blk_alloc ?_ _)); exact BK396.out) hb)
                        have n3_ := Aside0.mk (below_step (by repeat (first | (with_reducible first | exact HB.out | apply below_alloc | apply pw_below_drewN | apply below_drew1 | refine below_set ?_ GE396.out) | exact HB.out)) hb)
                        clear HO_4
                        clear BK396
                        clear HB
                        have HO_4 := n0_
                        have HO422 := n1_
                        have BK396 := n2_
                        have HB := n3_
                        clear n0_ n1_ n2_ n3_
                        clear hb ho55
                        obtain ⟨Ao56, co56, eo56⟩ := Kd.R_slice HO422.out
                        (first | subst eo56 | (injection eo56 with f1_ f2_ f3_; have f4_ := f1_.symm; have f5_ := f3_.symm; clear f1_ f2_ f3_; subst f4_; subst f5_))
                        refine hK.out _ _ ⟨(blk_cell BK396.out 0).trans rfl, (blk_cell BK396.out 1).trans rfl, (blk_cell BK396.out 2).trans rfl, (blk_cell BK396.out 3).trans rfl, (blk_cell BK396.out 4).trans rfl, (blk_cell BK396.out 5).trans rfl, (blk_cell BK396.out 6).trans rfl, (blk_cell BK396.out 7).trans rfl, (blk_cell BK396.out 8).trans rfl, (blk_cell BK396.out 9).trans rfl, (blk_cell BK396.out 10).trans rfl, (blk_cell BK396.out 11).trans rfl⟩ (fun hHeld => ?_)
                        clear hK K
                        refine norm_ (a' := ?_) ?_ ?_
                        rotate_left
                        · show Act.put _ (some 55) _ = _
                          simp only [Act.put, List.setIfInBounds_toArray, List.set_cons_zero, List.set_cons_succ, i64_w, i32_w]
                          rfl
                        refine one_ (i := 6) (N := some 56) #[true, true, true, true, true, true, true, false, false, false, false, false, false, false, false, false, false, false, false, false, false, false, false, false, false, false, false] rfl rfl (one_of HT_.out (by kernel_rfl)) (by decide) (fun K hK => ?_)
                        refine goes_ Try.func3 (by kernel_rfl) rfl #[.agg #[.int .u8 t378, .int .u8 t379, .int .u8 t380, .int .u16 t381, .int .u8 t382, .int .u8 t383, .int .u8 t384, .int .u8 t385, .int .u8 t386, .int .u8 t387, .int .u8 t388, .int .u8 t389], .slice Ao56 y420.length co56] (by rfl) rfl rfl (by (try simp only [List.map_toArray, List.map_cons, List.map_nil]); first | done | rfl | (simp only [List.length_drop, List.length_take]; rfl)) ?_
                        with_reducible refine (sallyportlaw07_Net4Bytes.calls k1 t378 t379 t380 t381 t382 t383 t384 t385 t386 t387 t388 t389 _ _ y420 true ⟨by first | rfl | exact hr_.out⟩ _ ?side1 ?side2 A40.out).mono ?_
                        (case side1 => repeat (first | exact (Kd.R_reads' HO422.out).2.2 | (with_reducible refine Kd.C_alloc ?_ _) | (with_reducible refine Kd.C_drewN ?_ _) | (with_reducible refine Kd.C_drew ?_)))
                        (case side2 => exact (Kd.R_reads' HO422.out).2.1)
                        rintro e w57 ⟨rfl, hb⟩
                        refine ⟨_, rfl, ?_⟩
                        have n0_ := Aside0.mk (Kd.R_below (by (with_reducible repeat (first | apply Kd.R_alloc | apply Kd.R_drewN | apply Kd.R_drew)); exact HO_4.out) hb)
                        have n1_ := Aside0.mk (Kd.R_below (by (with_reducible repeat (first | apply Kd.R_alloc | apply Kd.R_drewN | apply Kd.R_drew)); exact HO422.out) hb)
                        have n2_ := Aside0.mk (blk_below (g := gb396) (o := .cells #[.int .u8 t378, .int .u8 t379, .int .u8 t380, .int .u16 t381, .int .u8 t382, .int .u8 t383, .int .u8 t384, .int .u8 t385, .int .u8 t386, .int .u8 t387, .int .u8 t388, .int .u8 t389] 25 (0, 0)) (by (with_reducible repeat (first | refine blk_drewN ?_ _ | refine blk_drew ?_ | refine blk_alloc ?_ _)); exact BK396.out) hb)
                        have n3_ := Aside0.mk (below_step (by repeat (first | (with_reducible first | exact HB.out | apply below_alloc | apply pw_below_drewN | apply below_drew1 | refine below_set ?_ GE396.out) | exact HB.out)) hb)
                        clear HO_4
                        clear HO422
                        clear BK396
                        clear HB
                        have HO_4 := n0_
                        have HO422 := n1_
                        have BK396 := n2_
                        have HB := n3_
                        clear n0_ n1_ n2_ n3_
                        (try clear hb)
                        (try clear hb2)
                        (try clear hk)
                        (try clear hi)
                        refine hK.out _ _ ⟨(blk_cell BK396.out 0).trans rfl, (blk_cell BK396.out 1).trans rfl, (blk_cell BK396.out 2).trans rfl, (blk_cell BK396.out 3).trans rfl, (blk_cell BK396.out 4).trans rfl, (blk_cell BK396.out 5).trans rfl, (blk_cell BK396.out 6).trans rfl, (blk_cell BK396.out 7).trans rfl, (blk_cell BK396.out 8).trans rfl, (blk_cell BK396.out 9).trans rfl, (blk_cell BK396.out 10).trans rfl, (blk_cell BK396.out 11).trans rfl⟩ (fun hHeld => ?_)
                        clear hK K
                        refine norm_ (a' := ?_) ?_ ?_
                        rotate_left
                        · show Act.put _ (some 56) _ = _
                          simp only [Act.put, List.setIfInBounds_toArray, List.set_cons_zero, List.set_cons_succ, i64_w, i32_w]
                          rfl
                        refine pure_ (i := 7) (N := some 57) (v := ?_) (a' := ?_) #[true, true, true, true, true, true, true, true, false, false, false, false, false, false, false, false, false, false, false, false, false, false, false, false, false, false, false] rfl rfl (any_of HT_.out (by kernel_rfl)) (fun _ _ _ h => h) (Or.inl ⟨by rfl, ?_⟩) ?_ ?_
                        rotate_left
                        · intro w'
                          go_simp
                          with_reducible rfl
                        rotate_left
                        · simp only [Act.put, List.setIfInBounds_toArray, List.set_cons_zero, List.set_cons_succ, i64_w, i32_w]
                          rfl
                        refine pure_ (i := 8) (N := some 58) (v := ?_) (a' := ?_) #[true, true, true, true, true, true, true, true, true, false, false, false, false, false, false, false, false, false, false, false, false, false, false, false, false, false, false] rfl rfl (any_of HT_.out (by kernel_rfl)) (fun _ _ _ h => h) (Or.inl ⟨by rfl, ?_⟩) ?_ ?_
                        rotate_left
                        · intro w'
                          go_simp
                          with_reducible rfl
                        rotate_left
                        · simp only [Act.put, List.setIfInBounds_toArray, List.set_cons_zero, List.set_cons_succ, i64_w, i32_w]
                          rfl
                        refine take_ (i := 9) (N := some 59) (v := ?_) (a' := ?_) #[true, true, true, true, true, true, true, true, true, true, false, false, false, false, false, false, false, false, false, false, false, false, false, false, false, false, false] rfl rfl (take_ofW HT_.out HW_.out (by kernel_rfl)) (fun _ _ _ h => h) (Or.inl ⟨by rfl, ?_⟩) hHeld ?_ ?_
                        rotate_left
                        · rintro w' ⟨s0, s1, s2, s3, s4, s5, s6, s7, s8, s9, s10, s11⟩
                          go_simp
                          with_reducible rfl
                        rotate_left
                        · simp only [Act.put, List.setIfInBounds_toArray, List.set_cons_zero, List.set_cons_succ, i64_w, i32_w]
                          rfl
                        refine one_ (i := 10) (N := some 60) #[true, true, true, true, true, true, true, true, true, true, true, false, false, false, false, false, false, false, false, false, false, false, false, false, false, false, false] rfl rfl (one_of HT_.out (by kernel_rfl)) (by decide) (fun K hK => ?_)
                        refine Kd.R_make_step (Kd.int .u8) _ 5 (by rfl) (N := 60) rfl 26 _ _ rfl 2029 rfl rfl Try.underlying26 (.int .u8 0) 1 info5 rfl (by decide) (by omega) 0 (ok := fun _ => True) (okp := fun _ => True) rfl (fun _ hk => hk) trivial (by omega) (by omega) (Below.refl _ _) (Nat.le_refl _) ?_
                        intro v425 w58 ho59 hb hg_ hnew_
                        clear hg_ hnew_
                        (first | rw [← Ny424.out] at ho59 | (simp only [Int.reduceToNat] at ho59; rw [← Ny424.out] at ho59))
                        have n0_ := Aside0.mk (Kd.R_elder' (by (with_reducible repeat (first | apply Kd.R_alloc | apply Kd.R_drewN | apply Kd.R_drew)); exact HO_4.out) (Kd.R_base ho59) hb)
                        have n1_ := Aside0.mk (Kd.R_elder' (by (with_reducible repeat (first | apply Kd.R_alloc | apply Kd.R_drewN | apply Kd.R_drew)); exact HO422.out) (Kd.R_base ho59) hb)
                        have n2_ := Aside0.mk (Kd.R_lower (Kd.R_new' (Kd.R_new' ho59 (Kd.R_lt (by (with_reducible repeat (first | apply Kd.R_alloc | apply Kd.R_drewN | apply Kd.R_drew)); exact HO_4.out))) (Kd.R_lt (by (with_reducible repeat (first | apply Kd.R_alloc | apply Kd.R_drewN | apply Kd.R_drew)); exact HO422.out))) (below_size (by repeat (first | (with_reducible first | exact HB.out | apply below_alloc | apply pw_below_drewN | apply below_drew1 | refine below_set ?_ GE396.out) | exact HB.out))))
                        have n3_ := Aside0.mk (blk_below (g := gb396) (o := .cells #[.int .u8 t378, .int .u8 t379, .int .u8 t380, .int .u16 t381, .int .u8 t382, .int .u8 t383, .int .u8 t384, .int .u8 t385, .int .u8 t386, .int .u8 t387, .int .u8 t388, .int .u8 t389] 25 (0, 0)) (by (with_reducible repeat (first | refine blk_drewN ?_ _ | refine blk_drew ?_ | refine blk_alloc ?_ _)); exact BK396.out) hb)
                        have n4_ := Aside0.mk (below_step (by repeat (first | (with_reducible first | exact HB.out | apply below_alloc | apply pw_below_drewN | apply below_drew1 | refine below_set ?_ GE396.out) | exact HB.out)) hb)
                        clear HO_4
                        clear HO422
                        clear BK396
                        clear HB
                        have HO_4 := n0_
                        have HO422 := n1_
                        have HO426 := n2_
                        have BK396 := n3_
                        have HB := n4_
                        clear n0_ n1_ n2_ n3_ n4_
                        clear hb ho59
                        obtain ⟨Ao60, co60, eo60⟩ := Kd.R_slice HO426.out
                        (first | subst eo60 | (injection eo60 with f1_ f2_ f3_; have f4_ := f1_.symm; have f5_ := f3_.symm; clear f1_ f2_ f3_; subst f4_; subst f5_))
                        refine hK.out _ _ ⟨(blk_cell BK396.out 0).trans rfl, (blk_cell BK396.out 1).trans rfl, (blk_cell BK396.out 2).trans rfl, (blk_cell BK396.out 3).trans rfl, (blk_cell BK396.out 4).trans rfl, (blk_cell BK396.out 5).trans rfl, (blk_cell BK396.out 6).trans rfl, (blk_cell BK396.out 7).trans rfl, (blk_cell BK396.out 8).trans rfl, (blk_cell BK396.out 9).trans rfl, (blk_cell BK396.out 10).trans rfl, (blk_cell BK396.out 11).trans rfl⟩ (fun hHeld => ?_)
                        clear hK K
                        refine norm_ (a' := ?_) ?_ ?_
                        rotate_left
                        · show Act.put _ (some 60) _ = _
                          simp only [Act.put, List.setIfInBounds_toArray, List.set_cons_zero, List.set_cons_succ, i64_w, i32_w]
                          rfl
                        refine one_ (i := 11) (N := some 61) #[true, true, true, true, true, true, true, true, true, true, true, true, false, false, false, false, false, false, false, false, false, false, false, false, false, false, false] rfl rfl (one_of HT_.out (by kernel_rfl)) (by decide) (fun K hK => ?_)
                        refine goes_ Try.func3 (by kernel_rfl) rfl #[.agg #[.int .u8 t378, .int .u8 t379, .int .u8 t380, .int .u16 t381, .int .u8 t382, .int .u8 t383, .int .u8 t384, .int .u8 t385, .int .u8 t386, .int .u8 t387, .int .u8 t388, .int .u8 t389], .slice Ao60 y424.length co60] (by rfl) rfl rfl (by (try simp only [List.map_toArray, List.map_cons, List.map_nil]); first | done | rfl | (simp only [List.length_drop, List.length_take]; rfl)) ?_
                        with_reducible refine (sallyportlaw07_Net4Bytes.calls k1 t378 t379 t380 t381 t382 t383 t384 t385 t386 t387 t388 t389 _ _ y424 true ⟨by first | rfl | exact hr_.out⟩ _ ?side1 ?side2 A43.out).mono ?_
                        (case side1 => repeat (first | exact (Kd.R_reads' HO426.out).2.2 | (with_reducible refine Kd.C_alloc ?_ _) | (with_reducible refine Kd.C_drewN ?_ _) | (with_reducible refine Kd.C_drew ?_)))
                        (case side2 => exact (Kd.R_reads' HO426.out).2.1)
                        rintro e w61 ⟨rfl, hb⟩
                        refine ⟨_, rfl, ?_⟩
                        have n0_ := Aside0.mk (Kd.R_below (by (with_reducible repeat (first | apply Kd.R_alloc | apply Kd.R_drewN | apply Kd.R_drew)); exact HO_4.out) hb)
                        have n1_ := Aside0.mk (Kd.R_below (by (with_reducible repeat (first | apply Kd.R_alloc | apply Kd.R_drewN | apply Kd.R_drew)); exact HO422.out) hb)
                        have n2_ := Aside0.mk (Kd.R_below (by (with_reducible repeat (first | apply Kd.R_alloc | apply Kd.R_drewN | apply Kd.R_drew)); exact HO426.out) hb)
                        have n3_ := Aside0.mk (blk_below (g := gb396) (o := .cells #[.int .u8 t378, .int .u8 t379, .int .u8 t380, .int .u16 t381, .int .u8 t382, .int .u8 t383, .int .u8 t384, .int .u8 t385, .int .u8 t386, .int .u8 t387, .int .u8 t388, .int .u8 t389] 25 (0, 0)) (by (with_reducible repeat (first | refine blk_drewN ?_ _ | refine blk_drew ?_ | refine blk_alloc ?_ _)); exact BK396.out) hb)
                        have n4_ := Aside0.mk (below_step (by repeat (first | (with_reducible first | exact HB.out | apply below_alloc | apply pw_below_drewN | apply below_drew1 | refine below_set ?_ GE396.out) | exact HB.out)) hb)
                        clear HO_4
                        clear HO422
                        clear HO426
                        clear BK396
                        clear HB
                        have HO_4 := n0_
                        have HO422 := n1_
                        have HO426 := n2_
                        have BK396 := n3_
                        have HB := n4_
                        clear n0_ n1_ n2_ n3_ n4_
                        (try clear hb)
                        (try clear hb2)
                        (try clear hk)
                        (try clear hi)
                        refine hK.out _ _ ⟨(blk_cell BK396.out 0).trans rfl, (blk_cell BK396.out 1).trans rfl, (blk_cell BK396.out 2).trans rfl, (blk_cell BK396.out 3).trans rfl, (blk_cell BK396.out 4).trans rfl, (blk_cell BK396.out 5).trans rfl, (blk_cell BK396.out 6).trans rfl, (blk_cell BK396.out 7).trans rfl, (blk_cell BK396.out 8).trans rfl, (blk_cell BK396.out 9).trans rfl, (blk_cell BK396.out 10).trans rfl, (blk_cell BK396.out 11).trans rfl⟩ (fun hHeld => ?_)
                        clear hK K
                        refine norm_ (a' := ?_) ?_ ?_
                        rotate_left
                        · show Act.put _ (some 61) _ = _
                          simp only [Act.put, List.setIfInBounds_toArray, List.set_cons_zero, List.set_cons_succ, i64_w, i32_w]
                          rfl
                        refine pure_ (i := 12) (N := some 62) (v := ?_) (a' := ?_) #[true, true, true, true, true, true, true, true, true, true, true, true, true, false, false, false, false, false, false, false, false, false, false, false, false, false, false] rfl rfl (any_of HT_.out (by kernel_rfl)) (fun _ _ _ h => h) (Or.inl ⟨by rfl, ?_⟩) ?_ ?_
                        rotate_left
                        · intro w'
                          go_simp
                          with_reducible rfl
                        rotate_left
                        · simp only [Act.put, List.setIfInBounds_toArray, List.set_cons_zero, List.set_cons_succ, i64_w, i32_w]
                          rfl
                        refine pure_ (i := 13) (N := some 63) (v := ?_) (a' := ?_) #[true, true, true, true, true, true, true, true, true, true, true, true, true, true, false, false, false, false, false, false, false, false, false, false, false, false, false] rfl rfl (any_of HT_.out (by kernel_rfl)) (fun _ _ _ h => h) (Or.inl ⟨by rfl, ?_⟩) ?_ ?_
                        rotate_left
                        · intro w'
                          go_simp
                          with_reducible rfl
                        rotate_left
                        · simp only [Act.put, List.setIfInBounds_toArray, List.set_cons_zero, List.set_cons_succ, i64_w, i32_w]
                          rfl
                        refine pure_ (i := 14) (N := some 64) (v := ?_) (a' := ?_) #[true, true, true, true, true, true, true, true, true, true, true, true, true, true, true, false, false, false, false, false, false, false, false, false, false, false, false] rfl rfl (any_of HT_.out (by kernel_rfl)) (fun _ _ _ h => h) (Or.inl ⟨by rfl, ?_⟩) ?_ ?_
                        rotate_left
                        · intro w'
                          go_simp
                          with_reducible rfl
                        rotate_left
                        · simp only [Act.put, List.setIfInBounds_toArray, List.set_cons_zero, List.set_cons_succ, i64_w, i32_w]
                          rfl
                        refine one_ (i := 15) (N := some 65) #[true, true, true, true, true, true, true, true, true, true, true, true, true, true, true, true, false, false, false, false, false, false, false, false, false, false, false] rfl rfl (one_of HT_.out (by kernel_rfl)) (by decide) (fun K hK => ?_)
                        refine goes_ Try.func3 (by kernel_rfl) rfl #[.agg #[.int .u8 0, .int .u8 0, .int .u8 0, .int .u16 0, .int .u8 0, .int .u8 0, .int .u8 0, .int .u8 0, .int .u8 0, .int .u8 0, .int .u8 0, .int .u8 0], .slice none 0 0] (by rfl) rfl rfl (by (try simp only [List.map_toArray, List.map_cons, List.map_nil]); first | done | rfl | (simp only [List.length_drop, List.length_take]; rfl)) ?_
                        refine (sallyportlaw07_Net4Bytes.calls k1 0 0 0 0 0 0 0 0 0 0 0 0 _ _ ([] : List Int) true ⟨by first | rfl | exact hr_.out⟩ _ ?side1 ?side2 A45.out).mono ?_
                        (case side1 => exact Kd.C_nil _ _)
                        (case side2 => exact Nat.le_refl _)
                        rintro e w62 ⟨rfl, hb⟩
                        refine ⟨_, rfl, ?_⟩
                        have n0_ := Aside0.mk (Kd.R_below (by (with_reducible repeat (first | apply Kd.R_alloc | apply Kd.R_drewN | apply Kd.R_drew)); exact HO_4.out) hb)
                        have n1_ := Aside0.mk (Kd.R_below (by (with_reducible repeat (first | apply Kd.R_alloc | apply Kd.R_drewN | apply Kd.R_drew)); exact HO422.out) hb)
                        have n2_ := Aside0.mk (Kd.R_below (by (with_reducible repeat (first | apply Kd.R_alloc | apply Kd.R_drewN | apply Kd.R_drew)); exact HO426.out) hb)
                        have n3_ := Aside0.mk (blk_below (g := gb396) (o := .cells #[.int .u8 t378, .int .u8 t379, .int .u8 t380, .int .u16 t381, .int .u8 t382, .int .u8 t383, .int .u8 t384, .int .u8 t385, .int .u8 t386, .int .u8 t387, .int .u8 t388, .int .u8 t389] 25 (0, 0)) (by (with_reducible repeat (first | refine blk_drewN ?_ _ | refine blk_drew ?_ | refine blk_alloc ?_ _)); exact BK396.out) hb)
                        have n4_ := Aside0.mk (below_step (by repeat (first | (with_reducible first | exact HB.out | apply below_alloc | apply pw_below_drewN | apply below_drew1 | refine below_set ?_ GE396.out) | exact HB.out)) hb)
                        clear HO_4
                        clear HO422
                        clear HO426
                        clear BK396
                        clear HB
                        have HO_4 := n0_
                        have HO422 := n1_
                        have HO426 := n2_
                        have BK396 := n3_
                        have HB := n4_
                        clear n0_ n1_ n2_ n3_ n4_
                        (try clear hb)
                        (try clear hb2)
                        (try clear hk)
                        (try clear hi)
                        refine hK.out _ _ ⟨(blk_cell BK396.out 0).trans rfl, (blk_cell BK396.out 1).trans rfl, (blk_cell BK396.out 2).trans rfl, (blk_cell BK396.out 3).trans rfl, (blk_cell BK396.out 4).trans rfl, (blk_cell BK396.out 5).trans rfl, (blk_cell BK396.out 6).trans rfl, (blk_cell BK396.out 7).trans rfl, (blk_cell BK396.out 8).trans rfl, (blk_cell BK396.out 9).trans rfl, (blk_cell BK396.out 10).trans rfl, (blk_cell BK396.out 11).trans rfl⟩ (fun hHeld => ?_)
                        clear hK K
                        refine norm_ (a' := ?_) ?_ ?_
                        rotate_left
                        · show Act.put _ (some 65) _ = _
                          simp only [Act.put, List.setIfInBounds_toArray, List.set_cons_zero, List.set_cons_succ, i64_w, i32_w]
                          rfl
                        refine pure_ (i := 16) (N := some 66) (v := ?_) (a' := ?_) #[true, true, true, true, true, true, true, true, true, true, true, true, true, true, true, true, true, false, false, false, false, false, false, false, false, false, false] rfl rfl (any_of HT_.out (by kernel_rfl)) (fun _ _ _ h => h) (Or.inl ⟨by rfl, ?_⟩) ?_ ?_
                        rotate_left
                        · intro w'
                          go_simp
                          with_reducible rfl
                        rotate_left
                        · simp only [Act.put, List.setIfInBounds_toArray, List.set_cons_zero, List.set_cons_succ, i64_w, i32_w]
                          rfl
                        refine pure_ (i := 17) (N := some 67) (v := ?_) (a' := ?_) #[true, true, true, true, true, true, true, true, true, true, true, true, true, true, true, true, true, true, false, false, false, false, false, false, false, false, false] rfl rfl (any_of HT_.out (by kernel_rfl)) (fun _ _ _ h => h) (Or.inl ⟨by rfl, ?_⟩) ?_ ?_
                        rotate_left
                        · intro w'
                          go_simp
                          with_reducible rfl
                        rotate_left
                        · simp only [Act.put, List.setIfInBounds_toArray, List.set_cons_zero, List.set_cons_succ, i64_w, i32_w]
                          rfl
                        refine one_ (i := 18) (N := some 68) #[true, true, true, true, true, true, true, true, true, true, true, true, true, true, true, true, true, true, true, false, false, false, false, false, false, false, false] rfl rfl (one_of HT_.out (by kernel_rfl)) (by decide) (fun K hK => ?_)
                        refine Kd.R_make_step (Kd.int .u8) _ 5 (by rfl) (N := 68) rfl 26 _ _ rfl 70000 rfl rfl Try.underlying26 (.int .u8 0) 1 info5 rfl (by decide) (by omega) 0 (ok := fun _ => True) (okp := fun _ => True) rfl (fun _ hk => hk) trivial (by omega) (by omega) (Below.refl _ _) (Nat.le_refl _) ?_
                        intro v430 w63 ho64 hb hg_ hnew_
                        clear hg_ hnew_
                        (first | rw [← Ny429.out] at ho64 | (simp only [Int.reduceToNat] at ho64; rw [← Ny429.out] at ho64))
                        have n0_ := Aside0.mk (Kd.R_elder' (by (with_reducible repeat (first | apply Kd.R_alloc | apply Kd.R_drewN | apply Kd.R_drew)); exact HO_4.out) (Kd.R_base ho64) hb)
                        have n1_ := Aside0.mk (Kd.R_elder' (by (with_reducible repeat (first | apply Kd.R_alloc | apply Kd.R_drewN | apply Kd.R_drew)); exact HO422.out) (Kd.R_base ho64) hb)
                        have n2_ := Aside0.mk (Kd.R_elder' (by (with_reducible repeat (first | apply Kd.R_alloc | apply Kd.R_drewN | apply Kd.R_drew)); exact HO426.out) (Kd.R_base ho64) hb)
                        have n3_ := Aside0.mk (Kd.R_lower (Kd.R_new' (Kd.R_new' (Kd.R_new' ho64 (Kd.R_lt (by (with_reducible repeat (first | apply Kd.R_alloc | apply Kd.R_drewN | apply Kd.R_drew)); exact HO_4.out))) (Kd.R_lt (by (with_reducible repeat (first | apply Kd.R_alloc | apply Kd.R_drewN | apply Kd.R_drew)); exact HO422.out))) (Kd.R_lt (by (with_reducible repeat (first | apply Kd.R_alloc | apply Kd.R_drewN | apply Kd.R_drew)); exact HO426.out))) (below_size (by repeat (first | (with_reducible first | exact HB.out | apply below_alloc | apply pw_below_drewN | apply below_drew1 | refine below_set ?_ GE396.out) | exact HB.out))))
                        have n4_ := Aside0.mk (blk_below (g := gb396) (o := .cells #[.int .u8 t378, .int .u8 t379, .int .u8 t380, .int .u16 t381, .int .u8 t382, .int .u8 t383, .int .u8 t384, .int .u8 t385, .int .u8 t386, .int .u8 t387, .int .u8 t388, .int .u8 t389] 25 (0, 0)) (by (with_reducible repeat (first | refine blk_drewN ?_ _ | refine blk_drew ?_ | refine blk_alloc ?_ _)); exact BK396.out) hb)
                        have n5_ := Aside0.mk (below_step (by repeat (first | (with_reducible first | exact HB.out | apply below_alloc | apply pw_below_drewN | apply below_drew1 | refine below_set ?_ GE396.out) | exact HB.out)) hb)
                        clear HO_4
                        clear HO422
                        clear HO426
                        clear BK396
                        clear HB
                        have HO_4 := n0_
                        have HO422 := n1_
                        have HO426 := n2_
                        have HO431 := n3_
                        have BK396 := n4_
                        have HB := n5_
                        clear n0_ n1_ n2_ n3_ n4_ n5_
                        clear hb ho64
                        obtain ⟨Ao65, co65, eo65⟩ := Kd.R_slice HO431.out
                        (first | subst eo65 | (injection eo65 with f1_ f2_ f3_; have f4_ := f1_.symm; have f5_ := f3_.symm; clear f1_ f2_ f3_; subst f4_; subst f5_))
                        refine hK.out _ _ ⟨(blk_cell BK396.out 0).trans rfl, (blk_cell BK396.out 1).trans rfl, (blk_cell BK396.out 2).trans rfl, (blk_cell BK396.out 3).trans rfl, (blk_cell BK396.out 4).trans rfl, (blk_cell BK396.out 5).trans rfl, (blk_cell BK396.out 6).trans rfl, (blk_cell BK396.out 7).trans rfl, (blk_cell BK396.out 8).trans rfl, (blk_cell BK396.out 9).trans rfl, (blk_cell BK396.out 10).trans rfl, (blk_cell BK396.out 11).trans rfl⟩ (fun hHeld => ?_)
                        clear hK K
                        refine norm_ (a' := ?_) ?_ ?_
                        rotate_left
                        · show Act.put _ (some 68) _ = _
                          simp only [Act.put, List.setIfInBounds_toArray, List.set_cons_zero, List.set_cons_succ, i64_w, i32_w]
                          rfl
                        refine one_ (i := 19) (N := some 69) #[true, true, true, true, true, true, true, true, true, true, true, true, true, true, true, true, true, true, true, true, false, false, false, false, false, false, false] rfl rfl (one_of HT_.out (by kernel_rfl)) (by decide) (fun K hK => ?_)
                        refine goes_ Try.func4 (by kernel_rfl) rfl #[.slice Ao65 y429.length co65] (by rfl) rfl rfl (by (try simp only [List.map_toArray, List.map_cons, List.map_nil]); first | done | rfl | (simp only [List.length_drop, List.length_take]; rfl)) ?_
                        with_reducible refine (sallyportlaw07_Net4Reads.calls k1 _ _ y429 true ⟨by first | rfl | exact hr_.out⟩ _ ?side1 ?side2 A48.out).mono ?_
                        (case side1 => repeat (first | exact (Kd.R_reads' HO431.out).2.2 | (with_reducible refine Kd.C_alloc ?_ _) | (with_reducible refine Kd.C_drewN ?_ _) | (with_reducible refine Kd.C_drew ?_)))
                        (case side2 => exact (Kd.R_reads' HO431.out).2.1)
                        rintro e w66 ⟨rfl, hb⟩
                        refine ⟨_, rfl, ?_⟩
                        have n0_ := Aside0.mk (Kd.R_below (by (with_reducible repeat (first | apply Kd.R_alloc | apply Kd.R_drewN | apply Kd.R_drew)); exact HO_4.out) hb)
                        have n1_ := Aside0.mk (Kd.R_below (by (with_reducible repeat (first | apply Kd.R_alloc | apply Kd.R_drewN | apply Kd.R_drew)); exact HO422.out) hb)
                        have n2_ := Aside0.mk (Kd.R_below (by (with_reducible repeat (first | apply Kd.R_alloc | apply Kd.R_drewN | apply Kd.R_drew)); exact HO426.out) hb)
                        have n3_ := Aside0.mk (Kd.R_below (by (with_reducible repeat (first | apply Kd.R_alloc | apply Kd.R_drewN | apply Kd.R_drew)); exact HO431.out) hb)
                        have n4_ := Aside0.mk (blk_below (g := gb396) (o := .cells #[.int .u8 t378, .int .u8 t379, .int .u8 t380, .int .u16 t381, .int .u8 t382, .int .u8 t383, .int .u8 t384, .int .u8 t385, .int .u8 t386, .int .u8 t387, .int .u8 t388, .int .u8 t389] 25 (0, 0)) (by (with_reducible repeat (first | refine blk_drewN ?_ _ | refine blk_drew ?_ | refine blk_alloc ?_ _)); exact BK396.out) hb)
                        have n5_ := Aside0.mk (below_step (by repeat (first | (with_reducible first | exact HB.out | apply below_alloc | apply pw_below_drewN | apply below_drew1 | refine below_set ?_ GE396.out) | exact HB.out)) hb)
                        clear HO_4
                        clear HO422
                        clear HO426
                        clear HO431
                        clear BK396
                        clear HB
                        have HO_4 := n0_
                        have HO422 := n1_
                        have HO426 := n2_
                        have HO431 := n3_
                        have BK396 := n4_
                        have HB := n5_
                        clear n0_ n1_ n2_ n3_ n4_ n5_
                        (try clear hb)
                        (try clear hb2)
                        (try clear hk)
                        (try clear hi)
                        refine hK.out _ _ ⟨(blk_cell BK396.out 0).trans rfl, (blk_cell BK396.out 1).trans rfl, (blk_cell BK396.out 2).trans rfl, (blk_cell BK396.out 3).trans rfl, (blk_cell BK396.out 4).trans rfl, (blk_cell BK396.out 5).trans rfl, (blk_cell BK396.out 6).trans rfl, (blk_cell BK396.out 7).trans rfl, (blk_cell BK396.out 8).trans rfl, (blk_cell BK396.out 9).trans rfl, (blk_cell BK396.out 10).trans rfl, (blk_cell BK396.out 11).trans rfl⟩ (fun hHeld => ?_)
                        clear hK K
                        refine norm_ (a' := ?_) ?_ ?_
                        rotate_left
                        · show Act.put _ (some 69) _ = _
                          simp only [Act.put, List.setIfInBounds_toArray, List.set_cons_zero, List.set_cons_succ, i64_w, i32_w]
                          rfl
                        refine pure_ (i := 20) (N := some 70) (v := ?_) (a' := ?_) #[true, true, true, true, true, true, true, true, true, true, true, true, true, true, true, true, true, true, true, true, true, false, false, false, false, false, false] rfl rfl (any_of HT_.out (by kernel_rfl)) (fun _ _ _ h => h) (Or.inl ⟨by rfl, ?_⟩) ?_ ?_
                        rotate_left
                        · intro w'
                          go_simp
                          with_reducible rfl
                        rotate_left
                        · simp only [Act.put, List.setIfInBounds_toArray, List.set_cons_zero, List.set_cons_succ, i64_w, i32_w]
                          rfl
                        refine pure_ (i := 21) (N := some 71) (v := ?_) (a' := ?_) #[true, true, true, true, true, true, true, true, true, true, true, true, true, true, true, true, true, true, true, true, true, true, false, false, false, false, false] rfl rfl (any_of HT_.out (by kernel_rfl)) (fun _ _ _ h => h) (Or.inl ⟨by rfl, ?_⟩) ?_ ?_
                        rotate_left
                        · intro w'
                          go_simp
                          with_reducible rfl
                        rotate_left
                        · simp only [Act.put, List.setIfInBounds_toArray, List.set_cons_zero, List.set_cons_succ, i64_w, i32_w]
                          rfl
                        refine take_ (i := 22) (N := some 72) (v := ?_) (a' := ?_) #[true, true, true, true, true, true, true, true, true, true, true, true, true, true, true, true, true, true, true, true, true, true, true, false, false, false, false] rfl rfl (take_ofW HT_.out HW_.out (by kernel_rfl)) (fun _ _ _ h => h) (Or.inl ⟨by rfl, ?_⟩) hHeld ?_ ?_
                        rotate_left
                        · rintro w' ⟨s0, s1, s2, s3, s4, s5, s6, s7, s8, s9, s10, s11⟩
                          go_simp
                          with_reducible rfl
                        rotate_left
                        · simp only [Act.put, List.setIfInBounds_toArray, List.set_cons_zero, List.set_cons_succ, i64_w, i32_w]
                          rfl
                        refine one_ (i := 23) (N := some 73) #[true, true, true, true, true, true, true, true, true, true, true, true, true, true, true, true, true, true, true, true, true, true, true, true, false, false, false] rfl rfl (one_of HT_.out (by kernel_rfl)) (by decide) (fun K hK => ?_)
                        refine Kd.R_make_step (Kd.int .u8) _ 5 (by rfl) (N := 73) rfl 26 _ _ rfl 2028 rfl rfl Try.underlying26 (.int .u8 0) 1 info5 rfl (by decide) (by omega) 0 (ok := fun _ => True) (okp := fun _ => True) rfl (fun _ hk => hk) trivial (by omega) (by omega) (Below.refl _ _) (Nat.le_refl _) ?_
                        intro v434 w67 ho68 hb hg_ hnew_
                        clear hg_ hnew_
                        (first | rw [← Ny433.out] at ho68 | (simp only [Int.reduceToNat] at ho68; rw [← Ny433.out] at ho68))
                        have n0_ := Aside0.mk (Kd.R_elder' (by (with_reducible repeat (first | apply Kd.R_alloc | apply Kd.R_drewN | apply Kd.R_drew)); exact HO_4.out) (Kd.R_base ho68) hb)
                        have n1_ := Aside0.mk (Kd.R_elder' (by (with_reducible repeat (first | apply Kd.R_alloc | apply Kd.R_drewN | apply Kd.R_drew)); exact HO422.out) (Kd.R_base ho68) hb)
                        have n2_ := Aside0.mk (Kd.R_elder' (by (with_reducible repeat (first | apply Kd.R_alloc | apply Kd.R_drewN | apply Kd.R_drew)); exact HO426.out) (Kd.R_base ho68) hb)
                        have n3_ := Aside0.mk (Kd.R_elder' (by (with_reducible repeat (first | apply Kd.R_alloc | apply Kd.R_drewN | apply Kd.R_drew)); exact HO431.out) (Kd.R_base ho68) hb)
                        have n4_ := Aside0.mk (Kd.R_lower (Kd.R_new' (Kd.R_new' (Kd.R_new' (Kd.R_new' ho68 (Kd.R_lt (by (with_reducible repeat (first | apply Kd.R_alloc | apply Kd.R_drewN | apply Kd.R_drew)); exact HO_4.out))) (Kd.R_lt (by (with_reducible repeat (first | apply Kd.R_alloc | apply Kd.R_drewN | apply Kd.R_drew)); exact HO422.out))) (Kd.R_lt (by (with_reducible repeat (first | apply Kd.R_alloc | apply Kd.R_drewN | apply Kd.R_drew)); exact HO426.out))) (Kd.R_lt (by (with_reducible repeat (first | apply Kd.R_alloc | apply Kd.R_drewN | apply Kd.R_drew)); exact HO431.out))) (below_size (by repeat (first | (with_reducible first | exact HB.out | apply below_alloc | apply pw_below_drewN | apply below_drew1 | refine below_set ?_ GE396.out) | exact HB.out))))
                        have n5_ := Aside0.mk (blk_below (g := gb396) (o := .cells #[.int .u8 t378, .int .u8 t379, .int .u8 t380, .int .u16 t381, .int .u8 t382, .int .u8 t383, .int .u8 t384, .int .u8 t385, .int .u8 t386, .int .u8 t387, .int .u8 t388, .int .u8 t389] 25 (0, 0)) (by (with_reducible repeat (first | refine blk_drewN ?_ _ | refine blk_drew ?_ | refine blk_alloc ?_ _)); exact BK396.out) hb)
                        have n6_ := Aside0.mk (below_step (by repeat (first | (with_reducible first | exact HB.out | apply below_alloc | apply pw_below_drewN | apply below_drew1 | refine below_set ?_ GE396.out) | exact HB.out)) hb)
                        clear HO_4
                        clear HO422
                        clear HO426
                        clear HO431
                        clear BK396
                        clear HB
                        have HO_4 := n0_
                        have HO422 := n1_
                        have HO426 := n2_
                        have HO431 := n3_
                        have HO435 := n4_
                        have BK396 := n5_
                        have HB := n6_
                        clear n0_ n1_ n2_ n3_ n4_ n5_ n6_
                        clear hb ho68
                        obtain ⟨Ao69, co69, eo69⟩ := Kd.R_slice HO435.out
                        (first | subst eo69 | (injection eo69 with f1_ f2_ f3_; have f4_ := f1_.symm; have f5_ := f3_.symm; clear f1_ f2_ f3_; subst f4_; subst f5_))
                        refine hK.out _ _ ⟨(blk_cell BK396.out 0).trans rfl, (blk_cell BK396.out 1).trans rfl, (blk_cell BK396.out 2).trans rfl, (blk_cell BK396.out 3).trans rfl, (blk_cell BK396.out 4).trans rfl, (blk_cell BK396.out 5).trans rfl, (blk_cell BK396.out 6).trans rfl, (blk_cell BK396.out 7).trans rfl, (blk_cell BK396.out 8).trans rfl, (blk_cell BK396.out 9).trans rfl, (blk_cell BK396.out 10).trans rfl, (blk_cell BK396.out 11).trans rfl⟩ (fun hHeld => ?_)
                        clear hK K
                        refine norm_ (a' := ?_) ?_ ?_
                        rotate_left
                        · show Act.put _ (some 73) _ = _
                          simp only [Act.put, List.setIfInBounds_toArray, List.set_cons_zero, List.set_cons_succ, i64_w, i32_w]
                          rfl
                        refine one_ (i := 24) (N := some 74) #[true, true, true, true, true, true, true, true, true, true, true, true, true, true, true, true, true, true, true, true, true, true, true, true, true, false, false] rfl rfl (one_of HT_.out (by kernel_rfl)) (by decide) (fun K hK => ?_)
                        refine goes_ Try.func5 (by kernel_rfl) rfl #[.agg #[.int .u8 t378, .int .u8 t379, .int .u8 t380, .int .u16 t381, .int .u8 t382, .int .u8 t383, .int .u8 t384, .int .u8 t385, .int .u8 t386, .int .u8 t387, .int .u8 t388, .int .u8 t389], .slice Ao69 y433.length co69, .slice none 0 0] (by rfl) rfl rfl (by (try simp only [List.map_toArray, List.map_cons, List.map_nil]); first | done | rfl | (simp only [List.length_drop, List.length_take]; rfl)) ?_
                        refine (sallyportlaw07_Net4Back.calls k1 t378 t379 t380 t381 t382 t383 t384 t385 t386 t387 t388 t389 _ _ y433 _ _ ([] : List Int) t436 ⟨by first | rfl | exact hr_.out⟩ _ ?side1 ?side2 ?side3 ?side4 A50.out).mono ?_
                        (case side1 => repeat (first | exact (Kd.R_reads' HO435.out).2.2 | (with_reducible refine Kd.C_alloc ?_ _) | (with_reducible refine Kd.C_drewN ?_ _) | (with_reducible refine Kd.C_drew ?_)))
                        (case side2 => exact (Kd.R_reads' HO435.out).2.1)
                        (case side3 => exact Kd.C_nil _ _)
                        (case side4 => exact Nat.le_refl _)
                        rintro e w70 ⟨rfl, hb⟩
                        refine ⟨_, rfl, ?_⟩
                        have n0_ := Aside0.mk (Kd.R_below (by (with_reducible repeat (first | apply Kd.R_alloc | apply Kd.R_drewN | apply Kd.R_drew)); exact HO_4.out) hb)
                        have n1_ := Aside0.mk (Kd.R_below (by (with_reducible repeat (first | apply Kd.R_alloc | apply Kd.R_drewN | apply Kd.R_drew)); exact HO422.out) hb)
                        have n2_ := Aside0.mk (Kd.R_below (by (with_reducible repeat (first | apply Kd.R_alloc | apply Kd.R_drewN | apply Kd.R_drew)); exact HO426.out) hb)
                        have n3_ := Aside0.mk (Kd.R_below (by (with_reducible repeat (first | apply Kd.R_alloc | apply Kd.R_drewN | apply Kd.R_drew)); exact HO431.out) hb)
                        have n4_ := Aside0.mk (Kd.R_below (by (with_reducible repeat (first | apply Kd.R_alloc | apply Kd.R_drewN | apply Kd.R_drew)); exact HO435.out) hb)
                        have n5_ := Aside0.mk (blk_below (g := gb396) (o := .cells #[.int .u8 t378, .int .u8 t379, .int .u8 t380, .int .u16 t381, .int .u8 t382, .int .u8 t383, .int .u8 t384, .int .u8 t385, .int .u8 t386, .int .u8 t387, .int .u8 t388, .int .u8 t389] 25 (0, 0)) (by (with_reducible repeat (first | refine blk_drewN ?_ _ | refine blk_drew ?_ | refine blk_alloc ?_ _)); exact BK396.out) hb)
                        have n6_ := Aside0.mk (below_step (by repeat (first | (with_reducible first | exact HB.out | apply below_alloc | apply pw_below_drewN | apply below_drew1 | refine below_set ?_ GE396.out) | exact HB.out)) hb)
                        clear HO_4
                        clear HO422
                        clear HO426
                        clear HO431
                        clear HO435
                        clear BK396
                        clear HB
                        have HO_4 := n0_
                        have HO422 := n1_
                        have HO426 := n2_
                        have HO431 := n3_
                        have HO435 := n4_
                        have BK396 := n5_
                        have HB := n6_
                        clear n0_ n1_ n2_ n3_ n4_ n5_ n6_
                        (try clear hb)
                        (try clear hb2)
                        (try clear hk)
                        (try clear hi)
                        refine hK.out _ _ ⟨(blk_cell BK396.out 0).trans rfl, (blk_cell BK396.out 1).trans rfl, (blk_cell BK396.out 2).trans rfl, (blk_cell BK396.out 3).trans rfl, (blk_cell BK396.out 4).trans rfl, (blk_cell BK396.out 5).trans rfl, (blk_cell BK396.out 6).trans rfl, (blk_cell BK396.out 7).trans rfl, (blk_cell BK396.out 8).trans rfl, (blk_cell BK396.out 9).trans rfl, (blk_cell BK396.out 10).trans rfl, (blk_cell BK396.out 11).trans rfl⟩ (fun hHeld => ?_)
                        clear hK K
                        refine norm_ (a' := ?_) ?_ ?_
                        rotate_left
                        · show Act.put _ (some 74) _ = _
                          simp only [Act.put, List.setIfInBounds_toArray, List.set_cons_zero, List.set_cons_succ, i64_w, i32_w]
                          rfl
                        refine pure_ (i := 25) (N := some 75) (v := ?_) (a' := ?_) #[true, true, true, true, true, true, true, true, true, true, true, true, true, true, true, true, true, true, true, true, true, true, true, true, true, true, false] rfl rfl (any_of HT_.out (by kernel_rfl)) (fun _ _ _ h => h) (Or.inl ⟨by rfl, ?_⟩) ?_ ?_
                        rotate_left
                        · intro w'
                          go_simp
                          with_reducible rfl
                        rotate_left
                        · simp only [Act.put, List.setIfInBounds_toArray, List.set_cons_zero, List.set_cons_succ, i64_w, i32_w]
                          rfl
                        refine pure_ (i := 26) (N := some 0) (v := ?_) (a' := ?_) #[true, true, true, true, true, true, true, true, true, true, true, true, true, true, true, true, true, true, true, true, true, true, true, true, true, true, true] rfl rfl (any_of HT_.out (by kernel_rfl)) (fun _ _ _ h => h) (Or.inl ⟨by rfl, ?_⟩) ?_ ?_
                        rotate_left
                        · intro w'
                          go_simp
                          with_reducible rfl
                        rotate_left
                        · simp only [Act.put, List.setIfInBounds_toArray, List.set_cons_zero, List.set_cons_succ, i64_w, i32_w]
                          rfl
                        refine done_ (done_of HT_.out (by kernel_rfl)) ?_
                        try go_wp2
                        go_ret
                        exact ⟨by first | rfl | (simp [errW_none, errW_some] <;> rfl) | (simp [*, errW_none, errW_some] <;> rfl), by repeat (first | (with_reducible first | exact HB.out | apply below_alloc | apply pw_below_drewN | apply below_drew1 | refine below_set ?_ GE396.out) | exact HB.out)⟩
                      · replace c49 := Bool.eq_false_iff.mpr c49
                        subst c49
                        have H1 : (some false) = some r := by rw [if_neg (show ¬ (false = true) by decide)] at H; exact H
                        clear H
                        have H := H1
                        clear H1
                        obtain rfl := Option.some.inj H
                        exact absurd hr_.out (by decide)
                    · rw [if_neg c47] at H
                      exact absurd H (by simp)
                  · replace c46 := Bool.eq_false_iff.mpr c46
                    subst c46
                    have H1 : (some false) = some r := by rw [if_neg (show ¬ (false = true) by decide)] at H; exact H
                    clear H
                    have H := H1
                    clear H1
                    obtain rfl := Option.some.inj H
                    exact absurd hr_.out (by decide)
                · replace c44 := Bool.eq_false_iff.mpr c44
                  subst c44
                  have H1 : (some false) = some r := by rw [if_neg (show ¬ (false = true) by decide)] at H; exact H
                  clear H
                  have H := H1
                  clear H1
                  obtain rfl := Option.some.inj H
                  exact absurd hr_.out (by decide)
              · rw [if_neg c42] at H
                exact absurd H (by simp)
            · replace c41 := Bool.eq_false_iff.mpr c41
              subst c41
              have H1 : (some false) = some r := by rw [if_neg (show ¬ (false = true) by decide)] at H; exact H
              clear H
              have H := H1
              clear H1
              obtain rfl := Option.some.inj H
              exact absurd hr_.out (by decide)
          · rw [if_neg c39] at H
            exact absurd H (by simp)
        · replace c38 := Bool.eq_false_iff.mpr c38
          subst c38
          have H1 : (some false) = some r := by rw [if_neg (show ¬ (false = true) by decide)] at H; exact H
          clear H
          have H := H1
          clear H1
          obtain rfl := Option.some.inj H
          exact absurd hr_.out (by decide)

/-- THE ONE PURE STATEMENT of sallyportlaw07_Net4Names: yours. -/
def sallyportlaw07_Net4Names.Pure : Prop := ∃ k, sallyportlaw07_Net4Names.f k  = some true
theorem sallyportlaw07_Net4Names.walk (P : sallyportlaw07_Net4Names.Pure)  (w : World)  :
    Calls Try.prog 7 #[] w fun e w' => e = .returned (.bool true) ∧ Below w.heap.size w w' := by
  obtain ⟨k, h⟩ := P  
  refine (sallyportlaw07_Net4Names.calls k  true ⟨rfl⟩ w h).mono ?_
  rintro e w' ⟨rfl, hd⟩
  exact ⟨rfl, hd⟩

end Go.Proofs.Ytipdajgcepefgaa.P
