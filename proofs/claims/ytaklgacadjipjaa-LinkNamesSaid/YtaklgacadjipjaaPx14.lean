/- Contracts of the functions that the statements reach, and the statements: written by a program of this repo (wip/patch_print.py); Lean checks every line; no conditions. -/
import Derived.Test.YtaklgacadjipjaaPx0
import Derived.Test.YtaklgacadjipjaaPx2
import Derived.Test.YtaklgacadjipjaaPx8
import Derived.Test.YtaklgacadjipjaaPx9
import Derived.Test.YtaklgacadjipjaaPx12
import Derived.Test.YtaklgacadjipjaaPx13
namespace Go.Proofs.Ytaklgacadjipjaa.P
open Go.RowKit Go.Proofs.YtaklgacadjipjaaW.PrintWords Go.Proofs.YtaklgacadjipjaaW.PrintLast Go.Proofs.YtaklgacadjipjaaW.PrintMore
attribute [local go_sem] max2_int min2_int max_two min_two max_three min_three max_four min_four Go.Proofs.YtaklgacadjipjaaW.Own.u16_all   -- for this text's walks alone
set_option linter.unusedVariables false
set_option linter.unusedSimpArgs false

/-! ### sallyportlaw05_LinkNames: function 7 -/
def sallyportlaw05_LinkNames.l0 : Nat → List Int → Int → Int → Int → Int → Int → Int → Int → Int → Int → Int → Int → Int → Int → Int → Option (Bool)
  | 0, _, _, _, _, _, _, _, _, _, _, _, _, _, _, _ => none
  | k + 1, x4, x5, x364000, x364001, x364002, x364003, x364004, x364005, x364006, x364007, x364008, x364009, x364010, x364011, x364012 => if x5 < (x4.length : Int) then ((sallyportref00_CopyBytes.f x4).bind fun t367 => (if 0 ≤ x5 then (if x5 < (t367.length : Int) then ((sallyportlaw05_LinkReads.f k (t367.set (x5 : Int).toNat (Go.bits .xor .u8 (rd t367 x5) 16))).bind fun t372 => (if t372 = true then (if x5 ≤ (x4.length : Int) then ((sallyportlaw05_LinkReads.f k (x4.take (x5 : Int).toNat)).bind fun t377 => (if t377 = true then ((sallyportlaw05_join.f x4 (x4.take (x5 : Int).toNat)).bind fun t382 => ((sallyportlaw05_LinkReads.f k t382).bind fun t385 => (if t385 = true then (sallyportlaw05_LinkNames.l0 k x4 (wrap64 (x5 + 1)) x364000 x364001 x364002 x364003 x364004 x364005 x364006 x364007 x364008 x364009 x364010 x364011 x364012) else (some false)))) else (some false))) else (none)) else (some false))) else (none)) else (none))) else ((sallyportlaw05_awake.f k).bind fun t386 => (if t386 = true then (if 2034 ≤ 281474976710656 then ((sallyportlaw05_LinkBytes.f k x364000 x364001 x364002 x364003 x364004 x364005 x364006 x364007 x364008 x364009 x364010 x364011 x364012 (List.replicate 2034 0)).bind fun t390 => (if t390 = true then (if 2035 ≤ 281474976710656 then ((sallyportlaw05_LinkBytes.f k x364000 x364001 x364002 x364003 x364004 x364005 x364006 x364007 x364008 x364009 x364010 x364011 x364012 (List.replicate 2035 0)).bind fun t394 => (if t394 = true then ((sallyportlaw05_LinkBytes.f k 0 0 0 0 0 0 0 0 0 0 0 0 0 ([] : List Int)).bind fun t395 => (if t395 = true then (if 70000 ≤ 281474976710656 then ((sallyportlaw05_LinkReads.f k (List.replicate 70000 0)).bind fun t399 => (if t399 = true then ((sallyportlaw05_LinkBack.f k x364000 x364001 x364002 x364003 x364004 x364005 x364006 x364007 x364008 x364009 x364010 x364011 x364012 (List.replicate 2034 0) ([] : List Int)).bind fun t403 => (some t403)) else (some false))) else (none)) else (some false))) else (some false))) else (none)) else (some false))) else (none)) else (some false)))
def sallyportlaw05_LinkNames.f (k : Nat)  : Option (Bool) := (sallyportlaw05_usual.f).bind fun bt344 => ((sallyportlaw05_join.f bt344.2.2.2.2.2.2.2.2.2.2.2.2.2.2 bt344.2.2.2.2.2.2.2.2.2.2.2.2.2.1).bind fun t364 => (sallyportlaw05_LinkNames.l0 k t364 0 bt344.1 bt344.2.1 bt344.2.2.1 bt344.2.2.2.1 bt344.2.2.2.2.1 bt344.2.2.2.2.2.1 bt344.2.2.2.2.2.2.1 bt344.2.2.2.2.2.2.2.1 bt344.2.2.2.2.2.2.2.2.1 bt344.2.2.2.2.2.2.2.2.2.1 bt344.2.2.2.2.2.2.2.2.2.2.1 bt344.2.2.2.2.2.2.2.2.2.2.2.1 bt344.2.2.2.2.2.2.2.2.2.2.2.2.1))
theorem sallyportlaw05_LinkNames.mono_l : ∀ k, (∀ y0 y1 y2 y3 y4 y5 y6 y7 y8 y9 y10 y11 y12 y13 y14, LeO (sallyportlaw05_LinkNames.l0 k y0 y1 y2 y3 y4 y5 y6 y7 y8 y9 y10 y11 y12 y13 y14) (sallyportlaw05_LinkNames.l0 (k + 1) y0 y1 y2 y3 y4 y5 y6 y7 y8 y9 y10 y11 y12 y13 y14))
  | 0 => fun _ _ _ _ _ _ _ _ _ _ _ _ _ _ _ r h => by simp [sallyportlaw05_LinkNames.l0] at h
  | k + 1 => by
    have ih0 := sallyportlaw05_LinkNames.mono_l k
    · intro y0 y1 y2 y3 y4 y5 y6 y7 y8 y9 y10 y11 y12 y13 y14
      unfold sallyportlaw05_LinkNames.l0
      repeat' first
      | (with_reducible exact ih0 _ _ _ _ _ _ _ _ _ _ _ _ _ _ _)
      | (with_reducible exact sallyportlaw05_LinkBack.mono _ _ _ _ _ _ _ _ _ _ _ _ _ _ _ _)
      | (with_reducible exact sallyportlaw05_LinkBytes.mono _ _ _ _ _ _ _ _ _ _ _ _ _ _ _)
      | (with_reducible exact sallyportlaw05_LinkReads.mono _ _)
      | (with_reducible exact sallyportlaw05_awake.mono _)
      | (with_reducible exact LeO.refl _)
      | (with_reducible exact LeO.none _)
      | (with_reducible refine LeO.ite ?_ ?_)
      | (with_reducible refine LeO.bind ?_ (fun _ => ?_))
      | exact ih0 _ _ _ _ _ _ _ _ _ _ _ _ _ _ _
      | exact sallyportlaw05_LinkBack.mono _ _ _ _ _ _ _ _ _ _ _ _ _ _ _ _
      | exact sallyportlaw05_LinkBytes.mono _ _ _ _ _ _ _ _ _ _ _ _ _ _ _
      | exact sallyportlaw05_LinkReads.mono _ _
      | exact sallyportlaw05_awake.mono _
      | exact LeO.none _
      | refine LeO.ite ?_ ?_
      | refine LeO.bind ?_ (fun _ => ?_)
theorem sallyportlaw05_LinkNames.mono : ∀ k, LeO (sallyportlaw05_LinkNames.f k ) (sallyportlaw05_LinkNames.f (k + 1) ) := by
  intro  k
  have ih0 := sallyportlaw05_LinkNames.mono_l k
  unfold sallyportlaw05_LinkNames.f
  repeat' first
      | (with_reducible exact ih0 _ _ _ _ _ _ _ _ _ _ _ _ _ _ _)
      | (with_reducible exact sallyportlaw05_LinkBack.mono _ _ _ _ _ _ _ _ _ _ _ _ _ _ _ _)
      | (with_reducible exact sallyportlaw05_LinkBytes.mono _ _ _ _ _ _ _ _ _ _ _ _ _ _ _)
      | (with_reducible exact sallyportlaw05_LinkReads.mono _ _)
      | (with_reducible exact sallyportlaw05_awake.mono _)
      | (with_reducible exact LeO.refl _)
      | (with_reducible exact LeO.none _)
      | (with_reducible refine LeO.ite ?_ ?_)
      | (with_reducible refine LeO.bind ?_ (fun _ => ?_))
      | exact ih0 _ _ _ _ _ _ _ _ _ _ _ _ _ _ _
      | exact sallyportlaw05_LinkBack.mono _ _ _ _ _ _ _ _ _ _ _ _ _ _ _ _
      | exact sallyportlaw05_LinkBytes.mono _ _ _ _ _ _ _ _ _ _ _ _ _ _ _
      | exact sallyportlaw05_LinkReads.mono _ _
      | exact sallyportlaw05_awake.mono _
      | exact LeO.none _
      | refine LeO.ite ?_ ?_
      | refine LeO.bind ?_ (fun _ => ?_)
def sallyportlaw05_LinkNames.T10 : Bool × List (List Nat × List Nat) := (true, [([], []), ([0, 0], [0]), ([0, 1], [0, 1]), ([2, 1], [2]), ([3], [3]), ([3], [3]), ([4, 5, 3, 3], [3, 4, 5]), ([3, 6], [3, 6]), ([7, 6], [7]), ([8], [8]), ([8], [8]), ([9, 10, 8, 8], [8, 9, 10]), ([8, 11], [8, 11]), ([12, 11], [12]), ([13], [13]), ([14, 13, 13], [13, 14]), ([13, 15], [13, 15]), ([16, 15], [16]), ([17], [17]), ([18, 17, 17], [17, 18]), ([17, 19], [17, 19]), ([20, 19], [20]), ([21], [21]), ([21], [21]), ([22, 23, 21, 21], [21, 22, 23]), ([21, 24], [21, 24]), ([25, 24, 0, 1, 2, 3, 4, 5, 6, 7, 8, 9, 10, 11, 12, 13, 14, 15, 16, 17, 18, 19, 20, 21, 22, 23, 24, 25], [25])])
def sallyportlaw05_LinkNames.B10 : List Nat := [0, 1, 3, 7, 15, 15, 63, 127, 255, 511, 511, 2047, 4095, 8191, 16383, 32767, 65535, 131071, 262143, 524287, 1048575, 2097151, 4194303, 4194303, 16777215, 33554431, 67108863]
theorem sallyportlaw05_LinkNames.tab10 : rtab .any (opsOf Try.f7 10) = sallyportlaw05_LinkNames.T10 := by kernel_rfl
theorem sallyportlaw05_LinkNames.bits10 : waitsOk sallyportlaw05_LinkNames.T10.2 sallyportlaw05_LinkNames.B10 = true := by kernel_rfl
set_option maxHeartbeats 8000000 in
set_option maxRecDepth 100000 in
theorem sallyportlaw05_LinkNames.calls (k : Nat)  (r : Bool) (hr_ : Aside0 (r = true)) (w : World) (h : sallyportlaw05_LinkNames.f k  = some r) :
    Calls Try.prog 7 #[] w fun e w' => e = .returned (.bool r) ∧ Below w.heap.size w w' := by
  have hu25 := Try.underlying25
  have HB := Aside0.mk (Below.refl w.heap.size w)
  have H : ((sallyportlaw05_usual.f).bind fun bt344 => ((sallyportlaw05_join.f bt344.2.2.2.2.2.2.2.2.2.2.2.2.2.2 bt344.2.2.2.2.2.2.2.2.2.2.2.2.2.1).bind fun t364 => (sallyportlaw05_LinkNames.l0 k t364 0 bt344.1 bt344.2.1 bt344.2.2.1 bt344.2.2.2.1 bt344.2.2.2.2.1 bt344.2.2.2.2.2.1 bt344.2.2.2.2.2.2.1 bt344.2.2.2.2.2.2.2.1 bt344.2.2.2.2.2.2.2.2.1 bt344.2.2.2.2.2.2.2.2.2.1 bt344.2.2.2.2.2.2.2.2.2.2.1 bt344.2.2.2.2.2.2.2.2.2.2.2.1 bt344.2.2.2.2.2.2.2.2.2.2.2.2.1))) = some r := h
  clear h
  replace H := Option.bind_eq_some_iff.mp H
  obtain ⟨⟨t344, t345, t346, t347, t348, t349, t350, t351, t352, t353, t354, t355, t356, t357, t360⟩, A10, H⟩ := H
  replace H : ((sallyportlaw05_join.f t360 t357).bind fun t364 => (sallyportlaw05_LinkNames.l0 k t364 0 t344 t345 t346 t347 t348 t349 t350 t351 t352 t353 t354 t355 t356)) = some r := H
  have A1 := Aside0.mk A10
  clear A10
  replace H := Option.bind_eq_some_iff.mp H
  obtain ⟨t364, A20, H⟩ := H
  replace H : (sallyportlaw05_LinkNames.l0 k t364 0 t344 t345 t346 t347 t348 t349 t350 t351 t352 t353 t354 t355 t356) = some r := H
  have A2 := Aside0.mk A20
  clear A20
  have H' := Aside0.mk H
  clear H
  go_enter Try.func7, Try.ntmps7
  go_wp2_with (first | ((with_reducible refine gate_callee (f := 25) rfl ?_); refine goesL_ (some 8) rfl rfl Try.func25 (by kernel_rfl) rfl #[] rfl (by (try simp only [List.map_toArray, List.map_cons, List.map_nil]); first | done | rfl | (simp only [List.length_drop, List.length_take]; rfl)) ?_; (with_reducible refine (sallyportlaw05_usual.calls  t344 t345 t346 t347 t348 t349 t350 t351 t352 t353 t354 t355 t356 t357 t360 _ A1.out).mono ?_); rintro e w3 ⟨v358, v361, rfl, ho0, ho1, hb⟩; refine ⟨_, rfl, ?_⟩; have n0_ := Aside0.mk (Kd.R_lower ho0 (below_size (by repeat (first | (with_reducible first | exact HB.out | apply below_alloc | apply pw_below_drewN | apply below_drew1) | exact HB.out)))); have n1_ := Aside0.mk (Kd.R_lower ho1 (below_size (by repeat (first | (with_reducible first | exact HB.out | apply below_alloc | apply pw_below_drewN | apply below_drew1) | exact HB.out)))); have n2_ := Aside0.mk (below_step (by repeat (first | (with_reducible first | exact HB.out | apply below_alloc | apply pw_below_drewN | apply below_drew1) | exact HB.out)) hb); clear HB; have HO359 := n0_; have HO362 := n1_; have HB := n2_; clear n0_ n1_ n2_; (try clear hb); (try clear hb2); (try clear hk); (try clear hi); (try clear ho0); (try clear ho1)) | ((with_reducible refine gate_dst (N := 1) rfl ?_); (try (refine gate_guard (by rfl) ?_; dsimp only)); refine box_event ?hg (N := 1) ?hd (cs := #[.int .u8 0, .int .u8 0, .int .u8 0, .int .u8 0, .int .u8 0, .int .u8 0, .int .u8 0, .int .u8 0, .int .u8 0, .int .u8 0, .int .u8 0, .int .u8 0, .int .u16 0]) (t := 25) ?hr ?_; (case hd => rfl); (case hg => rfl); (case hr => first | (go_simp; done) | (go_simp; rfl)); intro gb363 hg w4 hbox hb; have n0_ := Aside0.mk (Kd.R_below (by (with_reducible repeat (first | apply Kd.R_alloc | apply Kd.R_drewN | apply Kd.R_drew)); exact HO359.out) hb); have n1_ := Aside0.mk (Kd.R_below (by (with_reducible repeat (first | apply Kd.R_alloc | apply Kd.R_drewN | apply Kd.R_drew)); exact HO362.out) hb); have n2_ := Aside0.mk (below_step (by repeat (first | (with_reducible first | exact HB.out | apply below_alloc | apply pw_below_drewN | apply below_drew1) | exact HB.out)) hb); have n3_ := Aside0.mk (hbox); have n4_ := Aside0.mk ((by rw [hg]; exact (below_size (by repeat (first | (with_reducible first | exact HB.out | apply below_alloc | apply pw_below_drewN | apply below_drew1) | exact HB.out))) : w.heap.size ≤ gb363)); have n5_ := Aside0.mk ((by rw [hg]; exact (below_size (by repeat (first | (with_reducible first | exact HB.out | apply below_alloc | apply pw_below_drewN | apply below_drew1) | exact HB.out))) : w.heap.size ≤ gb363)); clear HO359; clear HO362; clear HB; have HO359 := n0_; have HO362 := n1_; have HB := n2_; have BK363 := n3_; have GW363 := n4_; have GE363 := n5_; clear n0_ n1_ n2_ n3_ n4_ n5_; clear hb hbox hg; have hcz5_0 : w4.cell? ⟨gb363, 0, none⟩ = some (.int .u8 0) := (blk_cell BK363.out 0).trans rfl; have hcz5_1 : w4.cell? ⟨gb363, 1, none⟩ = some (.int .u8 0) := (blk_cell BK363.out 1).trans rfl; have hcz5_2 : w4.cell? ⟨gb363, 2, none⟩ = some (.int .u8 0) := (blk_cell BK363.out 2).trans rfl; have hcz5_3 : w4.cell? ⟨gb363, 3, none⟩ = some (.int .u8 0) := (blk_cell BK363.out 3).trans rfl; have hcz5_4 : w4.cell? ⟨gb363, 4, none⟩ = some (.int .u8 0) := (blk_cell BK363.out 4).trans rfl; have hcz5_5 : w4.cell? ⟨gb363, 5, none⟩ = some (.int .u8 0) := (blk_cell BK363.out 5).trans rfl; have hcz5_6 : w4.cell? ⟨gb363, 6, none⟩ = some (.int .u8 0) := (blk_cell BK363.out 6).trans rfl; have hcz5_7 : w4.cell? ⟨gb363, 7, none⟩ = some (.int .u8 0) := (blk_cell BK363.out 7).trans rfl; have hcz5_8 : w4.cell? ⟨gb363, 8, none⟩ = some (.int .u8 0) := (blk_cell BK363.out 8).trans rfl; have hcz5_9 : w4.cell? ⟨gb363, 9, none⟩ = some (.int .u8 0) := (blk_cell BK363.out 9).trans rfl; have hcz5_10 : w4.cell? ⟨gb363, 10, none⟩ = some (.int .u8 0) := (blk_cell BK363.out 10).trans rfl; have hcz5_11 : w4.cell? ⟨gb363, 11, none⟩ = some (.int .u8 0) := (blk_cell BK363.out 11).trans rfl; have hcz5_12 : w4.cell? ⟨gb363, 12, none⟩ = some (.int .u16 0) := (blk_cell BK363.out 12).trans rfl; have hfz5_0 := blk_frozen BK363.out 0; have hfz5_1 := blk_frozen BK363.out 1; have hfz5_2 := blk_frozen BK363.out 2; have hfz5_3 := blk_frozen BK363.out 3; have hfz5_4 := blk_frozen BK363.out 4; have hfz5_5 := blk_frozen BK363.out 5; have hfz5_6 := blk_frozen BK363.out 6; have hfz5_7 := blk_frozen BK363.out 7; have hfz5_8 := blk_frozen BK363.out 8; have hfz5_9 := blk_frozen BK363.out 9; have hfz5_10 := blk_frozen BK363.out 10; have hfz5_11 := blk_frozen BK363.out 11; have hfz5_12 := blk_frozen BK363.out 12; obtain ⟨Ao6, co6, eo6⟩ := Kd.R_slice HO362.out; subst eo6; obtain ⟨Ao7, co7, eo7⟩ := Kd.R_slice HO359.out; subst eo7) | ((with_reducible refine gate_callee (f := 24) rfl ?_); refine goesL_ (some 14) rfl rfl Try.func24 (by kernel_rfl) rfl #[.slice Ao6 t360.length co6, .slice Ao7 t357.length co7] rfl (by (try simp only [List.map_toArray, List.map_cons, List.map_nil]); first | done | rfl | (simp only [List.length_drop, List.length_take]; rfl)) ?_; (with_reducible refine (sallyportlaw05_join.calls _ _ t360 _ _ t357 t364 _ ?side1 ?side2 ?side3 ?side4 A2.out).mono ?_); (case side1 => refine (Kd.R_reads' (e := 5) (base := w.heap.size) (ok := fun k_ => some k_ ≠ (.slice Ao7 t357.length co7 : Value).ownBlock) (n := t360.length) (c := co6) ?_).2.2; exact (by (with_reducible repeat (first | apply Kd.R_alloc | apply Kd.R_drewN | apply Kd.R_drew)); exact (Kd.R_mono (Kd.R_far (p := ⟨gb363, 12, none⟩) (Kd.R_far (p := ⟨gb363, 11, none⟩) (Kd.R_far (p := ⟨gb363, 10, none⟩) (Kd.R_far (p := ⟨gb363, 9, none⟩) (Kd.R_far (p := ⟨gb363, 8, none⟩) (Kd.R_far (p := ⟨gb363, 7, none⟩) (Kd.R_far (p := ⟨gb363, 6, none⟩) (Kd.R_far (p := ⟨gb363, 5, none⟩) (Kd.R_far (p := ⟨gb363, 4, none⟩) (Kd.R_far (p := ⟨gb363, 3, none⟩) (Kd.R_far (p := ⟨gb363, 2, none⟩) (Kd.R_far (p := ⟨gb363, 1, none⟩) (Kd.R_far (p := ⟨gb363, 0, none⟩) (Kd.R_types HO362.out BK363.out (by decide)) (fun _ hk => hk.2) (.int .u8 t344)) (fun _ hk => hk.2) (.int .u8 t345)) (fun _ hk => hk.2) (.int .u8 t346)) (fun _ hk => hk.2) (.int .u8 t347)) (fun _ hk => hk.2) (.int .u8 t348)) (fun _ hk => hk.2) (.int .u8 t349)) (fun _ hk => hk.2) (.int .u8 t350)) (fun _ hk => hk.2) (.int .u8 t351)) (fun _ hk => hk.2) (.int .u8 t352)) (fun _ hk => hk.2) (.int .u8 t353)) (fun _ hk => hk.2) (.int .u8 t354)) (fun _ hk => hk.2) (.int .u8 t355)) (fun _ hk => hk.2) (.int .u16 t356)) (fun _ h_ => h_.1)))); (case side2 => exact (Kd.R_reads' HO362.out).2.1); (case side3 => refine (Kd.R_reads' (e := 5) (base := w.heap.size) (ok := fun k_ => some k_ ≠ (.slice Ao6 t360.length co6 : Value).ownBlock) (n := t357.length) (c := co7) ?_).2.2; exact (by (with_reducible repeat (first | apply Kd.R_alloc | apply Kd.R_drewN | apply Kd.R_drew)); exact (Kd.R_mono (Kd.R_far (p := ⟨gb363, 12, none⟩) (Kd.R_far (p := ⟨gb363, 11, none⟩) (Kd.R_far (p := ⟨gb363, 10, none⟩) (Kd.R_far (p := ⟨gb363, 9, none⟩) (Kd.R_far (p := ⟨gb363, 8, none⟩) (Kd.R_far (p := ⟨gb363, 7, none⟩) (Kd.R_far (p := ⟨gb363, 6, none⟩) (Kd.R_far (p := ⟨gb363, 5, none⟩) (Kd.R_far (p := ⟨gb363, 4, none⟩) (Kd.R_far (p := ⟨gb363, 3, none⟩) (Kd.R_far (p := ⟨gb363, 2, none⟩) (Kd.R_far (p := ⟨gb363, 1, none⟩) (Kd.R_far (p := ⟨gb363, 0, none⟩) (Kd.R_types HO359.out BK363.out (by decide)) (fun _ hk => hk.2) (.int .u8 t344)) (fun _ hk => hk.2) (.int .u8 t345)) (fun _ hk => hk.2) (.int .u8 t346)) (fun _ hk => hk.2) (.int .u8 t347)) (fun _ hk => hk.2) (.int .u8 t348)) (fun _ hk => hk.2) (.int .u8 t349)) (fun _ hk => hk.2) (.int .u8 t350)) (fun _ hk => hk.2) (.int .u8 t351)) (fun _ hk => hk.2) (.int .u8 t352)) (fun _ hk => hk.2) (.int .u8 t353)) (fun _ hk => hk.2) (.int .u8 t354)) (fun _ hk => hk.2) (.int .u8 t355)) (fun _ hk => hk.2) (.int .u16 t356)) (fun _ h_ => h_.1)))); (case side4 => exact (Kd.R_reads' HO359.out).2.1); rintro e w8 ⟨v365, rfl, ho0, hb⟩; refine ⟨_, rfl, ?_⟩; have n0_ := Aside0.mk (Kd.R_elder' (by (with_reducible repeat (first | apply Kd.R_alloc | apply Kd.R_drewN | apply Kd.R_drew)); exact (Kd.R_mono (Kd.R_far (p := ⟨gb363, 12, none⟩) (Kd.R_far (p := ⟨gb363, 11, none⟩) (Kd.R_far (p := ⟨gb363, 10, none⟩) (Kd.R_far (p := ⟨gb363, 9, none⟩) (Kd.R_far (p := ⟨gb363, 8, none⟩) (Kd.R_far (p := ⟨gb363, 7, none⟩) (Kd.R_far (p := ⟨gb363, 6, none⟩) (Kd.R_far (p := ⟨gb363, 5, none⟩) (Kd.R_far (p := ⟨gb363, 4, none⟩) (Kd.R_far (p := ⟨gb363, 3, none⟩) (Kd.R_far (p := ⟨gb363, 2, none⟩) (Kd.R_far (p := ⟨gb363, 1, none⟩) (Kd.R_far (p := ⟨gb363, 0, none⟩) (Kd.R_types HO359.out BK363.out (by decide)) (fun _ hk => hk.2) (.int .u8 t344)) (fun _ hk => hk.2) (.int .u8 t345)) (fun _ hk => hk.2) (.int .u8 t346)) (fun _ hk => hk.2) (.int .u8 t347)) (fun _ hk => hk.2) (.int .u8 t348)) (fun _ hk => hk.2) (.int .u8 t349)) (fun _ hk => hk.2) (.int .u8 t350)) (fun _ hk => hk.2) (.int .u8 t351)) (fun _ hk => hk.2) (.int .u8 t352)) (fun _ hk => hk.2) (.int .u8 t353)) (fun _ hk => hk.2) (.int .u8 t354)) (fun _ hk => hk.2) (.int .u8 t355)) (fun _ hk => hk.2) (.int .u16 t356)) (fun _ h_ => h_.1))) (Kd.R_base ho0) hb); have n1_ := Aside0.mk (Kd.R_elder' (by (with_reducible repeat (first | apply Kd.R_alloc | apply Kd.R_drewN | apply Kd.R_drew)); exact (Kd.R_mono (Kd.R_far (p := ⟨gb363, 12, none⟩) (Kd.R_far (p := ⟨gb363, 11, none⟩) (Kd.R_far (p := ⟨gb363, 10, none⟩) (Kd.R_far (p := ⟨gb363, 9, none⟩) (Kd.R_far (p := ⟨gb363, 8, none⟩) (Kd.R_far (p := ⟨gb363, 7, none⟩) (Kd.R_far (p := ⟨gb363, 6, none⟩) (Kd.R_far (p := ⟨gb363, 5, none⟩) (Kd.R_far (p := ⟨gb363, 4, none⟩) (Kd.R_far (p := ⟨gb363, 3, none⟩) (Kd.R_far (p := ⟨gb363, 2, none⟩) (Kd.R_far (p := ⟨gb363, 1, none⟩) (Kd.R_far (p := ⟨gb363, 0, none⟩) (Kd.R_types HO362.out BK363.out (by decide)) (fun _ hk => hk.2) (.int .u8 t344)) (fun _ hk => hk.2) (.int .u8 t345)) (fun _ hk => hk.2) (.int .u8 t346)) (fun _ hk => hk.2) (.int .u8 t347)) (fun _ hk => hk.2) (.int .u8 t348)) (fun _ hk => hk.2) (.int .u8 t349)) (fun _ hk => hk.2) (.int .u8 t350)) (fun _ hk => hk.2) (.int .u8 t351)) (fun _ hk => hk.2) (.int .u8 t352)) (fun _ hk => hk.2) (.int .u8 t353)) (fun _ hk => hk.2) (.int .u8 t354)) (fun _ hk => hk.2) (.int .u8 t355)) (fun _ hk => hk.2) (.int .u16 t356)) (fun _ h_ => h_.1))) (Kd.R_base ho0) hb); have n2_ := Aside0.mk (Kd.R_lower (Kd.R_new' (Kd.R_new' ho0 (Kd.R_lt (by (with_reducible repeat (first | apply Kd.R_alloc | apply Kd.R_drewN | apply Kd.R_drew)); exact (Kd.R_mono (Kd.R_far (p := ⟨gb363, 12, none⟩) (Kd.R_far (p := ⟨gb363, 11, none⟩) (Kd.R_far (p := ⟨gb363, 10, none⟩) (Kd.R_far (p := ⟨gb363, 9, none⟩) (Kd.R_far (p := ⟨gb363, 8, none⟩) (Kd.R_far (p := ⟨gb363, 7, none⟩) (Kd.R_far (p := ⟨gb363, 6, none⟩) (Kd.R_far (p := ⟨gb363, 5, none⟩) (Kd.R_far (p := ⟨gb363, 4, none⟩) (Kd.R_far (p := ⟨gb363, 3, none⟩) (Kd.R_far (p := ⟨gb363, 2, none⟩) (Kd.R_far (p := ⟨gb363, 1, none⟩) (Kd.R_far (p := ⟨gb363, 0, none⟩) (Kd.R_types HO359.out BK363.out (by decide)) (fun _ hk => hk.2) (.int .u8 t344)) (fun _ hk => hk.2) (.int .u8 t345)) (fun _ hk => hk.2) (.int .u8 t346)) (fun _ hk => hk.2) (.int .u8 t347)) (fun _ hk => hk.2) (.int .u8 t348)) (fun _ hk => hk.2) (.int .u8 t349)) (fun _ hk => hk.2) (.int .u8 t350)) (fun _ hk => hk.2) (.int .u8 t351)) (fun _ hk => hk.2) (.int .u8 t352)) (fun _ hk => hk.2) (.int .u8 t353)) (fun _ hk => hk.2) (.int .u8 t354)) (fun _ hk => hk.2) (.int .u8 t355)) (fun _ hk => hk.2) (.int .u16 t356)) (fun _ h_ => h_.1))))) (Kd.R_lt (by (with_reducible repeat (first | apply Kd.R_alloc | apply Kd.R_drewN | apply Kd.R_drew)); exact (Kd.R_mono (Kd.R_far (p := ⟨gb363, 12, none⟩) (Kd.R_far (p := ⟨gb363, 11, none⟩) (Kd.R_far (p := ⟨gb363, 10, none⟩) (Kd.R_far (p := ⟨gb363, 9, none⟩) (Kd.R_far (p := ⟨gb363, 8, none⟩) (Kd.R_far (p := ⟨gb363, 7, none⟩) (Kd.R_far (p := ⟨gb363, 6, none⟩) (Kd.R_far (p := ⟨gb363, 5, none⟩) (Kd.R_far (p := ⟨gb363, 4, none⟩) (Kd.R_far (p := ⟨gb363, 3, none⟩) (Kd.R_far (p := ⟨gb363, 2, none⟩) (Kd.R_far (p := ⟨gb363, 1, none⟩) (Kd.R_far (p := ⟨gb363, 0, none⟩) (Kd.R_types HO362.out BK363.out (by decide)) (fun _ hk => hk.2) (.int .u8 t344)) (fun _ hk => hk.2) (.int .u8 t345)) (fun _ hk => hk.2) (.int .u8 t346)) (fun _ hk => hk.2) (.int .u8 t347)) (fun _ hk => hk.2) (.int .u8 t348)) (fun _ hk => hk.2) (.int .u8 t349)) (fun _ hk => hk.2) (.int .u8 t350)) (fun _ hk => hk.2) (.int .u8 t351)) (fun _ hk => hk.2) (.int .u8 t352)) (fun _ hk => hk.2) (.int .u8 t353)) (fun _ hk => hk.2) (.int .u8 t354)) (fun _ hk => hk.2) (.int .u8 t355)) (fun _ hk => hk.2) (.int .u16 t356)) (fun _ h_ => h_.1))))) (below_size (by repeat (first | (with_reducible first | exact HB.out | apply below_alloc | apply pw_below_drewN | apply below_drew1 | refine below_set ?_ GE363.out) | exact HB.out)))); have n3_ := Aside0.mk (blk_below (g := gb363) (o := .cells #[.int .u8 t344, .int .u8 t345, .int .u8 t346, .int .u8 t347, .int .u8 t348, .int .u8 t349, .int .u8 t350, .int .u8 t351, .int .u8 t352, .int .u8 t353, .int .u8 t354, .int .u8 t355, .int .u16 t356] 25 (0, 0)) (by (with_reducible repeat (first | refine blk_drewN ?_ _ | refine blk_drew ?_ | refine blk_alloc ?_ _)); refine blk_put (cs := #[.int .u8 t344, .int .u8 t345, .int .u8 t346, .int .u8 t347, .int .u8 t348, .int .u8 t349, .int .u8 t350, .int .u8 t351, .int .u8 t352, .int .u8 t353, .int .u8 t354, .int .u8 t355, .int .u16 0]) ?_ 12 _ rfl; (with_reducible repeat (first | refine blk_drewN ?_ _ | refine blk_drew ?_ | refine blk_alloc ?_ _)); refine blk_put (cs := #[.int .u8 t344, .int .u8 t345, .int .u8 t346, .int .u8 t347, .int .u8 t348, .int .u8 t349, .int .u8 t350, .int .u8 t351, .int .u8 t352, .int .u8 t353, .int .u8 t354, .int .u8 0, .int .u16 0]) ?_ 11 _ rfl; (with_reducible repeat (first | refine blk_drewN ?_ _ | refine blk_drew ?_ | refine blk_alloc ?_ _)); refine blk_put (cs := #[.int .u8 t344, .int .u8 t345, .int .u8 t346, .int .u8 t347, .int .u8 t348, .int .u8 t349, .int .u8 t350, .int .u8 t351, .int .u8 t352, .int .u8 t353, .int .u8 0, .int .u8 0, .int .u16 0]) ?_ 10 _ rfl; (with_reducible repeat (first | refine blk_drewN ?_ _ | refine blk_drew ?_ | refine blk_alloc ?_ _)); refine blk_put (cs := #[.int .u8 t344, .int .u8 t345, .int .u8 t346, .int .u8 t347, .int .u8 t348, .int .u8 t349, .int .u8 t350, .int .u8 t351, .int .u8 t352, .int .u8 0, .int .u8 0, .int .u8 0, .int .u16 0]) ?_ 9 _ rfl; (with_reducible repeat (first | refine blk_drewN ?_ _ | refine blk_drew ?_ | refine blk_alloc ?_ _)); refine blk_put (cs := #[.int .u8 t344, .int .u8 t345, .int .u8 t346, .int .u8 t347, .int .u8 t348, .int .u8 t349, .int .u8 t350, .int .u8 t351, .int .u8 0, .int .u8 0, .int .u8 0, .int .u8 0, .int .u16 0]) ?_ 8 _ rfl; (with_reducible repeat (first | refine blk_drewN ?_ _ | refine blk_drew ?_ | refine blk_alloc ?_ _)); refine blk_put (cs := #[.int .u8 t344, .int .u8 t345, .int .u8 t346, .int .u8 t347, .int .u8 t348, .int .u8 t349, .int .u8 t350, .int .u8 0, .int .u8 0, .int .u8 0, .int .u8 0, .int .u8 0, .int .u16 0]) ?_ 7 _ rfl; (with_reducible repeat (first | refine blk_drewN ?_ _ | refine blk_drew ?_ | refine blk_alloc ?_ _)); refine blk_put (cs := #[.int .u8 t344, .int .u8 t345, .int .u8 t346, .int .u8 t347, .int .u8 t348, .int .u8 t349, .int .u8 0, .int .u8 0, .int .u8 0, .int .u8 0, .int .u8 0, .int .u8 0, .int .u16 0]) ?_ 6 _ rfl; (with_reducible repeat (first | refine blk_drewN ?_ _ | refine blk_drew ?_ | refine blk_alloc ?_ _)); refine blk_put (cs := #[.int .u8 t344, .int .u8 t345, .int .u8 t346, .int .u8 t347, .int .u8 t348, .int .u8 0, .int .u8 0, .int .u8 0, .int .u8 0, .int .u8 0, .int .u8 0, .int .u8 0, .int .u16 0]) ?_ 5 _ rfl; (with_reducible repeat (first | refine blk_drewN ?_ _ | refine blk_drew ?_ | refine blk_alloc ?_ _)); refine blk_put (cs := #[.int .u8 t344, .int .u8 t345, .int .u8 t346, .int .u8 t347, .int .u8 0, .int .u8 0, .int .u8 0, .int .u8 0, .int .u8 0, .int .u8 0, .int .u8 0, .int .u8 0, .int .u16 0]) ?_ 4 _ rfl; (with_reducible repeat (first | refine blk_drewN ?_ _ | refine blk_drew ?_ | refine blk_alloc ?_ _)); refine blk_put (cs := #[.int .u8 t344, .int .u8 t345, .int .u8 t346, .int .u8 0, .int .u8 0, .int .u8 0, .int .u8 0, .int .u8 0, .int .u8 0, .int .u8 0, .int .u8 0, .int .u8 0, .int .u16 0]) ?_ 3 _ rfl; (with_reducible repeat (first | refine blk_drewN ?_ _ | refine blk_drew ?_ | refine blk_alloc ?_ _)); refine blk_put (cs := #[.int .u8 t344, .int .u8 t345, .int .u8 0, .int .u8 0, .int .u8 0, .int .u8 0, .int .u8 0, .int .u8 0, .int .u8 0, .int .u8 0, .int .u8 0, .int .u8 0, .int .u16 0]) ?_ 2 _ rfl; (with_reducible repeat (first | refine blk_drewN ?_ _ | refine blk_drew ?_ | refine blk_alloc ?_ _)); refine blk_put (cs := #[.int .u8 t344, .int .u8 0, .int .u8 0, .int .u8 0, .int .u8 0, .int .u8 0, .int .u8 0, .int .u8 0, .int .u8 0, .int .u8 0, .int .u8 0, .int .u8 0, .int .u16 0]) ?_ 1 _ rfl; (with_reducible repeat (first | refine blk_drewN ?_ _ | refine blk_drew ?_ | refine blk_alloc ?_ _)); refine blk_put (cs := #[.int .u8 0, .int .u8 0, .int .u8 0, .int .u8 0, .int .u8 0, .int .u8 0, .int .u8 0, .int .u8 0, .int .u8 0, .int .u8 0, .int .u8 0, .int .u8 0, .int .u16 0]) ?_ 0 _ rfl; (with_reducible repeat (first | refine blk_drewN ?_ _ | refine blk_drew ?_ | refine blk_alloc ?_ _)); exact BK363.out) hb); have n4_ := Aside0.mk (below_step (by repeat (first | (with_reducible first | exact HB.out | apply below_alloc | apply pw_below_drewN | apply below_drew1 | refine below_set ?_ GE363.out) | exact HB.out)) hb); clear HO359; clear HO362; clear BK363; clear HB; have HO359 := n0_; have HO362 := n1_; have HO366 := n2_; have BK363 := n3_; have HB := n4_; clear n0_ n1_ n2_ n3_ n4_; (try clear hb); (try clear hb2); (try clear hk); (try clear hi); (try clear ho0)))
  go_loopg [5] k (fun kq v5 w' => ∃ (x4_1 : List Int) (x5_1 : Int), v5 = .int .i64 x5_1 ∧ Aside0 (sallyportlaw05_LinkNames.l0 kq x4_1 x5_1 t344 t345 t346 t347 t348 t349 t350 t351 t352 t353 t354 t355 t356 = some r) ∧ Aside0 (kq ≤ k) ∧ Aside0 (Kd.R (Kd.int .u8) 5 w' w.heap.size (fun _ => True) v365 x4_1) ∧ Aside0 (w'.heap[gb363]? = some (.cells #[.int .u8 t344, .int .u8 t345, .int .u8 t346, .int .u8 t347, .int .u8 t348, .int .u8 t349, .int .u8 t350, .int .u8 t351, .int .u8 t352, .int .u8 t353, .int .u8 t354, .int .u8 t355, .int .u16 t356] 25 (0, 0))) ∧ Aside0 (Below w.heap.size w w'))
  case atStart => exact ⟨(t364), (0), (by first | rfl | (simp; done) | (simp [*]; done)), H', ⟨Nat.le_refl _⟩, ⟨by (with_reducible repeat (first | apply Kd.R_alloc | apply Kd.R_drewN | apply Kd.R_drew)); exact Kd.R_mono HO366.out (fun _ hk => trivial)⟩, ⟨by (with_reducible repeat (first | refine blk_drewN ?_ _ | refine blk_drew ?_ | refine blk_alloc ?_ _)); exact BK363.out⟩, ⟨by repeat (first | (with_reducible first | exact HB.out | apply below_alloc | apply pw_below_drewN | apply below_drew1 | refine below_set ?_ GE363.out) | exact HB.out)⟩⟩
  case round =>
    clear H'
    try clear c2
    try clear p2
    try clear c7
    try clear hcz5_0
    try clear hcz5_1
    try clear hcz5_10
    try clear hcz5_11
    try clear hcz5_12
    try clear hcz5_2
    try clear hcz5_3
    try clear hcz5_4
    try clear hcz5_5
    try clear hcz5_6
    try clear hcz5_7
    try clear hcz5_8
    try clear hcz5_9
    try clear hfz5_0
    try clear hfz5_1
    try clear hfz5_10
    try clear hfz5_11
    try clear hfz5_12
    try clear hfz5_2
    try clear hfz5_3
    try clear hfz5_4
    try clear hfz5_5
    try clear hfz5_6
    try clear hfz5_7
    try clear hfz5_8
    try clear hfz5_9
    obtain ⟨x4_1, x5_1, rfl, HA, HK1, HO_4, BK363, HB⟩ := hrel
    cases gk with
    | zero => exact absurd HA.out (by simp [sallyportlaw05_LinkNames.l0])
    | succ k1 =>
      have H := HA.out
      clear HA
      simp only [sallyportlaw05_LinkNames.l0] at H
      by_cases c9 : x5_1 < (x4_1.length : Int)
      · rw [if_pos c9] at H
        have c9b0 : decide (x5_1 < (x4_1.length : Int)) = true := decide_eq_true c9
        clear c9
        replace H := Option.bind_eq_some_iff.mp H
        obtain ⟨t367, A100, H⟩ := H
        replace H : (if 0 ≤ x5_1 then (if x5_1 < (t367.length : Int) then ((sallyportlaw05_LinkReads.f k1 (t367.set (x5_1 : Int).toNat (Go.bits .xor .u8 (rd t367 x5_1) 16))).bind fun t372 => (if t372 = true then (if x5_1 ≤ (x4_1.length : Int) then ((sallyportlaw05_LinkReads.f k1 (x4_1.take (x5_1 : Int).toNat)).bind fun t377 => (if t377 = true then ((sallyportlaw05_join.f x4_1 (x4_1.take (x5_1 : Int).toNat)).bind fun t382 => ((sallyportlaw05_LinkReads.f k1 t382).bind fun t385 => (if t385 = true then (sallyportlaw05_LinkNames.l0 k1 x4_1 (wrap64 (x5_1 + 1)) t344 t345 t346 t347 t348 t349 t350 t351 t352 t353 t354 t355 t356) else (some false)))) else (some false))) else (none)) else (some false))) else (none)) else (none)) = some r := H
        have A10 := Aside0.mk A100
        clear A100
        by_cases c11 : 0 ≤ x5_1
        · rw [if_pos c11] at H
          have c11b0 : decide (0 ≤ x5_1) = true := decide_eq_true c11
          clear c11
          by_cases c12 : x5_1 < (t367.length : Int)
          · rw [if_pos c12] at H
            have c12b0 : decide (x5_1 < (t367.length : Int)) = true := decide_eq_true c12
            clear c12
            obtain ⟨y371, hy371⟩ : ∃ y_ : List Int, y_ = (t367.set (x5_1 : Int).toNat (Go.bits .xor .u8 (rd t367 x5_1) 16)) := ⟨_, rfl⟩
            replace H : ((sallyportlaw05_LinkReads.f k1 y371).bind fun t372 => (if t372 = true then (if x5_1 ≤ (x4_1.length : Int) then ((sallyportlaw05_LinkReads.f k1 (x4_1.take (x5_1 : Int).toNat)).bind fun t377 => (if t377 = true then ((sallyportlaw05_join.f x4_1 (x4_1.take (x5_1 : Int).toNat)).bind fun t382 => ((sallyportlaw05_LinkReads.f k1 t382).bind fun t385 => (if t385 = true then (sallyportlaw05_LinkNames.l0 k1 x4_1 (wrap64 (x5_1 + 1)) t344 t345 t346 t347 t348 t349 t350 t351 t352 t353 t354 t355 t356) else (some false)))) else (some false))) else (none)) else (some false))) = some r := by first | (rw [hy371]; with_reducible exact H) | (have H2_ := (Option.bind_some _ _).symm.trans H; rw [hy371]; with_reducible exact H2_) | (have H2_ := (Option.bind_some _ _).symm.trans H; with_reducible exact H2_) | with_reducible exact H | (rw [hy371]; exact H) | exact H
            have Ny371 := Aside0.mk hy371
            clear hy371
            replace H := Option.bind_eq_some_iff.mp H
            obtain ⟨t372, A140, H⟩ := H
            replace H : (if t372 = true then (if x5_1 ≤ (x4_1.length : Int) then ((sallyportlaw05_LinkReads.f k1 (x4_1.take (x5_1 : Int).toNat)).bind fun t377 => (if t377 = true then ((sallyportlaw05_join.f x4_1 (x4_1.take (x5_1 : Int).toNat)).bind fun t382 => ((sallyportlaw05_LinkReads.f k1 t382).bind fun t385 => (if t385 = true then (sallyportlaw05_LinkNames.l0 k1 x4_1 (wrap64 (x5_1 + 1)) t344 t345 t346 t347 t348 t349 t350 t351 t352 t353 t354 t355 t356) else (some false)))) else (some false))) else (none)) else (some false)) = some r := H
            have A14 := Aside0.mk A140
            clear A140
            by_cases c15 : t372 = true
            · subst c15
              have H1 : (if x5_1 ≤ (x4_1.length : Int) then ((sallyportlaw05_LinkReads.f k1 (x4_1.take (x5_1 : Int).toNat)).bind fun t377 => (if t377 = true then ((sallyportlaw05_join.f x4_1 (x4_1.take (x5_1 : Int).toNat)).bind fun t382 => ((sallyportlaw05_LinkReads.f k1 t382).bind fun t385 => (if t385 = true then (sallyportlaw05_LinkNames.l0 k1 x4_1 (wrap64 (x5_1 + 1)) t344 t345 t346 t347 t348 t349 t350 t351 t352 t353 t354 t355 t356) else (some false)))) else (some false))) else (none)) = some r := by rw [if_pos rfl] at H; exact H
              clear H
              have H := H1
              clear H1
              have c16b0 := eq_true (of_decide_eq_true (by first | (with_reducible assumption) | assumption) : 0 ≤ x5_1)
              by_cases c17 : x5_1 ≤ (x4_1.length : Int)
              · rw [if_pos c17] at H
                have c17b0 := eq_true c17
                have c17b1 : decide (x5_1 ≤ (x4_1.length : Int)) = true := decide_eq_true c17
                clear c17
                obtain ⟨y373, hy373⟩ : ∃ y_ : List Int, y_ = (x4_1.take (x5_1 : Int).toNat) := ⟨_, rfl⟩
                replace H : ((sallyportlaw05_LinkReads.f k1 y373).bind fun t377 => (if t377 = true then ((sallyportlaw05_join.f x4_1 (x4_1.take (x5_1 : Int).toNat)).bind fun t382 => ((sallyportlaw05_LinkReads.f k1 t382).bind fun t385 => (if t385 = true then (sallyportlaw05_LinkNames.l0 k1 x4_1 (wrap64 (x5_1 + 1)) t344 t345 t346 t347 t348 t349 t350 t351 t352 t353 t354 t355 t356) else (some false)))) else (some false))) = some r := by first | (rw [hy373]; with_reducible exact H) | (have H2_ := (Option.bind_some _ _).symm.trans H; rw [hy373]; with_reducible exact H2_) | (have H2_ := (Option.bind_some _ _).symm.trans H; with_reducible exact H2_) | with_reducible exact H | (rw [hy373]; exact H) | exact H
                have Ny373 := Aside0.mk hy373
                clear hy373
                replace H := Option.bind_eq_some_iff.mp H
                obtain ⟨t377, A180, H⟩ := H
                replace H : (if t377 = true then ((sallyportlaw05_join.f x4_1 (x4_1.take (x5_1 : Int).toNat)).bind fun t382 => ((sallyportlaw05_LinkReads.f k1 t382).bind fun t385 => (if t385 = true then (sallyportlaw05_LinkNames.l0 k1 x4_1 (wrap64 (x5_1 + 1)) t344 t345 t346 t347 t348 t349 t350 t351 t352 t353 t354 t355 t356) else (some false)))) else (some false)) = some r := H
                have A18 := Aside0.mk A180
                clear A180
                by_cases c19 : t377 = true
                · subst c19
                  have H1 : ((sallyportlaw05_join.f x4_1 (x4_1.take (x5_1 : Int).toNat)).bind fun t382 => ((sallyportlaw05_LinkReads.f k1 t382).bind fun t385 => (if t385 = true then (sallyportlaw05_LinkNames.l0 k1 x4_1 (wrap64 (x5_1 + 1)) t344 t345 t346 t347 t348 t349 t350 t351 t352 t353 t354 t355 t356) else (some false)))) = some r := by rw [if_pos rfl] at H; exact H
                  clear H
                  have H := H1
                  clear H1
                  have c20b0 := eq_true (of_decide_eq_true (by first | (with_reducible assumption) | assumption) : 0 ≤ x5_1)
                  have c21b0 := eq_true (of_decide_eq_true (by first | (with_reducible assumption) | assumption) : x5_1 ≤ (x4_1.length : Int))
                  have hy378 := Ny373.out
                  replace H : ((sallyportlaw05_join.f x4_1 y373).bind fun t382 => ((sallyportlaw05_LinkReads.f k1 t382).bind fun t385 => (if t385 = true then (sallyportlaw05_LinkNames.l0 k1 x4_1 (wrap64 (x5_1 + 1)) t344 t345 t346 t347 t348 t349 t350 t351 t352 t353 t354 t355 t356) else (some false)))) = some r := by first | (rw [hy378]; with_reducible exact H) | (have H2_ := (Option.bind_some _ _).symm.trans H; rw [hy378]; with_reducible exact H2_) | (have H2_ := (Option.bind_some _ _).symm.trans H; with_reducible exact H2_) | with_reducible exact H | (rw [hy378]; exact H) | exact H
                  have Ny378 := Aside0.mk hy378
                  clear hy378
                  replace H := Option.bind_eq_some_iff.mp H
                  obtain ⟨t382, A220, H⟩ := H
                  replace H : ((sallyportlaw05_LinkReads.f k1 t382).bind fun t385 => (if t385 = true then (sallyportlaw05_LinkNames.l0 k1 x4_1 (wrap64 (x5_1 + 1)) t344 t345 t346 t347 t348 t349 t350 t351 t352 t353 t354 t355 t356) else (some false))) = some r := H
                  have A22 := Aside0.mk A220
                  clear A220
                  replace H := Option.bind_eq_some_iff.mp H
                  obtain ⟨t385, A230, H⟩ := H
                  replace H : (if t385 = true then (sallyportlaw05_LinkNames.l0 k1 x4_1 (wrap64 (x5_1 + 1)) t344 t345 t346 t347 t348 t349 t350 t351 t352 t353 t354 t355 t356) else (some false)) = some r := H
                  have A23 := Aside0.mk A230
                  clear A230
                  by_cases c24 : t385 = true
                  · subst c24
                    have H1 : (sallyportlaw05_LinkNames.l0 k1 x4_1 (wrap64 (x5_1 + 1)) t344 t345 t346 t347 t348 t349 t350 t351 t352 t353 t354 t355 t356) = some r := by rw [if_pos rfl] at H; exact H
                    clear H
                    have H := H1
                    clear H1
                    have H' := Aside0.mk H
                    clear H
                    obtain ⟨Ao25, co25, eo25⟩ := Kd.R_slice HO_4.out
                    subst eo25
                    go_wp2_with (first | ((with_reducible refine gate_callee (f := 13) rfl ?_); refine goesL_ (some 22) rfl rfl Try.func13 (by kernel_rfl) rfl #[.slice Ao25 x4_1.length co25] rfl (by (try simp only [List.map_toArray, List.map_cons, List.map_nil]); first | done | rfl | (simp only [List.length_drop, List.length_take]; rfl)) ?_; (with_reducible refine (sallyportref00_CopyBytes.calls _ _ x4_1 t367 _ ?side1 ?side2 A10.out).mono ?_); (case side1 => repeat (first | exact (Kd.R_reads' HO_4.out).2.2 | (with_reducible refine Kd.C_alloc ?_ _) | (with_reducible refine Kd.C_drewN ?_ _) | (with_reducible refine Kd.C_drew ?_))); (case side2 => exact (Kd.R_reads' HO_4.out).2.1); rintro e w26 ⟨v368, rfl, ho0, hb⟩; refine ⟨_, rfl, ?_⟩; have n0_ := Aside0.mk (Kd.R_elder' (by (with_reducible repeat (first | apply Kd.R_alloc | apply Kd.R_drewN | apply Kd.R_drew)); exact HO_4.out) (Kd.R_base ho0) hb); have n1_ := Aside0.mk (Kd.R_lower (Kd.R_new' ho0 (Kd.R_lt (by (with_reducible repeat (first | apply Kd.R_alloc | apply Kd.R_drewN | apply Kd.R_drew)); exact HO_4.out))) (below_size (by repeat (first | (with_reducible first | exact HB.out | apply below_alloc | apply pw_below_drewN | apply below_drew1 | refine below_set ?_ GE363.out) | exact HB.out)))); have n2_ := Aside0.mk (blk_below (g := gb363) (o := .cells #[.int .u8 t344, .int .u8 t345, .int .u8 t346, .int .u8 t347, .int .u8 t348, .int .u8 t349, .int .u8 t350, .int .u8 t351, .int .u8 t352, .int .u8 t353, .int .u8 t354, .int .u8 t355, .int .u16 t356] 25 (0, 0)) (by (with_reducible repeat (first | refine blk_drewN ?_ _ | refine blk_drew ?_ | refine blk_alloc ?_ _)); exact BK363.out) hb); have n3_ := Aside0.mk (below_step (by repeat (first | (with_reducible first | exact HB.out | apply below_alloc | apply pw_below_drewN | apply below_drew1 | refine below_set ?_ GE363.out) | exact HB.out)) hb); clear HO_4; clear BK363; clear HB; have HO_4 := n0_; have HO369 := n1_; have BK363 := n2_; have HB := n3_; clear n0_ n1_ n2_ n3_; (try clear hb); (try clear hb2); (try clear hk); (try clear hi); (try clear ho0); obtain ⟨Ao27, co27, eo27⟩ := Kd.R_slice HO369.out; subst eo27; have p370 : 0 ≤ (x5_1 : Int) := of_decide_eq_true (by first | (with_reducible assumption) | assumption); have q370 : x5_1 < (t367.length : Int) := of_decide_eq_true (by first | (with_reducible assumption) | assumption); obtain ⟨ad370, e370, hx370_0⟩ := Kd.at_int (Kd.R_reads' HO369.out).2.2 x5_1 p370 q370; cases e370; replace p370 := eq_true p370; replace q370 := eq_true q370; have p13 : 0 ≤ (x5_1 : Int) := of_decide_eq_true (by first | (with_reducible assumption) | assumption); have q13 : (x5_1 : Int) < ((t367.length : Int) : Int) := of_decide_eq_true (by first | (with_reducible assumption) | assumption); obtain ⟨go13, co13, eo13, gb13, gl13, cl13, HG13⟩ := Kd.R_form HO369.out (by omega); (first | cases eo13 | (injection eo13 with ea_ en_ ec_; (first | subst ea_ | (injection ea_ with ea_; subst ea_)); subst ec_; clear en_)); have GB13 := Aside0.mk gb13; have GG13 := Aside0.mk HG13; clear gb13 gl13 HG13; (first | simp only [add_plain] at hx370_0 | skip); obtain ⟨hx13_0, hf13_0⟩ := Kd.R_celln 0 HO369.out (x5_1 : Int) p13 q13; replace p13 := eq_true p13; replace q13 := eq_true q13; have n_ := Aside0.mk (Kd.R_mono (ok' := (fun k_ => some k_ ≠ (.slice Ao25 x4_1.length co25 : Value).ownBlock)) HO369.out (fun k_ hk => by first | exact hk.2 | exact hk | (simp [hk]; done))); clear HO369; have HO369 := n_; clear n_; obtain ⟨hy28_, hz28_⟩ := Kd.R_celln 0 HO369.out (x5_1 : Int) (of_decide_eq_true (by first | (with_reducible assumption) | assumption)) (of_decide_eq_true (by first | (with_reducible assumption) | assumption)); have HP28 := Kd.R_putg HO369.out (x5_1 : Int) (Go.bits .xor .u8 (rd t367 x5_1) 16)) | ((with_reducible refine gate_store (t := 5) (p := 30) rfl ?_); refine store_event (t := 5) (p := 30) (v := ?vo_w29) (w1 := (w26.setCell ⟨go13, (x5_1 : Int).toNat, none⟩ (.int .u8 (Go.bits .xor .u8 (rd t367 x5_1) 16)))) ?hg ?ho ?hn ?hr ?_; (case ho => rfl); (case hg => rfl); (case hn => rfl); (case hr => first | (go_simp; done) | (go_simp; rfl)); intro w29 hw; have hg : w26.grownBy w29 (some go13) := (by rw [hw]; exact HP28.2); have hp_ : Kd.R (Kd.int .u8) 5 w29 w.heap.size (fun k_ => some k_ ≠ (.slice Ao25 x4_1.length co25 : Value).ownBlock) (.slice (some ⟨go13, 0, none⟩) t367.length co27) y371 := (by rw [hw, Ny371.out]; exact HP28.1); clear HP28; have n0_ := Aside0.mk (Kd.R_after (v := (.slice (some ⟨go13, 0, none⟩) t367.length co27)) (v1 := (.slice (some ⟨go13, 0, none⟩) t367.length co27)) (ok := (fun _ => True)) (by (with_reducible repeat (first | apply Kd.R_alloc | apply Kd.R_drewN | apply Kd.R_drew)); exact HO_4.out) hg (.inl rfl)); have n1_ := Aside0.mk (blk_grown (g := gb363) (o := .cells #[.int .u8 t344, .int .u8 t345, .int .u8 t346, .int .u8 t347, .int .u8 t348, .int .u8 t349, .int .u8 t350, .int .u8 t351, .int .u8 t352, .int .u8 t353, .int .u8 t354, .int .u8 t355, .int .u16 t356] 25 (0, 0)) (by (with_reducible repeat (first | refine blk_drewN ?_ _ | refine blk_drew ?_ | refine blk_alloc ?_ _)); exact BK363.out) hg (Kd.R_ne HO369.out BK363.out (by decide))); have n2_ := Aside0.mk (hp_); have n3_ := Aside0.mk ((by rw [hw]; exact below_set (HB.out) GB13.out : Below w.heap.size w w29)); clear HO_4; clear BK363; clear HO369; clear HB; have HO_4 := n0_; have BK363 := n1_; have HO369 := n2_; have HB := n3_; clear n0_ n1_ n2_ n3_; clear hg hw hp_) | ((with_reducible refine gate_callee (f := 4) rfl ?_); refine goesL_ (some 32) rfl rfl Try.func4 (by kernel_rfl) rfl #[.slice (some ⟨go13, 0, none⟩) y371.length co27] rfl (by (try simp only [List.map_toArray, List.map_cons, List.map_nil]); first | done | (rw [show y371.length = t367.length from (Kd.R_reads' HO369.out).1.symm] <;> rfl) | rfl | (simp only [List.length_drop, List.length_take]; rfl)) ?_; (with_reducible refine (sallyportlaw05_LinkReads.calls k1 _ _ y371 true ⟨by first | rfl | exact hr_.out⟩ _ ?side1 ?side2 A14.out).mono ?_); (case side1 => repeat (first | exact (Kd.R_reads' HO369.out).2.2 | (with_reducible refine Kd.C_alloc ?_ _) | (with_reducible refine Kd.C_drewN ?_ _) | (with_reducible refine Kd.C_drew ?_))); (case side2 => rw [show y371.length = t367.length from (Kd.R_reads' HO369.out).1.symm]; exact (Kd.R_reads' HO369.out).2.1); rintro e w30 ⟨rfl, hb⟩; refine ⟨_, rfl, ?_⟩; have n0_ := Aside0.mk (Kd.R_below (by (with_reducible repeat (first | apply Kd.R_alloc | apply Kd.R_drewN | apply Kd.R_drew)); exact HO_4.out) hb); have n1_ := Aside0.mk (Kd.R_below (by (with_reducible repeat (first | apply Kd.R_alloc | apply Kd.R_drewN | apply Kd.R_drew)); exact HO369.out) hb); have n2_ := Aside0.mk (blk_below (g := gb363) (o := .cells #[.int .u8 t344, .int .u8 t345, .int .u8 t346, .int .u8 t347, .int .u8 t348, .int .u8 t349, .int .u8 t350, .int .u8 t351, .int .u8 t352, .int .u8 t353, .int .u8 t354, .int .u8 t355, .int .u16 t356] 25 (0, 0)) (by (with_reducible repeat (first | refine blk_drewN ?_ _ | refine blk_drew ?_ | refine blk_alloc ?_ _)); exact BK363.out) hb); have n3_ := Aside0.mk (below_step (by repeat (first | (with_reducible first | exact HB.out | apply below_alloc | apply pw_below_drewN | apply below_drew1 | refine below_set ?_ GE363.out) | exact HB.out)) hb); clear HO_4; clear HO369; clear BK363; clear HB; have HO_4 := n0_; have HO369 := n1_; have BK363 := n2_; have HB := n3_; clear n0_ n1_ n2_ n3_; (try clear hb); (try clear hb2); (try clear hk); (try clear hi); have q31 : (x5_1 : Int) ≤ ((x4_1.length : Int) : Int) := of_decide_eq_true (by first | (with_reducible assumption) | assumption); obtain ⟨i031, hi031, _, hsz31, _⟩ := info_parts info5; have hroom31 : x4_1.length ≤ co25 := (Kd.R_reads' HO_4.out).2.1; have hC31 : Kd.C (Kd.int .u8) _ Ao25 x4_1.length x4_1 := (Kd.R_reads' HO_4.out).2.2; have hcut31 := cut_to (P := Try.prog) 26 5 .i64 Try.underlying26 hi031 Ao25 x4_1.length co25 x5_1 (of_decide_eq_true (by first | (with_reducible assumption) | assumption)) q31 hroom31; have hr31 := Kd.C_take (m := (x5_1 : Int).toNat) hC31 (by omega); have hy31 : y373.length = (x5_1 : Int).toNat := (by rw [Ny373.out, List.length_take]; omega); rw [← Ny373.out] at hr31; rw [← hy31] at hcut31; have HR376 := Aside0.mk hr31; have HC376 := Aside0.mk (show y373.length ≤ co25 from by omega); clear hr31 hC31 hroom31 hi031 hsz31; have KY31 := Aside0.mk hy31; clear hy31; have KL31 := Aside0.mk (show (x5_1 : Int).toNat ≤ x4_1.length from by omega); replace q31 := eq_true q31) | (go_at_call 4; (with_reducible refine (sallyportlaw05_LinkReads.calls k1 _ _ y373 true ⟨by first | rfl | exact hr_.out⟩ _ ?side1 ?side2 A18.out).mono ?_); (case side1 => repeat (first | exact (by repeat (first | (with_reducible exact HR376.out) | (with_reducible refine Kd.C_alloc ?_ _) | (with_reducible refine Kd.C_drewN ?_ _) | (with_reducible refine Kd.C_drew ?_) | exact HR376.out)) | (with_reducible refine Kd.C_alloc ?_ _) | (with_reducible refine Kd.C_drewN ?_ _) | (with_reducible refine Kd.C_drew ?_))); (case side2 => exact HC376.out); rintro e w32 ⟨rfl, hb⟩; have n0_ := Aside0.mk (Kd.R_below (by (with_reducible repeat (first | apply Kd.R_alloc | apply Kd.R_drewN | apply Kd.R_drew)); exact HO_4.out) hb); have n1_ := Aside0.mk (Kd.R_below (by (with_reducible repeat (first | apply Kd.R_alloc | apply Kd.R_drewN | apply Kd.R_drew)); exact HO369.out) hb); have n2_ := Aside0.mk (blk_below (g := gb363) (o := .cells #[.int .u8 t344, .int .u8 t345, .int .u8 t346, .int .u8 t347, .int .u8 t348, .int .u8 t349, .int .u8 t350, .int .u8 t351, .int .u8 t352, .int .u8 t353, .int .u8 t354, .int .u8 t355, .int .u16 t356] 25 (0, 0)) (by (with_reducible repeat (first | refine blk_drewN ?_ _ | refine blk_drew ?_ | refine blk_alloc ?_ _)); exact BK363.out) hb); have n3_ := Aside0.mk (Kd.C_below (by repeat (first | (with_reducible exact HR376.out) | (with_reducible refine Kd.C_alloc ?_ _) | (with_reducible refine Kd.C_drewN ?_ _) | (with_reducible refine Kd.C_drew ?_) | exact HR376.out)) hb); have n4_ := Aside0.mk (below_step (by repeat (first | (with_reducible first | exact HB.out | apply below_alloc | apply pw_below_drewN | apply below_drew1 | refine below_set ?_ GE363.out) | exact HB.out)) hb); clear HO_4; clear HO369; clear BK363; clear HR376; clear HB; have HO_4 := n0_; have HO369 := n1_; have BK363 := n2_; have HR376 := n3_; have HB := n4_; clear n0_ n1_ n2_ n3_ n4_; (try clear hb); (try clear hb2); (try clear hk); (try clear hi); have q33 : (x5_1 : Int) ≤ ((x4_1.length : Int) : Int) := of_decide_eq_true (by first | (with_reducible assumption) | assumption); obtain ⟨i033, hi033, _, hsz33, _⟩ := info_parts info5; have hroom33 : x4_1.length ≤ co25 := (Kd.R_reads' HO_4.out).2.1; have hC33 : Kd.C (Kd.int .u8) _ Ao25 x4_1.length x4_1 := (Kd.R_reads' HO_4.out).2.2; have hcut33 := cut_to (P := Try.prog) 26 5 .i64 Try.underlying26 hi033 Ao25 x4_1.length co25 x5_1 (of_decide_eq_true (by first | (with_reducible assumption) | assumption)) q33 hroom33; have hr33 := Kd.C_take (m := (x5_1 : Int).toNat) hC33 (by omega); have hy33 : y373.length = (x5_1 : Int).toNat := (by rw [Ny378.out, List.length_take]; omega); rw [← Ny378.out] at hr33; rw [← hy33] at hcut33; have HR381 := Aside0.mk hr33; have HC381 := Aside0.mk (show y373.length ≤ co25 from by omega); clear hr33 hC33 hroom33 hi033 hsz33; have KY33 := Aside0.mk hy33; clear hy33; have KL33 := Aside0.mk (show (x5_1 : Int).toNat ≤ x4_1.length from by omega); replace q33 := eq_true q33) | (go_at_call 24; (with_reducible refine (sallyportlaw05_join.calls _ _ x4_1 _ _ y373 t382 _ ?side1 ?side2 ?side3 ?side4 A22.out).mono ?_); (case side1 => repeat (first | exact (Kd.R_reads' HO_4.out).2.2 | (with_reducible refine Kd.C_alloc ?_ _) | (with_reducible refine Kd.C_drewN ?_ _) | (with_reducible refine Kd.C_drew ?_))); (case side2 => exact (Kd.R_reads' HO_4.out).2.1); (case side3 => repeat (first | exact (by repeat (first | (with_reducible exact HR381.out) | (with_reducible refine Kd.C_alloc ?_ _) | (with_reducible refine Kd.C_drewN ?_ _) | (with_reducible refine Kd.C_drew ?_) | exact HR381.out)) | (with_reducible refine Kd.C_alloc ?_ _) | (with_reducible refine Kd.C_drewN ?_ _) | (with_reducible refine Kd.C_drew ?_))); (case side4 => exact HC381.out); rintro e w34 ⟨v383, rfl, ho0, hb⟩; have n0_ := Aside0.mk (Kd.R_elder' (by (with_reducible repeat (first | apply Kd.R_alloc | apply Kd.R_drewN | apply Kd.R_drew)); exact HO_4.out) (Kd.R_base ho0) hb); have n1_ := Aside0.mk (Kd.R_elder' (by (with_reducible repeat (first | apply Kd.R_alloc | apply Kd.R_drewN | apply Kd.R_drew)); exact HO369.out) (Kd.R_base ho0) hb); have n2_ := Aside0.mk (Kd.R_lower (Kd.R_new' (Kd.R_new' ho0 (Kd.R_lt (by (with_reducible repeat (first | apply Kd.R_alloc | apply Kd.R_drewN | apply Kd.R_drew)); exact HO_4.out))) (Kd.R_lt (by (with_reducible repeat (first | apply Kd.R_alloc | apply Kd.R_drewN | apply Kd.R_drew)); exact HO369.out))) (below_size (by repeat (first | (with_reducible first | exact HB.out | apply below_alloc | apply pw_below_drewN | apply below_drew1 | refine below_set ?_ GE363.out) | exact HB.out)))); have n3_ := Aside0.mk (blk_below (g := gb363) (o := .cells #[.int .u8 t344, .int .u8 t345, .int .u8 t346, .int .u8 t347, .int .u8 t348, .int .u8 t349, .int .u8 t350, .int .u8 t351, .int .u8 t352, .int .u8 t353, .int .u8 t354, .int .u8 t355, .int .u16 t356] 25 (0, 0)) (by (with_reducible repeat (first | refine blk_drewN ?_ _ | refine blk_drew ?_ | refine blk_alloc ?_ _)); exact BK363.out) hb); have n4_ := Aside0.mk (Kd.C_below (by repeat (first | (with_reducible exact HR376.out) | (with_reducible refine Kd.C_alloc ?_ _) | (with_reducible refine Kd.C_drewN ?_ _) | (with_reducible refine Kd.C_drew ?_) | exact HR376.out)) hb); have n5_ := Aside0.mk (Kd.C_below (by repeat (first | (with_reducible exact HR381.out) | (with_reducible refine Kd.C_alloc ?_ _) | (with_reducible refine Kd.C_drewN ?_ _) | (with_reducible refine Kd.C_drew ?_) | exact HR381.out)) hb); have n6_ := Aside0.mk (below_step (by repeat (first | (with_reducible first | exact HB.out | apply below_alloc | apply pw_below_drewN | apply below_drew1 | refine below_set ?_ GE363.out) | exact HB.out)) hb); clear HO_4; clear HO369; clear BK363; clear HR376; clear HR381; clear HB; have HO_4 := n0_; have HO369 := n1_; have HO384 := n2_; have BK363 := n3_; have HR376 := n4_; have HR381 := n5_; have HB := n6_; clear n0_ n1_ n2_ n3_ n4_ n5_ n6_; (try clear hb); (try clear hb2); (try clear hk); (try clear hi); (try clear ho0); obtain ⟨Ao35, co35, eo35⟩ := Kd.R_slice HO384.out; subst eo35) | (go_at_call 4; (with_reducible refine (sallyportlaw05_LinkReads.calls k1 _ _ t382 true ⟨by first | rfl | exact hr_.out⟩ _ ?side1 ?side2 A23.out).mono ?_); (case side1 => repeat (first | exact (Kd.R_reads' HO384.out).2.2 | (with_reducible refine Kd.C_alloc ?_ _) | (with_reducible refine Kd.C_drewN ?_ _) | (with_reducible refine Kd.C_drew ?_))); (case side2 => exact (Kd.R_reads' HO384.out).2.1); rintro e w36 ⟨rfl, hb⟩; have n0_ := Aside0.mk (Kd.R_below (by (with_reducible repeat (first | apply Kd.R_alloc | apply Kd.R_drewN | apply Kd.R_drew)); exact HO_4.out) hb); have n1_ := Aside0.mk (Kd.R_below (by (with_reducible repeat (first | apply Kd.R_alloc | apply Kd.R_drewN | apply Kd.R_drew)); exact HO369.out) hb); have n2_ := Aside0.mk (Kd.R_below (by (with_reducible repeat (first | apply Kd.R_alloc | apply Kd.R_drewN | apply Kd.R_drew)); exact HO384.out) hb); have n3_ := Aside0.mk (blk_below (g := gb363) (o := .cells #[.int .u8 t344, .int .u8 t345, .int .u8 t346, .int .u8 t347, .int .u8 t348, .int .u8 t349, .int .u8 t350, .int .u8 t351, .int .u8 t352, .int .u8 t353, .int .u8 t354, .int .u8 t355, .int .u16 t356] 25 (0, 0)) (by (with_reducible repeat (first | refine blk_drewN ?_ _ | refine blk_drew ?_ | refine blk_alloc ?_ _)); exact BK363.out) hb); have n4_ := Aside0.mk (Kd.C_below (by repeat (first | (with_reducible exact HR376.out) | (with_reducible refine Kd.C_alloc ?_ _) | (with_reducible refine Kd.C_drewN ?_ _) | (with_reducible refine Kd.C_drew ?_) | exact HR376.out)) hb); have n5_ := Aside0.mk (Kd.C_below (by repeat (first | (with_reducible exact HR381.out) | (with_reducible refine Kd.C_alloc ?_ _) | (with_reducible refine Kd.C_drewN ?_ _) | (with_reducible refine Kd.C_drew ?_) | exact HR381.out)) hb); have n6_ := Aside0.mk (below_step (by repeat (first | (with_reducible first | exact HB.out | apply below_alloc | apply pw_below_drewN | apply below_drew1 | refine below_set ?_ GE363.out) | exact HB.out)) hb); clear HO_4; clear HO369; clear HO384; clear BK363; clear HR376; clear HR381; clear HB; have HO_4 := n0_; have HO369 := n1_; have HO384 := n2_; have BK363 := n3_; have HR376 := n4_; have HR381 := n5_; have HB := n6_; clear n0_ n1_ n2_ n3_ n4_ n5_ n6_; (try clear hb); (try clear hb2); (try clear hk); (try clear hi)))
                    go_roundg k1
                    case measure => have := HK1.out; omega
                    case rel => exact ⟨(x4_1), (wrap64 (x5_1 + 1)), (by first | rfl | (simp; done) | (simp [*]; done)), H', ⟨by have := HK1.out; omega⟩, ⟨by (with_reducible repeat (first | apply Kd.R_alloc | apply Kd.R_drewN | apply Kd.R_drew)); exact Kd.R_mono HO_4.out (fun _ hk => trivial)⟩, ⟨by (with_reducible repeat (first | refine blk_drewN ?_ _ | refine blk_drew ?_ | refine blk_alloc ?_ _)); exact BK363.out⟩, ⟨by repeat (first | (with_reducible first | exact HB.out | apply below_alloc | apply pw_below_drewN | apply below_drew1 | refine below_set ?_ GE363.out) | exact HB.out)⟩⟩
                  · replace c24 := Bool.eq_false_iff.mpr c24
                    subst c24
                    have H1 : (some false) = some r := by rw [if_neg (show ¬ (false = true) by decide)] at H; exact H
                    clear H
                    have H := H1
                    clear H1
                    obtain rfl := Option.some.inj H
                    exact absurd hr_.out (by decide)
                · replace c19 := Bool.eq_false_iff.mpr c19
                  subst c19
                  have H1 : (some false) = some r := by rw [if_neg (show ¬ (false = true) by decide)] at H; exact H
                  clear H
                  have H := H1
                  clear H1
                  obtain rfl := Option.some.inj H
                  exact absurd hr_.out (by decide)
              · rw [if_neg c17] at H
                exact absurd H (by simp)
            · replace c15 := Bool.eq_false_iff.mpr c15
              subst c15
              have H1 : (some false) = some r := by rw [if_neg (show ¬ (false = true) by decide)] at H; exact H
              clear H
              have H := H1
              clear H1
              obtain rfl := Option.some.inj H
              exact absurd hr_.out (by decide)
          · rw [if_neg c12] at H
            exact absurd H (by simp)
        · rw [if_neg c11] at H
          exact absurd H (by simp)
      · rw [if_neg c9] at H
        have c9b0 : decide (x5_1 < (x4_1.length : Int)) = false := decide_eq_false c9
        clear c9
        replace H := Option.bind_eq_some_iff.mp H
        obtain ⟨t386, A370, H⟩ := H
        replace H : (if t386 = true then (if 2034 ≤ 281474976710656 then ((sallyportlaw05_LinkBytes.f k1 t344 t345 t346 t347 t348 t349 t350 t351 t352 t353 t354 t355 t356 (List.replicate 2034 0)).bind fun t390 => (if t390 = true then (if 2035 ≤ 281474976710656 then ((sallyportlaw05_LinkBytes.f k1 t344 t345 t346 t347 t348 t349 t350 t351 t352 t353 t354 t355 t356 (List.replicate 2035 0)).bind fun t394 => (if t394 = true then ((sallyportlaw05_LinkBytes.f k1 0 0 0 0 0 0 0 0 0 0 0 0 0 ([] : List Int)).bind fun t395 => (if t395 = true then (if 70000 ≤ 281474976710656 then ((sallyportlaw05_LinkReads.f k1 (List.replicate 70000 0)).bind fun t399 => (if t399 = true then ((sallyportlaw05_LinkBack.f k1 t344 t345 t346 t347 t348 t349 t350 t351 t352 t353 t354 t355 t356 (List.replicate 2034 0) ([] : List Int)).bind fun t403 => (some t403)) else (some false))) else (none)) else (some false))) else (some false))) else (none)) else (some false))) else (none)) else (some false)) = some r := H
        have A37 := Aside0.mk A370
        clear A370
        by_cases c38 : t386 = true
        · subst c38
          have H1 : (if 2034 ≤ 281474976710656 then ((sallyportlaw05_LinkBytes.f k1 t344 t345 t346 t347 t348 t349 t350 t351 t352 t353 t354 t355 t356 (List.replicate 2034 0)).bind fun t390 => (if t390 = true then (if 2035 ≤ 281474976710656 then ((sallyportlaw05_LinkBytes.f k1 t344 t345 t346 t347 t348 t349 t350 t351 t352 t353 t354 t355 t356 (List.replicate 2035 0)).bind fun t394 => (if t394 = true then ((sallyportlaw05_LinkBytes.f k1 0 0 0 0 0 0 0 0 0 0 0 0 0 ([] : List Int)).bind fun t395 => (if t395 = true then (if 70000 ≤ 281474976710656 then ((sallyportlaw05_LinkReads.f k1 (List.replicate 70000 0)).bind fun t399 => (if t399 = true then ((sallyportlaw05_LinkBack.f k1 t344 t345 t346 t347 t348 t349 t350 t351 t352 t353 t354 t355 t356 (List.replicate 2034 0) ([] : List Int)).bind fun t403 => (some t403)) else (some false))) else (none)) else (some false))) else (some false))) else (none)) else (some false))) else (none)) = some r := by rw [if_pos rfl] at H; exact H
          clear H
          have H := H1
          clear H1
          by_cases c39 : 2034 ≤ 281474976710656
          · rw [if_pos c39] at H
            have c39b0 := eq_true c39
            have c39b1 : decide (2034 ≤ 281474976710656) = true := decide_eq_true c39
            clear c39
            obtain ⟨y387, hy387⟩ : ∃ y_ : List Int, y_ = (List.replicate 2034 0) := ⟨_, rfl⟩
            replace H : ((sallyportlaw05_LinkBytes.f k1 t344 t345 t346 t347 t348 t349 t350 t351 t352 t353 t354 t355 t356 y387).bind fun t390 => (if t390 = true then (if 2035 ≤ 281474976710656 then ((sallyportlaw05_LinkBytes.f k1 t344 t345 t346 t347 t348 t349 t350 t351 t352 t353 t354 t355 t356 (List.replicate 2035 0)).bind fun t394 => (if t394 = true then ((sallyportlaw05_LinkBytes.f k1 0 0 0 0 0 0 0 0 0 0 0 0 0 ([] : List Int)).bind fun t395 => (if t395 = true then (if 70000 ≤ 281474976710656 then ((sallyportlaw05_LinkReads.f k1 (List.replicate 70000 0)).bind fun t399 => (if t399 = true then ((sallyportlaw05_LinkBack.f k1 t344 t345 t346 t347 t348 t349 t350 t351 t352 t353 t354 t355 t356 (List.replicate 2034 0) ([] : List Int)).bind fun t403 => (some t403)) else (some false))) else (none)) else (some false))) else (some false))) else (none)) else (some false))) = some r := by first | (rw [hy387]; with_reducible exact H) | (have H2_ := (Option.bind_some _ _).symm.trans H; rw [hy387]; with_reducible exact H2_) | (have H2_ := (Option.bind_some _ _).symm.trans H; with_reducible exact H2_) | with_reducible exact H | (rw [hy387]; exact H) | exact H
            have Ny387 := Aside0.mk hy387
            clear hy387
            replace H := Option.bind_eq_some_iff.mp H
            obtain ⟨t390, A400, H⟩ := H
            replace H : (if t390 = true then (if 2035 ≤ 281474976710656 then ((sallyportlaw05_LinkBytes.f k1 t344 t345 t346 t347 t348 t349 t350 t351 t352 t353 t354 t355 t356 (List.replicate 2035 0)).bind fun t394 => (if t394 = true then ((sallyportlaw05_LinkBytes.f k1 0 0 0 0 0 0 0 0 0 0 0 0 0 ([] : List Int)).bind fun t395 => (if t395 = true then (if 70000 ≤ 281474976710656 then ((sallyportlaw05_LinkReads.f k1 (List.replicate 70000 0)).bind fun t399 => (if t399 = true then ((sallyportlaw05_LinkBack.f k1 t344 t345 t346 t347 t348 t349 t350 t351 t352 t353 t354 t355 t356 (List.replicate 2034 0) ([] : List Int)).bind fun t403 => (some t403)) else (some false))) else (none)) else (some false))) else (some false))) else (none)) else (some false)) = some r := H
            have A40 := Aside0.mk A400
            clear A400
            by_cases c41 : t390 = true
            · subst c41
              have H1 : (if 2035 ≤ 281474976710656 then ((sallyportlaw05_LinkBytes.f k1 t344 t345 t346 t347 t348 t349 t350 t351 t352 t353 t354 t355 t356 (List.replicate 2035 0)).bind fun t394 => (if t394 = true then ((sallyportlaw05_LinkBytes.f k1 0 0 0 0 0 0 0 0 0 0 0 0 0 ([] : List Int)).bind fun t395 => (if t395 = true then (if 70000 ≤ 281474976710656 then ((sallyportlaw05_LinkReads.f k1 (List.replicate 70000 0)).bind fun t399 => (if t399 = true then ((sallyportlaw05_LinkBack.f k1 t344 t345 t346 t347 t348 t349 t350 t351 t352 t353 t354 t355 t356 (List.replicate 2034 0) ([] : List Int)).bind fun t403 => (some t403)) else (some false))) else (none)) else (some false))) else (some false))) else (none)) = some r := by rw [if_pos rfl] at H; exact H
              clear H
              have H := H1
              clear H1
              by_cases c42 : 2035 ≤ 281474976710656
              · rw [if_pos c42] at H
                have c42b0 := eq_true c42
                have c42b1 : decide (2035 ≤ 281474976710656) = true := decide_eq_true c42
                clear c42
                obtain ⟨y391, hy391⟩ : ∃ y_ : List Int, y_ = (List.replicate 2035 0) := ⟨_, rfl⟩
                replace H : ((sallyportlaw05_LinkBytes.f k1 t344 t345 t346 t347 t348 t349 t350 t351 t352 t353 t354 t355 t356 y391).bind fun t394 => (if t394 = true then ((sallyportlaw05_LinkBytes.f k1 0 0 0 0 0 0 0 0 0 0 0 0 0 ([] : List Int)).bind fun t395 => (if t395 = true then (if 70000 ≤ 281474976710656 then ((sallyportlaw05_LinkReads.f k1 (List.replicate 70000 0)).bind fun t399 => (if t399 = true then ((sallyportlaw05_LinkBack.f k1 t344 t345 t346 t347 t348 t349 t350 t351 t352 t353 t354 t355 t356 (List.replicate 2034 0) ([] : List Int)).bind fun t403 => (some t403)) else (some false))) else (none)) else (some false))) else (some false))) = some r := by first | (rw [hy391]; with_reducible exact H) | (have H2_ := (Option.bind_some _ _).symm.trans H; rw [hy391]; with_reducible exact H2_) | (have H2_ := (Option.bind_some _ _).symm.trans H; with_reducible exact H2_) | with_reducible exact H | (rw [hy391]; exact H) | exact H
                have Ny391 := Aside0.mk hy391
                clear hy391
                replace H := Option.bind_eq_some_iff.mp H
                obtain ⟨t394, A430, H⟩ := H
                replace H : (if t394 = true then ((sallyportlaw05_LinkBytes.f k1 0 0 0 0 0 0 0 0 0 0 0 0 0 ([] : List Int)).bind fun t395 => (if t395 = true then (if 70000 ≤ 281474976710656 then ((sallyportlaw05_LinkReads.f k1 (List.replicate 70000 0)).bind fun t399 => (if t399 = true then ((sallyportlaw05_LinkBack.f k1 t344 t345 t346 t347 t348 t349 t350 t351 t352 t353 t354 t355 t356 (List.replicate 2034 0) ([] : List Int)).bind fun t403 => (some t403)) else (some false))) else (none)) else (some false))) else (some false)) = some r := H
                have A43 := Aside0.mk A430
                clear A430
                by_cases c44 : t394 = true
                · subst c44
                  have H1 : ((sallyportlaw05_LinkBytes.f k1 0 0 0 0 0 0 0 0 0 0 0 0 0 ([] : List Int)).bind fun t395 => (if t395 = true then (if 70000 ≤ 281474976710656 then ((sallyportlaw05_LinkReads.f k1 (List.replicate 70000 0)).bind fun t399 => (if t399 = true then ((sallyportlaw05_LinkBack.f k1 t344 t345 t346 t347 t348 t349 t350 t351 t352 t353 t354 t355 t356 (List.replicate 2034 0) ([] : List Int)).bind fun t403 => (some t403)) else (some false))) else (none)) else (some false))) = some r := by rw [if_pos rfl] at H; exact H
                  clear H
                  have H := H1
                  clear H1
                  replace H := Option.bind_eq_some_iff.mp H
                  obtain ⟨t395, A450, H⟩ := H
                  replace H : (if t395 = true then (if 70000 ≤ 281474976710656 then ((sallyportlaw05_LinkReads.f k1 (List.replicate 70000 0)).bind fun t399 => (if t399 = true then ((sallyportlaw05_LinkBack.f k1 t344 t345 t346 t347 t348 t349 t350 t351 t352 t353 t354 t355 t356 (List.replicate 2034 0) ([] : List Int)).bind fun t403 => (some t403)) else (some false))) else (none)) else (some false)) = some r := H
                  have A45 := Aside0.mk A450
                  clear A450
                  by_cases c46 : t395 = true
                  · subst c46
                    have H1 : (if 70000 ≤ 281474976710656 then ((sallyportlaw05_LinkReads.f k1 (List.replicate 70000 0)).bind fun t399 => (if t399 = true then ((sallyportlaw05_LinkBack.f k1 t344 t345 t346 t347 t348 t349 t350 t351 t352 t353 t354 t355 t356 (List.replicate 2034 0) ([] : List Int)).bind fun t403 => (some t403)) else (some false))) else (none)) = some r := by rw [if_pos rfl] at H; exact H
                    clear H
                    have H := H1
                    clear H1
                    by_cases c47 : 70000 ≤ 281474976710656
                    · rw [if_pos c47] at H
                      have c47b0 := eq_true c47
                      have c47b1 : decide (70000 ≤ 281474976710656) = true := decide_eq_true c47
                      clear c47
                      obtain ⟨y396, hy396⟩ : ∃ y_ : List Int, y_ = (List.replicate 70000 0) := ⟨_, rfl⟩
                      replace H : ((sallyportlaw05_LinkReads.f k1 y396).bind fun t399 => (if t399 = true then ((sallyportlaw05_LinkBack.f k1 t344 t345 t346 t347 t348 t349 t350 t351 t352 t353 t354 t355 t356 (List.replicate 2034 0) ([] : List Int)).bind fun t403 => (some t403)) else (some false))) = some r := by first | (rw [hy396]; with_reducible exact H) | (have H2_ := (Option.bind_some _ _).symm.trans H; rw [hy396]; with_reducible exact H2_) | (have H2_ := (Option.bind_some _ _).symm.trans H; with_reducible exact H2_) | with_reducible exact H | (rw [hy396]; exact H) | exact H
                      have Ny396 := Aside0.mk hy396
                      clear hy396
                      replace H := Option.bind_eq_some_iff.mp H
                      obtain ⟨t399, A480, H⟩ := H
                      replace H : (if t399 = true then ((sallyportlaw05_LinkBack.f k1 t344 t345 t346 t347 t348 t349 t350 t351 t352 t353 t354 t355 t356 (List.replicate 2034 0) ([] : List Int)).bind fun t403 => (some t403)) else (some false)) = some r := H
                      have A48 := Aside0.mk A480
                      clear A480
                      by_cases c49 : t399 = true
                      · subst c49
                        have H1 : ((sallyportlaw05_LinkBack.f k1 t344 t345 t346 t347 t348 t349 t350 t351 t352 t353 t354 t355 t356 (List.replicate 2034 0) ([] : List Int)).bind fun t403 => (some t403)) = some r := by rw [if_pos rfl] at H; exact H
                        clear H
                        have H := H1
                        clear H1
                        obtain ⟨y400, hy400⟩ : ∃ y_ : List Int, y_ = (List.replicate 2034 0) := ⟨_, rfl⟩
                        replace H : ((sallyportlaw05_LinkBack.f k1 t344 t345 t346 t347 t348 t349 t350 t351 t352 t353 t354 t355 t356 y400 ([] : List Int)).bind fun t403 => (some t403)) = some r := by first | (rw [hy400]; with_reducible exact H) | (have H2_ := (Option.bind_some _ _).symm.trans H; rw [hy400]; with_reducible exact H2_) | (have H2_ := (Option.bind_some _ _).symm.trans H; with_reducible exact H2_) | with_reducible exact H | (rw [hy400]; exact H) | exact H
                        have Ny400 := Aside0.mk hy400
                        clear hy400
                        replace H := Option.bind_eq_some_iff.mp H
                        obtain ⟨t403, A500, H⟩ := H
                        replace H : (some t403) = some r := H
                        have A50 := Aside0.mk A500
                        clear A500
                        obtain rfl := Option.some.inj H
                        obtain ⟨Ao51, co51, eo51⟩ := Kd.R_slice HO_4.out
                        subst eo51
                        try go_wp2
                        have n0_ := Aside0.mk (Kd.R_drew HO_4.out)
                        have n1_ := Aside0.mk (blk_drew BK363.out)
                        have n2_ := Aside0.mk (below_drew1 HB.out)
                        clear HO_4
                        clear BK363
                        clear HB
                        have HO_4 := n0_
                        have BK363 := n1_
                        have HB := n2_
                        clear n0_ n1_ n2_
                        refine start_ (n := 27) (S := fun w' => w'.cell? ⟨gb363, 0, none⟩ = some (.int .u8 t344) ∧ w'.cell? ⟨gb363, 1, none⟩ = some (.int .u8 t345) ∧ w'.cell? ⟨gb363, 2, none⟩ = some (.int .u8 t346) ∧ w'.cell? ⟨gb363, 3, none⟩ = some (.int .u8 t347) ∧ w'.cell? ⟨gb363, 4, none⟩ = some (.int .u8 t348) ∧ w'.cell? ⟨gb363, 5, none⟩ = some (.int .u8 t349) ∧ w'.cell? ⟨gb363, 6, none⟩ = some (.int .u8 t350) ∧ w'.cell? ⟨gb363, 7, none⟩ = some (.int .u8 t351) ∧ w'.cell? ⟨gb363, 8, none⟩ = some (.int .u8 t352) ∧ w'.cell? ⟨gb363, 9, none⟩ = some (.int .u8 t353) ∧ w'.cell? ⟨gb363, 10, none⟩ = some (.int .u8 t354) ∧ w'.cell? ⟨gb363, 11, none⟩ = some (.int .u8 t355) ∧ w'.cell? ⟨gb363, 12, none⟩ = some (.int .u16 t356)) (ds := []) #[false, false, false, false, false, false, false, false, false, false, false, false, false, false, false, false, false, false, false, false, false, false, false, false, false, false, false] (by kernel_rfl) rfl rfl ⟨(blk_cell BK363.out 0).trans rfl, (blk_cell BK363.out 1).trans rfl, (blk_cell BK363.out 2).trans rfl, (blk_cell BK363.out 3).trans rfl, (blk_cell BK363.out 4).trans rfl, (blk_cell BK363.out 5).trans rfl, (blk_cell BK363.out 6).trans rfl, (blk_cell BK363.out 7).trans rfl, (blk_cell BK363.out 8).trans rfl, (blk_cell BK363.out 9).trans rfl, (blk_cell BK363.out 10).trans rfl, (blk_cell BK363.out 11).trans rfl, (blk_cell BK363.out 12).trans rfl⟩ (fun hHeld => ?_); refine with_tabW sallyportlaw05_LinkNames.tab10 sallyportlaw05_LinkNames.bits10 (fun HT_ HW_ => ?_)
                        generalize wr.drew = w52 at HO_4 BK363 HB hHeld ⊢
                        refine pure_ (i := 0) (N := some 50) (v := ?_) (a' := ?_) #[true, false, false, false, false, false, false, false, false, false, false, false, false, false, false, false, false, false, false, false, false, false, false, false, false, false, false] rfl rfl (any_of HT_.out (by kernel_rfl)) (fun _ _ _ h => h) (Or.inl ⟨by rfl, ?_⟩) ?_ ?_
                        rotate_left
                        · intro w'
                          go_simp
                          with_reducible rfl
                        rotate_left
                        · simp only [Act.put, List.setIfInBounds_toArray, List.set_cons_zero, List.set_cons_succ, i64_w, i32_w]
                          rfl
                        refine one_ (i := 1) (N := some 51) #[true, true, false, false, false, false, false, false, false, false, false, false, false, false, false, false, false, false, false, false, false, false, false, false, false, false, false] rfl rfl (one_of HT_.out (by kernel_rfl)) (by decide) (fun K hK => ?_)
                        refine goes_ Try.func21 (by kernel_rfl) rfl #[] (by rfl) rfl rfl (by (try simp only [List.map_toArray, List.map_cons, List.map_nil]); first | done | rfl | (simp only [List.length_drop, List.length_take]; rfl)) ?_
                        with_reducible refine (sallyportlaw05_awake.calls k1  true ⟨by first | rfl | exact hr_.out⟩ _ A37.out).mono ?_
                        rintro e w53 ⟨rfl, hb⟩
                        refine ⟨_, rfl, ?_⟩
                        have n0_ := Aside0.mk (Kd.R_below (by (with_reducible repeat (first | apply Kd.R_alloc | apply Kd.R_drewN | apply Kd.R_drew)); exact HO_4.out) hb)
                        have n1_ := Aside0.mk (blk_below (g := gb363) (o := .cells #[.int .u8 t344, .int .u8 t345, .int .u8 t346, .int .u8 t347, .int .u8 t348, .int .u8 t349, .int .u8 t350, .int .u8 t351, .int .u8 t352, .int .u8 t353, .int .u8 t354, .int .u8 t355, .int .u16 t356] 25 (0, 0)) (by (with_reducible repeat (first | refine blk_drewN ?_ _ | refine blk_drew ?_ | refine blk_alloc ?_ _)); exact BK363.out) hb)
                        have n2_ := Aside0.mk (below_step (by repeat (first | (with_reducible first | exact HB.out | apply below_alloc | apply pw_below_drewN | apply below_drew1 | refine below_set ?_ GE363.out) | exact HB.out)) hb)
                        clear HO_4
                        clear BK363
                        clear HB
                        have HO_4 := n0_
                        have BK363 := n1_
                        have HB := n2_
                        clear n0_ n1_ n2_
                        (try clear hb)
                        (try clear hb2)
                        (try clear hk)
                        (try clear hi)
                        refine hK.out _ _ ⟨(blk_cell BK363.out 0).trans rfl, (blk_cell BK363.out 1).trans rfl, (blk_cell BK363.out 2).trans rfl, (blk_cell BK363.out 3).trans rfl, (blk_cell BK363.out 4).trans rfl, (blk_cell BK363.out 5).trans rfl, (blk_cell BK363.out 6).trans rfl, (blk_cell BK363.out 7).trans rfl, (blk_cell BK363.out 8).trans rfl, (blk_cell BK363.out 9).trans rfl, (blk_cell BK363.out 10).trans rfl, (blk_cell BK363.out 11).trans rfl, (blk_cell BK363.out 12).trans rfl⟩ (fun hHeld => ?_)
                        clear hK K
                        refine norm_ (a' := ?_) ?_ ?_
                        rotate_left
                        · show Act.put _ (some 51) _ = _
                          simp only [Act.put, List.setIfInBounds_toArray, List.set_cons_zero, List.set_cons_succ, i64_w, i32_w]
                          rfl
                        refine pure_ (i := 2) (N := some 52) (v := ?_) (a' := ?_) #[true, true, true, false, false, false, false, false, false, false, false, false, false, false, false, false, false, false, false, false, false, false, false, false, false, false, false] rfl rfl (any_of HT_.out (by kernel_rfl)) (fun _ _ _ h => h) (Or.inl ⟨by rfl, ?_⟩) ?_ ?_
                        rotate_left
                        · intro w'
                          go_simp
                          with_reducible rfl
                        rotate_left
                        · simp only [Act.put, List.setIfInBounds_toArray, List.set_cons_zero, List.set_cons_succ, i64_w, i32_w]
                          rfl
                        refine pure_ (i := 3) (N := some 53) (v := ?_) (a' := ?_) #[true, true, true, true, false, false, false, false, false, false, false, false, false, false, false, false, false, false, false, false, false, false, false, false, false, false, false] rfl rfl (any_of HT_.out (by kernel_rfl)) (fun _ _ _ h => h) (Or.inl ⟨by rfl, ?_⟩) ?_ ?_
                        rotate_left
                        · intro w'
                          go_simp
                          with_reducible rfl
                        rotate_left
                        · simp only [Act.put, List.setIfInBounds_toArray, List.set_cons_zero, List.set_cons_succ, i64_w, i32_w]
                          rfl
                        refine take_ (i := 4) (N := some 54) (v := ?_) (a' := ?_) #[true, true, true, true, true, false, false, false, false, false, false, false, false, false, false, false, false, false, false, false, false, false, false, false, false, false, false] rfl rfl (take_ofW HT_.out HW_.out (by kernel_rfl)) (fun _ _ _ h => h) (Or.inl ⟨by rfl, ?_⟩) hHeld ?_ ?_
                        rotate_left
                        · rintro w' ⟨s0, s1, s2, s3, s4, s5, s6, s7, s8, s9, s10, s11, s12⟩
                          go_simp
                          with_reducible rfl
                        rotate_left
                        · simp only [Act.put, List.setIfInBounds_toArray, List.set_cons_zero, List.set_cons_succ, i64_w, i32_w]
                          rfl
                        refine one_ (i := 5) (N := some 55) #[true, true, true, true, true, true, false, false, false, false, false, false, false, false, false, false, false, false, false, false, false, false, false, false, false, false, false] rfl rfl (one_of HT_.out (by kernel_rfl)) (by decide) (fun K hK => ?_)
                        refine Kd.R_make_step (Kd.int .u8) _ 5 (by rfl) (N := 55) rfl 26 _ _ rfl 2034 rfl rfl Try.underlying26 (.int .u8 0) 1 info5 rfl (by decide) (by omega) 0 (ok := fun _ => True) (okp := fun _ => True) rfl (fun _ hk => hk) trivial (by omega) (by omega) (Below.refl _ _) (Nat.le_refl _) ?_
                        intro v388 w54 ho55 hb hg_ hnew_
                        clear hg_ hnew_
                        (first | rw [← Ny387.out] at ho55 | (simp only [Int.reduceToNat] at ho55; rw [← Ny387.out] at ho55))
                        have n0_ := Aside0.mk (Kd.R_elder' (by (with_reducible repeat (first | apply Kd.R_alloc | apply Kd.R_drewN | apply Kd.R_drew)); exact HO_4.out) (Kd.R_base ho55) hb)
                        have n1_ := Aside0.mk (Kd.R_lower (Kd.R_new' ho55 (Kd.R_lt (by (with_reducible repeat (first | apply Kd.R_alloc | apply Kd.R_drewN | apply Kd.R_drew)); exact HO_4.out))) (below_size (by repeat (first | (with_reducible first | exact HB.out | apply below_alloc | apply pw_below_drewN | apply below_drew1 | refine below_set ?_ GE363.out) | exact HB.out))))
                        have n2_ := Aside0.mk (blk_below (g := gb363) (o := .cells #[.int .u8 t344, .int .u8 t345, .int .u8 t346, .int .u8 t347, .int .u8 t348, .int .u8 t349, .int .u8 t350, .int .u8 t351, .int .u8 t352, .int .u8 t353, .int .u8 t354, .int .u8 t355, .int .u16 t356] 25 (0, 0)) (by (with_reducible repeat (first | refine blk_drewN ?_ _ | refine blk_drew ?_ | refine blk_alloc ?_ _)); exact BK363.out) hb)
                        have n3_ := Aside0.mk (below_step (by repeat (first | (with_reducible first | exact HB.out | apply below_alloc | apply pw_below_drewN | apply below_drew1 | refine below_set ?_ GE363.out) | exact HB.out)) hb)
                        clear HO_4
                        clear BK363
                        clear HB
                        have HO_4 := n0_
                        have HO389 := n1_
                        have BK363 := n2_
                        have HB := n3_
                        clear n0_ n1_ n2_ n3_
                        clear hb ho55
                        obtain ⟨Ao56, co56, eo56⟩ := Kd.R_slice HO389.out
                        (first | subst eo56 | (injection eo56 with f1_ f2_ f3_; have f4_ := f1_.symm; have f5_ := f3_.symm; clear f1_ f2_ f3_; subst f4_; subst f5_))
                        refine hK.out _ _ ⟨(blk_cell BK363.out 0).trans rfl, (blk_cell BK363.out 1).trans rfl, (blk_cell BK363.out 2).trans rfl, (blk_cell BK363.out 3).trans rfl, (blk_cell BK363.out 4).trans rfl, (blk_cell BK363.out 5).trans rfl, (blk_cell BK363.out 6).trans rfl, (blk_cell BK363.out 7).trans rfl, (blk_cell BK363.out 8).trans rfl, (blk_cell BK363.out 9).trans rfl, (blk_cell BK363.out 10).trans rfl, (blk_cell BK363.out 11).trans rfl, (blk_cell BK363.out 12).trans rfl⟩ (fun hHeld => ?_)
                        clear hK K
                        refine norm_ (a' := ?_) ?_ ?_
                        rotate_left
                        · show Act.put _ (some 55) _ = _
                          simp only [Act.put, List.setIfInBounds_toArray, List.set_cons_zero, List.set_cons_succ, i64_w, i32_w]
                          rfl
                        refine one_ (i := 6) (N := some 56) #[true, true, true, true, true, true, true, false, false, false, false, false, false, false, false, false, false, false, false, false, false, false, false, false, false, false, false] rfl rfl (one_of HT_.out (by kernel_rfl)) (by decide) (fun K hK => ?_)
                        refine goes_ Try.func3 (by kernel_rfl) rfl #[.agg #[.int .u8 t344, .int .u8 t345, .int .u8 t346, .int .u8 t347, .int .u8 t348, .int .u8 t349, .int .u8 t350, .int .u8 t351, .int .u8 t352, .int .u8 t353, .int .u8 t354, .int .u8 t355, .int .u16 t356], .slice Ao56 y387.length co56] (by rfl) rfl rfl (by (try simp only [List.map_toArray, List.map_cons, List.map_nil]); first | done | rfl | (simp only [List.length_drop, List.length_take]; rfl)) ?_
                        with_reducible refine (sallyportlaw05_LinkBytes.calls k1 t344 t345 t346 t347 t348 t349 t350 t351 t352 t353 t354 t355 t356 _ _ y387 true ⟨by first | rfl | exact hr_.out⟩ _ ?side1 ?side2 A40.out).mono ?_
                        (case side1 => repeat (first | exact (Kd.R_reads' HO389.out).2.2 | (with_reducible refine Kd.C_alloc ?_ _) | (with_reducible refine Kd.C_drewN ?_ _) | (with_reducible refine Kd.C_drew ?_)))
                        (case side2 => exact (Kd.R_reads' HO389.out).2.1)
                        rintro e w57 ⟨rfl, hb⟩
                        refine ⟨_, rfl, ?_⟩
                        have n0_ := Aside0.mk (Kd.R_below (by (with_reducible repeat (first | apply Kd.R_alloc | apply Kd.R_drewN | apply Kd.R_drew)); exact HO_4.out) hb)
                        have n1_ := Aside0.mk (Kd.R_below (by (with_reducible repeat (first | apply Kd.R_alloc | apply Kd.R_drewN | apply Kd.R_drew)); exact HO389.out) hb)
                        have n2_ := Aside0.mk (blk_below (g := gb363) (o := .cells #[.int .u8 t344, .int .u8 t345, .int .u8 t346, .int .u8 t347, .int .u8 t348, .int .u8 t349, .int .u8 t350, .int .u8 t351, .int .u8 t352, .int .u8 t353, .int .u8 t354, .int .u8 t355, .int .u16 t356] 25 (0, 0)) (by (with_reducible repeat (first | refine blk_drewN ?_ _ | refine blk_drew ?_ | refine blk_alloc ?_ _)); exact BK363.out) hb)
                        have n3_ := Aside0.mk (below_step (by repeat (first | (with_reducible first | exact HB.out | apply below_alloc | apply pw_below_drewN | apply below_drew1 | refine below_set ?_ GE363.out) | exact HB.out)) hb)
                        clear HO_4
                        clear HO389
                        clear BK363
                        clear HB
                        have HO_4 := n0_
                        have HO389 := n1_
                        have BK363 := n2_
                        have HB := n3_
                        clear n0_ n1_ n2_ n3_
                        (try clear hb)
                        (try clear hb2)
                        (try clear hk)
                        (try clear hi)
                        refine hK.out _ _ ⟨(blk_cell BK363.out 0).trans rfl, (blk_cell BK363.out 1).trans rfl, (blk_cell BK363.out 2).trans rfl, (blk_cell BK363.out 3).trans rfl, (blk_cell BK363.out 4).trans rfl, (blk_cell BK363.out 5).trans rfl, (blk_cell BK363.out 6).trans rfl, (blk_cell BK363.out 7).trans rfl, (blk_cell BK363.out 8).trans rfl, (blk_cell BK363.out 9).trans rfl, (blk_cell BK363.out 10).trans rfl, (blk_cell BK363.out 11).trans rfl, (blk_cell BK363.out 12).trans rfl⟩ (fun hHeld => ?_)
                        clear hK K
                        refine norm_ (a' := ?_) ?_ ?_
                        rotate_left
                        · show Act.put _ (some 56) _ = _
                          simp only [Act.put, List.setIfInBounds_toArray, List.set_cons_zero, List.set_cons_succ, i64_w, i32_w]
                          rfl
                        refine pure_ (i := 7) (N := some 57) (v := ?_) (a' := ?_) #[true, true, true, true, true, true, true, true, false, false, false, false, false, false, false, false, false, false, false, false, false, false, false, false, false, false, false] rfl rfl (any_of HT_.out (by kernel_rfl)) (fun _ _ _ h => h) (Or.inl ⟨by rfl, ?_⟩) ?_ ?_
                        rotate_left
                        · intro w'
                          go_simp
                          with_reducible rfl
                        rotate_left
                        · simp only [Act.put, List.setIfInBounds_toArray, List.set_cons_zero, List.set_cons_succ, i64_w, i32_w]
                          rfl
                        refine pure_ (i := 8) (N := some 58) (v := ?_) (a' := ?_) #[true, true, true, true, true, true, true, true, true, false, false, false, false, false, false, false, false, false, false, false, false, false, false, false, false, false, false] rfl rfl (any_of HT_.out (by kernel_rfl)) (fun _ _ _ h => h) (Or.inl ⟨by rfl, ?_⟩) ?_ ?_
                        rotate_left
                        · intro w'
                          go_simp
                          with_reducible rfl
                        rotate_left
                        · simp only [Act.put, List.setIfInBounds_toArray, List.set_cons_zero, List.set_cons_succ, i64_w, i32_w]
                          rfl
                        refine take_ (i := 9) (N := some 59) (v := ?_) (a' := ?_) #[true, true, true, true, true, true, true, true, true, true, false, false, false, false, false, false, false, false, false, false, false, false, false, false, false, false, false] rfl rfl (take_ofW HT_.out HW_.out (by kernel_rfl)) (fun _ _ _ h => h) (Or.inl ⟨by rfl, ?_⟩) hHeld ?_ ?_
                        rotate_left
                        · rintro w' ⟨s0, s1, s2, s3, s4, s5, s6, s7, s8, s9, s10, s11, s12⟩
                          go_simp
                          with_reducible rfl
                        rotate_left
                        · simp only [Act.put, List.setIfInBounds_toArray, List.set_cons_zero, List.set_cons_succ, i64_w, i32_w]
                          rfl
                        refine one_ (i := 10) (N := some 60) #[true, true, true, true, true, true, true, true, true, true, true, false, false, false, false, false, false, false, false, false, false, false, false, false, false, false, false] rfl rfl (one_of HT_.out (by kernel_rfl)) (by decide) (fun K hK => ?_)
                        refine Kd.R_make_step (Kd.int .u8) _ 5 (by rfl) (N := 60) rfl 26 _ _ rfl 2035 rfl rfl Try.underlying26 (.int .u8 0) 1 info5 rfl (by decide) (by omega) 0 (ok := fun _ => True) (okp := fun _ => True) rfl (fun _ hk => hk) trivial (by omega) (by omega) (Below.refl _ _) (Nat.le_refl _) ?_
                        intro v392 w58 ho59 hb hg_ hnew_
                        clear hg_ hnew_
                        (first | rw [← Ny391.out] at ho59 | (simp only [Int.reduceToNat] at ho59; rw [← Ny391.out] at ho59))
                        have n0_ := Aside0.mk (Kd.R_elder' (by (with_reducible repeat (first | apply Kd.R_alloc | apply Kd.R_drewN | apply Kd.R_drew)); exact HO_4.out) (Kd.R_base ho59) hb)
                        have n1_ := Aside0.mk (Kd.R_elder' (by (with_reducible repeat (first | apply Kd.R_alloc | apply Kd.R_drewN | apply Kd.R_drew)); exact HO389.out) (Kd.R_base ho59) hb)
                        have n2_ := Aside0.mk (Kd.R_lower (Kd.R_new' (Kd.R_new' ho59 (Kd.R_lt (by (with_reducible repeat (first | apply Kd.R_alloc | apply Kd.R_drewN | apply Kd.R_drew)); exact HO_4.out))) (Kd.R_lt (by (with_reducible repeat (first | apply Kd.R_alloc | apply Kd.R_drewN | apply Kd.R_drew)); exact HO389.out))) (below_size (by repeat (first | (with_reducible first | exact HB.out | apply below_alloc | apply pw_below_drewN | apply below_drew1 | refine below_set ?_ GE363.out) | exact HB.out))))
                        have n3_ := Aside0.mk (blk_below (g := gb363) (o := .cells #[.int .u8 t344, .int .u8 t345, .int .u8 t346, .int .u8 t347, .int .u8 t348, .int .u8 t349, .int .u8 t350, .int .u8 t351, .int .u8 t352, .int .u8 t353, .int .u8 t354, .int .u8 t355, .int .u16 t356] 25 (0, 0)) (by (with_reducible repeat (first | refine blk_drewN ?_ _ | refine blk_drew ?_ | refine blk_alloc ?_ _)); exact BK363.out) hb)
                        have n4_ := Aside0.mk (below_step (by repeat (first | (with_reducible first | exact HB.out | apply below_alloc | apply pw_below_drewN | apply below_drew1 | refine below_set ?_ GE363.out) | exact HB.out)) hb)
                        clear HO_4
                        clear HO389
                        clear BK363
                        clear HB
                        have HO_4 := n0_
                        have HO389 := n1_
                        have HO393 := n2_
                        have BK363 := n3_
                        have HB := n4_
                        clear n0_ n1_ n2_ n3_ n4_
                        clear hb ho59
                        obtain ⟨Ao60, co60, eo60⟩ := Kd.R_slice HO393.out
                        (first | subst eo60 | (injection eo60 with f1_ f2_ f3_; have f4_ := f1_.symm; have f5_ := f3_.symm; clear f1_ f2_ f3_; subst f4_; subst f5_))
                        refine hK.out _ _ ⟨(blk_cell BK363.out 0).trans rfl, (blk_cell BK363.out 1).trans rfl, (blk_cell BK363.out 2).trans rfl, (blk_cell BK363.out 3).trans rfl, (blk_cell BK363.out 4).trans rfl, (blk_cell BK363.out 5).trans rfl, (blk_cell BK363.out 6).trans rfl, (blk_cell BK363.out 7).trans rfl, (blk_cell BK363.out 8).trans rfl, (blk_cell BK363.out 9).trans rfl, (blk_cell BK363.out 10).trans rfl, (blk_cell BK363.out 11).trans rfl, (blk_cell BK363.out 12).trans rfl⟩ (fun hHeld => ?_)
                        clear hK K
                        refine norm_ (a' := ?_) ?_ ?_
                        rotate_left
                        · show Act.put _ (some 60) _ = _
                          simp only [Act.put, List.setIfInBounds_toArray, List.set_cons_zero, List.set_cons_succ, i64_w, i32_w]
                          rfl
                        refine one_ (i := 11) (N := some 61) #[true, true, true, true, true, true, true, true, true, true, true, true, false, false, false, false, false, false, false, false, false, false, false, false, false, false, false] rfl rfl (one_of HT_.out (by kernel_rfl)) (by decide) (fun K hK => ?_)
                        refine goes_ Try.func3 (by kernel_rfl) rfl #[.agg #[.int .u8 t344, .int .u8 t345, .int .u8 t346, .int .u8 t347, .int .u8 t348, .int .u8 t349, .int .u8 t350, .int .u8 t351, .int .u8 t352, .int .u8 t353, .int .u8 t354, .int .u8 t355, .int .u16 t356], .slice Ao60 y391.length co60] (by rfl) rfl rfl (by (try simp only [List.map_toArray, List.map_cons, List.map_nil]); first | done | rfl | (simp only [List.length_drop, List.length_take]; rfl)) ?_
                        with_reducible refine (sallyportlaw05_LinkBytes.calls k1 t344 t345 t346 t347 t348 t349 t350 t351 t352 t353 t354 t355 t356 _ _ y391 true ⟨by first | rfl | exact hr_.out⟩ _ ?side1 ?side2 A43.out).mono ?_
                        (case side1 => repeat (first | exact (Kd.R_reads' HO393.out).2.2 | (with_reducible refine Kd.C_alloc ?_ _) | (with_reducible refine Kd.C_drewN ?_ _) | (with_reducible refine Kd.C_drew ?_)))
                        (case side2 => exact (Kd.R_reads' HO393.out).2.1)
                        rintro e w61 ⟨rfl, hb⟩
                        refine ⟨_, rfl, ?_⟩
                        have n0_ := Aside0.mk (Kd.R_below (by (with_reducible repeat (first | apply Kd.R_alloc | apply Kd.R_drewN | apply Kd.R_drew)); exact HO_4.out) hb)
                        have n1_ := Aside0.mk (Kd.R_below (by (with_reducible repeat (first | apply Kd.R_alloc | apply Kd.R_drewN | apply Kd.R_drew)); exact HO389.out) hb)
                        have n2_ := Aside0.mk (Kd.R_below (by (with_reducible repeat (first | apply Kd.R_alloc | apply Kd.R_drewN | apply Kd.R_drew)); exact HO393.out) hb)
                        have n3_ := Aside0.mk (blk_below (g := gb363) (o := .cells #[.int .u8 t344, .int .u8 t345, .int .u8 t346, .int .u8 t347, .int .u8 t348, .int .u8 t349, .int .u8 t350, .int .u8 t351, .int .u8 t352, .int .u8 t353, .int .u8 t354, .int .u8 t355, .int .u16 t356] 25 (0, 0)) (by (with_reducible repeat (first | refine blk_drewN ?_ _ | refine blk_drew ?_ | refine blk_alloc ?_ _)); exact BK363.out) hb)
                        have n4_ := Aside0.mk (below_step (by repeat (first | (with_reducible first | exact HB.out | apply below_alloc | apply pw_below_drewN | apply below_drew1 | refine below_set ?_ GE363.out) | exact HB.out)) hb)
                        clear HO_4
                        clear HO389
                        clear HO393
                        clear BK363
                        clear HB
                        have HO_4 := n0_
                        have HO389 := n1_
                        have HO393 := n2_
                        have BK363 := n3_
                        have HB := n4_
                        clear n0_ n1_ n2_ n3_ n4_
                        (try clear hb)
                        (try clear hb2)
                        (try clear hk)
                        (try clear hi)
                        refine hK.out _ _ ⟨(blk_cell BK363.out 0).trans rfl, (blk_cell BK363.out 1).trans rfl, (blk_cell BK363.out 2).trans rfl, (blk_cell BK363.out 3).trans rfl, (blk_cell BK363.out 4).trans rfl, (blk_cell BK363.out 5).trans rfl, (blk_cell BK363.out 6).trans rfl, (blk_cell BK363.out 7).trans rfl, (blk_cell BK363.out 8).trans rfl, (blk_cell BK363.out 9).trans rfl, (blk_cell BK363.out 10).trans rfl, (blk_cell BK363.out 11).trans rfl, (blk_cell BK363.out 12).trans rfl⟩ (fun hHeld => ?_)
                        clear hK K
                        refine norm_ (a' := ?_) ?_ ?_
                        rotate_left
                        · show Act.put _ (some 61) _ = _
                          simp only [Act.put, List.setIfInBounds_toArray, List.set_cons_zero, List.set_cons_succ, i64_w, i32_w]
                          rfl
                        refine pure_ (i := 12) (N := some 62) (v := ?_) (a' := ?_) #[true, true, true, true, true, true, true, true, true, true, true, true, true, false, false, false, false, false, false, false, false, false, false, false, false, false, false] rfl rfl (any_of HT_.out (by kernel_rfl)) (fun _ _ _ h => h) (Or.inl ⟨by rfl, ?_⟩) ?_ ?_
                        rotate_left
                        · intro w'
                          go_simp
                          with_reducible rfl
                        rotate_left
                        · simp only [Act.put, List.setIfInBounds_toArray, List.set_cons_zero, List.set_cons_succ, i64_w, i32_w]
                          rfl
                        refine pure_ (i := 13) (N := some 63) (v := ?_) (a' := ?_) #[true, true, true, true, true, true, true, true, true, true, true, true, true, true, false, false, false, false, false, false, false, false, false, false, false, false, false] rfl rfl (any_of HT_.out (by kernel_rfl)) (fun _ _ _ h => h) (Or.inl ⟨by rfl, ?_⟩) ?_ ?_
                        rotate_left
                        · intro w'
                          go_simp
                          with_reducible rfl
                        rotate_left
                        · simp only [Act.put, List.setIfInBounds_toArray, List.set_cons_zero, List.set_cons_succ, i64_w, i32_w]
                          rfl
                        refine pure_ (i := 14) (N := some 64) (v := ?_) (a' := ?_) #[true, true, true, true, true, true, true, true, true, true, true, true, true, true, true, false, false, false, false, false, false, false, false, false, false, false, false] rfl rfl (any_of HT_.out (by kernel_rfl)) (fun _ _ _ h => h) (Or.inl ⟨by rfl, ?_⟩) ?_ ?_
                        rotate_left
                        · intro w'
                          go_simp
                          with_reducible rfl
                        rotate_left
                        · simp only [Act.put, List.setIfInBounds_toArray, List.set_cons_zero, List.set_cons_succ, i64_w, i32_w]
                          rfl
                        refine one_ (i := 15) (N := some 65) #[true, true, true, true, true, true, true, true, true, true, true, true, true, true, true, true, false, false, false, false, false, false, false, false, false, false, false] rfl rfl (one_of HT_.out (by kernel_rfl)) (by decide) (fun K hK => ?_)
                        refine goes_ Try.func3 (by kernel_rfl) rfl #[.agg #[.int .u8 0, .int .u8 0, .int .u8 0, .int .u8 0, .int .u8 0, .int .u8 0, .int .u8 0, .int .u8 0, .int .u8 0, .int .u8 0, .int .u8 0, .int .u8 0, .int .u16 0], .slice none 0 0] (by rfl) rfl rfl (by (try simp only [List.map_toArray, List.map_cons, List.map_nil]); first | done | rfl | (simp only [List.length_drop, List.length_take]; rfl)) ?_
                        refine (sallyportlaw05_LinkBytes.calls k1 0 0 0 0 0 0 0 0 0 0 0 0 0 _ _ ([] : List Int) true ⟨by first | rfl | exact hr_.out⟩ _ ?side1 ?side2 A45.out).mono ?_
                        (case side1 => exact Kd.C_nil _ _)
                        (case side2 => exact Nat.le_refl _)
                        rintro e w62 ⟨rfl, hb⟩
                        refine ⟨_, rfl, ?_⟩
                        have n0_ := Aside0.mk (Kd.R_below (by (with_reducible repeat (first | apply Kd.R_alloc | apply Kd.R_drewN | apply Kd.R_drew)); exact HO_4.out) hb)
                        have n1_ := Aside0.mk (Kd.R_below (by (with_reducible repeat (first | apply Kd.R_alloc | apply Kd.R_drewN | apply Kd.R_drew)); exact HO389.out) hb)
                        have n2_ := Aside0.mk (Kd.R_below (by (with_reducible repeat (first | apply Kd.R_alloc | apply Kd.R_drewN | apply Kd.R_drew)); exact HO393.out) hb)
                        have n3_ := Aside0.mk (blk_below (g := gb363) (o := .cells #[.int .u8 t344, .int .u8 t345, .int .u8 t346, .int .u8 t347, .int .u8 t348, .int .u8 t349, .int .u8 t350, .int .u8 t351, .int .u8 t352, .int .u8 t353, .int .u8 t354, .int .u8 t355, .int .u16 t356] 25 (0, 0)) (by (with_reducible repeat (first | refine blk_drewN ?_ _ | refine blk_drew ?_ | refine blk_alloc ?_ _)); exact BK363.out) hb)
                        have n4_ := Aside0.mk (below_step (by repeat (first | (with_reducible first | exact HB.out | apply below_alloc | apply pw_below_drewN | apply below_drew1 | refine below_set ?_ GE363.out) | exact HB.out)) hb)
                        clear HO_4
                        clear HO389
                        clear HO393
                        clear BK363
                        clear HB
                        have HO_4 := n0_
                        have HO389 := n1_
                        have HO393 := n2_
                        have BK363 := n3_
                        have HB := n4_
                        clear n0_ n1_ n2_ n3_ n4_
                        (try clear hb)
                        (try clear hb2)
                        (try clear hk)
                        (try clear hi)
                        refine hK.out _ _ ⟨(blk_cell BK363.out 0).trans rfl, (blk_cell BK363.out 1).trans rfl, (blk_cell BK363.out 2).trans rfl, (blk_cell BK363.out 3).trans rfl, (blk_cell BK363.out 4).trans rfl, (blk_cell BK363.out 5).trans rfl, (blk_cell BK363.out 6).trans rfl, (blk_cell BK363.out 7).trans rfl, (blk_cell BK363.out 8).trans rfl, (blk_cell BK363.out 9).trans rfl, (blk_cell BK363.out 10).trans rfl, (blk_cell BK363.out 11).trans rfl, (blk_cell BK363.out 12).trans rfl⟩ (fun hHeld => ?_)
                        clear hK K
                        refine norm_ (a' := ?_) ?_ ?_
                        rotate_left
                        · show Act.put _ (some 65) _ = _
                          simp only [Act.put, List.setIfInBounds_toArray, List.set_cons_zero, List.set_cons_succ, i64_w, i32_w]
                          rfl
                        refine pure_ (i := 16) (N := some 66) (v := ?_) (a' := ?_) #[true, true, true, true, true, true, true, true, true, true, true, true, true, true, true, true, true, false, false, false, false, false, false, false, false, false, false] rfl rfl (any_of HT_.out (by kernel_rfl)) (fun _ _ _ h => h) (Or.inl ⟨by rfl, ?_⟩) ?_ ?_
                        rotate_left
                        · intro w'
                          go_simp
                          with_reducible rfl
                        rotate_left
                        · simp only [Act.put, List.setIfInBounds_toArray, List.set_cons_zero, List.set_cons_succ, i64_w, i32_w]
                          rfl
                        refine pure_ (i := 17) (N := some 67) (v := ?_) (a' := ?_) #[true, true, true, true, true, true, true, true, true, true, true, true, true, true, true, true, true, true, false, false, false, false, false, false, false, false, false] rfl rfl (any_of HT_.out (by kernel_rfl)) (fun _ _ _ h => h) (Or.inl ⟨by rfl, ?_⟩) ?_ ?_
                        rotate_left
                        · intro w'
                          go_simp
                          with_reducible rfl
                        rotate_left
                        · simp only [Act.put, List.setIfInBounds_toArray, List.set_cons_zero, List.set_cons_succ, i64_w, i32_w]
                          rfl
                        refine one_ (i := 18) (N := some 68) #[true, true, true, true, true, true, true, true, true, true, true, true, true, true, true, true, true, true, true, false, false, false, false, false, false, false, false] rfl rfl (one_of HT_.out (by kernel_rfl)) (by decide) (fun K hK => ?_)
                        refine Kd.R_make_step (Kd.int .u8) _ 5 (by rfl) (N := 68) rfl 26 _ _ rfl 70000 rfl rfl Try.underlying26 (.int .u8 0) 1 info5 rfl (by decide) (by omega) 0 (ok := fun _ => True) (okp := fun _ => True) rfl (fun _ hk => hk) trivial (by omega) (by omega) (Below.refl _ _) (Nat.le_refl _) ?_
                        intro v397 w63 ho64 hb hg_ hnew_
                        clear hg_ hnew_
                        (first | rw [← Ny396.out] at ho64 | (simp only [Int.reduceToNat] at ho64; rw [← Ny396.out] at ho64))
                        have n0_ := Aside0.mk (Kd.R_elder' (by (with_reducible repeat (first | apply Kd.R_alloc | apply Kd.R_drewN | apply Kd.R_drew)); exact HO_4.out) (Kd.R_base ho64) hb)
                        have n1_ := Aside0.mk (Kd.R_elder' (by (with_reducible repeat (first | apply Kd.R_alloc | apply Kd.R_drewN | apply Kd.R_drew)); exact HO389.out) (Kd.R_base ho64) hb)
                        have n2_ := Aside0.mk (Kd.R_elder' (by (with_reducible repeat (first | apply Kd.R_alloc | apply Kd.R_drewN | apply Kd.R_drew)); exact HO393.out) (Kd.R_base ho64) hb)
                        have n3_ := Aside0.mk (Kd.R_lower (Kd.R_new' (Kd.R_new' (Kd.R_new' ho64 (Kd.R_lt (by (with_reducible repeat (first | apply Kd.R_alloc | apply Kd.R_drewN | apply Kd.R_drew)); exact HO_4.out))) (Kd.R_lt (by (with_reducible repeat (first | apply Kd.R_alloc | apply Kd.R_drewN | apply Kd.R_drew)); exact HO389.out))) (Kd.R_lt (by (with_reducible repeat (first | apply Kd.R_alloc | apply Kd.R_drewN | apply Kd.R_drew)); exact HO393.out))) (below_size (by repeat (first | (with_reducible first | exact HB.out | apply below_alloc | apply pw_below_drewN | apply below_drew1 | refine below_set ?_ GE363.out) | exact HB.out))))
                        have n4_ := Aside0.mk (blk_below (g := gb363) (o := .cells #[.int .u8 t344, .int .u8 t345, .int .u8 t346, .int .u8 t347, .int .u8 t348, .int .u8 t349, .int .u8 t350, .int .u8 t351, .int .u8 t352, .int .u8 t353, .int .u8 t354, .int .u8 t355, .int .u16 t356] 25 (0, 0)) (by (with_reducible repeat (first | refine blk_drewN ?_ _ | refine blk_drew ?_ | refine blk_alloc ?_ _)); exact BK363.out) hb)
                        have n5_ := Aside0.mk (below_step (by repeat (first | (with_reducible first | exact HB.out | apply below_alloc | apply pw_below_drewN | apply below_drew1 | refine below_set ?_ GE363.out) | exact HB.out)) hb)
                        clear HO_4
                        clear HO389
                        clear HO393
                        clear BK363
                        clear HB
                        have HO_4 := n0_
                        have HO389 := n1_
                        have HO393 := n2_
                        have HO398 := n3_
                        have BK363 := n4_
                        have HB := n5_
                        clear n0_ n1_ n2_ n3_ n4_ n5_
                        clear hb ho64
                        obtain ⟨Ao65, co65, eo65⟩ := Kd.R_slice HO398.out
                        (first | subst eo65 | (injection eo65 with f1_ f2_ f3_; have f4_ := f1_.symm; have f5_ := f3_.symm; clear f1_ f2_ f3_; subst f4_; subst f5_))
                        refine hK.out _ _ ⟨(blk_cell BK363.out 0).trans rfl, (blk_cell BK363.out 1).trans rfl, (blk_cell BK363.out 2).trans rfl, (blk_cell BK363.out 3).trans rfl, (blk_cell BK363.out 4).trans rfl, (blk_cell BK363.out 5).trans rfl, (blk_cell BK363.out 6).trans rfl, (blk_cell BK363.out 7).trans rfl, (blk_cell BK363.out 8).trans rfl, (blk_cell BK363.out 9).trans rfl, (blk_cell BK363.out 10).trans rfl, (blk_cell BK363.out 11).trans rfl, (blk_cell BK363.out 12).trans rfl⟩ (fun hHeld => ?_)
                        clear hK K
                        refine norm_ (a' := ?_) ?_ ?_
                        rotate_left
                        · show Act.put _ (some 68) _ = _
                          simp only [Act.put, List.setIfInBounds_toArray, List.set_cons_zero, List.set_cons_succ, i64_w, i32_w]
                          rfl
                        refine one_ (i := 19) (N := some 69) #[true, true, true, true, true, true, true, true, true, true, true, true, true, true, true, true, true, true, true, true, false, false, false, false, false, false, false] rfl rfl (one_of HT_.out (by kernel_rfl)) (by decide) (fun K hK => ?_)
                        refine goes_ Try.func4 (by kernel_rfl) rfl #[.slice Ao65 y396.length co65] (by rfl) rfl rfl (by (try simp only [List.map_toArray, List.map_cons, List.map_nil]); first | done | rfl | (simp only [List.length_drop, List.length_take]; rfl)) ?_
                        with_reducible refine (sallyportlaw05_LinkReads.calls k1 _ _ y396 true ⟨by first | rfl | exact hr_.out⟩ _ ?side1 ?side2 A48.out).mono ?_
                        (case side1 => repeat (first | exact (Kd.R_reads' HO398.out).2.2 | (with_reducible refine Kd.C_alloc ?_ _) | (with_reducible refine Kd.C_drewN ?_ _) | (with_reducible refine Kd.C_drew ?_)))
                        (case side2 => exact (Kd.R_reads' HO398.out).2.1)
                        rintro e w66 ⟨rfl, hb⟩
                        refine ⟨_, rfl, ?_⟩
                        have n0_ := Aside0.mk (Kd.R_below (by (with_reducible repeat (first | apply Kd.R_alloc | apply Kd.R_drewN | apply Kd.R_drew)); exact HO_4.out) hb)
                        have n1_ := Aside0.mk (Kd.R_below (by (with_reducible repeat (first | apply Kd.R_alloc | apply Kd.R_drewN | apply Kd.R_drew)); exact HO389.out) hb)
                        have n2_ := Aside0.mk (Kd.R_below (by (with_reducible repeat (first | apply Kd.R_alloc | apply Kd.R_drewN | apply Kd.R_drew)); exact HO393.out) hb)
                        have n3_ := Aside0.mk (Kd.R_below (by (with_reducible repeat (first | apply Kd.R_alloc | apply Kd.R_drewN | apply Kd.R_drew)); exact HO398.out) hb)
                        have n4_ := Aside0.mk (blk_below (g := gb363) (o := .cells #[.int .u8 t344, .int .u8 t345, .int .u8 t346, .int .u8 t347, .int .u8 t348, .int .u8 t349, .int .u8 t350, .int .u8 t351, .int .u8 t352, .int .u8 t353, .int .u8 t354, .int .u8 t355, .int .u16 t356] 25 (0, 0)) (by (with_reducible repeat (first | refine blk_drewN ?_ _ | refine blk_drew ?_ | refine blk_alloc ?_ _)); exact BK363.out) hb)
                        have n5_ := Aside0.mk (below_step (by repeat (first | (with_reducible first | exact HB.out | apply below_alloc | apply pw_below_drewN | apply below_drew1 | refine below_set ?_ GE363.out) | exact HB.out)) hb)
                        clear HO_4
                        clear HO389
                        clear HO393
                        clear HO398
                        clear BK363
                        clear HB
                        have HO_4 := n0_
                        have HO389 := n1_
                        have HO393 := n2_
                        have HO398 := n3_
                        have BK363 := n4_
                        have HB := n5_
                        clear n0_ n1_ n2_ n3_ n4_ n5_
                        (try clear hb)
                        (try clear hb2)
                        (try clear hk)
                        (try clear hi)
                        refine hK.out _ _ ⟨(blk_cell BK363.out 0).trans rfl, (blk_cell BK363.out 1).trans rfl, (blk_cell BK363.out 2).trans rfl, (blk_cell BK363.out 3).trans rfl, (blk_cell BK363.out 4).trans rfl, (blk_cell BK363.out 5).trans rfl, (blk_cell BK363.out 6).trans rfl, (blk_cell BK363.out 7).trans rfl, (blk_cell BK363.out 8).trans rfl, (blk_cell BK363.out 9).trans rfl, (blk_cell BK363.out 10).trans rfl, (blk_cell BK363.out 11).trans rfl, (blk_cell BK363.out 12).trans rfl⟩ (fun hHeld => ?_)
                        clear hK K
                        refine norm_ (a' := ?_) ?_ ?_
                        rotate_left
                        · show Act.put _ (some 69) _ = _
                          simp only [Act.put, List.setIfInBounds_toArray, List.set_cons_zero, List.set_cons_succ, i64_w, i32_w]
                          rfl
                        refine pure_ (i := 20) (N := some 70) (v := ?_) (a' := ?_) #[true, true, true, true, true, true, true, true, true, true, true, true, true, true, true, true, true, true, true, true, true, false, false, false, false, false, false] rfl rfl (any_of HT_.out (by kernel_rfl)) (fun _ _ _ h => h) (Or.inl ⟨by rfl, ?_⟩) ?_ ?_
                        rotate_left
                        · intro w'
                          go_simp
                          with_reducible rfl
                        rotate_left
                        · simp only [Act.put, List.setIfInBounds_toArray, List.set_cons_zero, List.set_cons_succ, i64_w, i32_w]
                          rfl
                        refine pure_ (i := 21) (N := some 71) (v := ?_) (a' := ?_) #[true, true, true, true, true, true, true, true, true, true, true, true, true, true, true, true, true, true, true, true, true, true, false, false, false, false, false] rfl rfl (any_of HT_.out (by kernel_rfl)) (fun _ _ _ h => h) (Or.inl ⟨by rfl, ?_⟩) ?_ ?_
                        rotate_left
                        · intro w'
                          go_simp
                          with_reducible rfl
                        rotate_left
                        · simp only [Act.put, List.setIfInBounds_toArray, List.set_cons_zero, List.set_cons_succ, i64_w, i32_w]
                          rfl
                        refine take_ (i := 22) (N := some 72) (v := ?_) (a' := ?_) #[true, true, true, true, true, true, true, true, true, true, true, true, true, true, true, true, true, true, true, true, true, true, true, false, false, false, false] rfl rfl (take_ofW HT_.out HW_.out (by kernel_rfl)) (fun _ _ _ h => h) (Or.inl ⟨by rfl, ?_⟩) hHeld ?_ ?_
                        rotate_left
                        · rintro w' ⟨s0, s1, s2, s3, s4, s5, s6, s7, s8, s9, s10, s11, s12⟩
                          go_simp
                          with_reducible rfl
                        rotate_left
                        · simp only [Act.put, List.setIfInBounds_toArray, List.set_cons_zero, List.set_cons_succ, i64_w, i32_w]
                          rfl
                        refine one_ (i := 23) (N := some 73) #[true, true, true, true, true, true, true, true, true, true, true, true, true, true, true, true, true, true, true, true, true, true, true, true, false, false, false] rfl rfl (one_of HT_.out (by kernel_rfl)) (by decide) (fun K hK => ?_)
                        refine Kd.R_make_step (Kd.int .u8) _ 5 (by rfl) (N := 73) rfl 26 _ _ rfl 2034 rfl rfl Try.underlying26 (.int .u8 0) 1 info5 rfl (by decide) (by omega) 0 (ok := fun _ => True) (okp := fun _ => True) rfl (fun _ hk => hk) trivial (by omega) (by omega) (Below.refl _ _) (Nat.le_refl _) ?_
                        intro v401 w67 ho68 hb hg_ hnew_
                        clear hg_ hnew_
                        (first | rw [← Ny400.out] at ho68 | (simp only [Int.reduceToNat] at ho68; rw [← Ny400.out] at ho68))
                        have n0_ := Aside0.mk (Kd.R_elder' (by (with_reducible repeat (first | apply Kd.R_alloc | apply Kd.R_drewN | apply Kd.R_drew)); exact HO_4.out) (Kd.R_base ho68) hb)
                        have n1_ := Aside0.mk (Kd.R_elder' (by (with_reducible repeat (first | apply Kd.R_alloc | apply Kd.R_drewN | apply Kd.R_drew)); exact HO389.out) (Kd.R_base ho68) hb)
                        have n2_ := Aside0.mk (Kd.R_elder' (by (with_reducible repeat (first | apply Kd.R_alloc | apply Kd.R_drewN | apply Kd.R_drew)); exact HO393.out) (Kd.R_base ho68) hb)
                        have n3_ := Aside0.mk (Kd.R_elder' (by (with_reducible repeat (first | apply Kd.R_alloc | apply Kd.R_drewN | apply Kd.R_drew)); exact HO398.out) (Kd.R_base ho68) hb)
                        have n4_ := Aside0.mk (Kd.R_lower (Kd.R_new' (Kd.R_new' (Kd.R_new' (Kd.R_new' ho68 (Kd.R_lt (by (with_reducible repeat (first | apply Kd.R_alloc | apply Kd.R_drewN | apply Kd.R_drew)); exact HO_4.out))) (Kd.R_lt (by (with_reducible repeat (first | apply Kd.R_alloc | apply Kd.R_drewN | apply Kd.R_drew)); exact HO389.out))) (Kd.R_lt (by (with_reducible repeat (first | apply Kd.R_alloc | apply Kd.R_drewN | apply Kd.R_drew)); exact HO393.out))) (Kd.R_lt (by (with_reducible repeat (first | apply Kd.R_alloc | apply Kd.R_drewN | apply Kd.R_drew)); exact HO398.out))) (below_size (by repeat (first | (with_reducible first | exact HB.out | apply below_alloc | apply pw_below_drewN | apply below_drew1 | refine below_set ?_ GE363.out) | exact HB.out))))
                        have n5_ := Aside0.mk (blk_below (g := gb363) (o := .cells #[.int .u8 t344, .int .u8 t345, .int .u8 t346, .int .u8 t347, .int .u8 t348, .int .u8 t349, .int .u8 t350, .int .u8 t351, .int .u8 t352, .int .u8 t353, .int .u8 t354, .int .u8 t355, .int .u16 t356] 25 (0, 0)) (by (with_reducible repeat (first | refine blk_drewN ?_ _ | refine blk_drew ?_ | refine blk_alloc ?_ _)); exact BK363.out) hb)
                        have n6_ := Aside0.mk (below_step (by repeat (first | (with_reducible first | exact HB.out | apply below_alloc | apply pw_below_drewN | apply below_drew1 | refine below_set ?_ GE363.out) | exact HB.out)) hb)
                        clear HO_4
                        clear HO389
                        clear HO393
                        clear HO398
                        clear BK363
                        clear HB
                        have HO_4 := n0_
                        have HO389 := n1_
                        have HO393 := n2_
                        have HO398 := n3_
                        have HO402 := n4_
                        have BK363 := n5_
                        have HB := n6_
                        clear n0_ n1_ n2_ n3_ n4_ n5_ n6_
                        clear hb ho68
                        obtain ⟨Ao69, co69, eo69⟩ := Kd.R_slice HO402.out
                        (first | subst eo69 | (injection eo69 with f1_ f2_ f3_; have f4_ := f1_.symm; have f5_ := f3_.symm; clear f1_ f2_ f3_; subst f4_; subst f5_))
                        refine hK.out _ _ ⟨(blk_cell BK363.out 0).trans rfl, (blk_cell BK363.out 1).trans rfl, (blk_cell BK363.out 2).trans rfl, (blk_cell BK363.out 3).trans rfl, (blk_cell BK363.out 4).trans rfl, (blk_cell BK363.out 5).trans rfl, (blk_cell BK363.out 6).trans rfl, (blk_cell BK363.out 7).trans rfl, (blk_cell BK363.out 8).trans rfl, (blk_cell BK363.out 9).trans rfl, (blk_cell BK363.out 10).trans rfl, (blk_cell BK363.out 11).trans rfl, (blk_cell BK363.out 12).trans rfl⟩ (fun hHeld => ?_)
                        clear hK K
                        refine norm_ (a' := ?_) ?_ ?_
                        rotate_left
                        · show Act.put _ (some 73) _ = _
                          simp only [Act.put, List.setIfInBounds_toArray, List.set_cons_zero, List.set_cons_succ, i64_w, i32_w]
                          rfl
                        refine one_ (i := 24) (N := some 74) #[true, true, true, true, true, true, true, true, true, true, true, true, true, true, true, true, true, true, true, true, true, true, true, true, true, false, false] rfl rfl (one_of HT_.out (by kernel_rfl)) (by decide) (fun K hK => ?_)
                        refine goes_ Try.func5 (by kernel_rfl) rfl #[.agg #[.int .u8 t344, .int .u8 t345, .int .u8 t346, .int .u8 t347, .int .u8 t348, .int .u8 t349, .int .u8 t350, .int .u8 t351, .int .u8 t352, .int .u8 t353, .int .u8 t354, .int .u8 t355, .int .u16 t356], .slice Ao69 y400.length co69, .slice none 0 0] (by rfl) rfl rfl (by (try simp only [List.map_toArray, List.map_cons, List.map_nil]); first | done | rfl | (simp only [List.length_drop, List.length_take]; rfl)) ?_
                        refine (sallyportlaw05_LinkBack.calls k1 t344 t345 t346 t347 t348 t349 t350 t351 t352 t353 t354 t355 t356 _ _ y400 _ _ ([] : List Int) t403 ⟨by first | rfl | exact hr_.out⟩ _ ?side1 ?side2 ?side3 ?side4 A50.out).mono ?_
                        (case side1 => repeat (first | exact (Kd.R_reads' HO402.out).2.2 | (with_reducible refine Kd.C_alloc ?_ _) | (with_reducible refine Kd.C_drewN ?_ _) | (with_reducible refine Kd.C_drew ?_)))
                        (case side2 => exact (Kd.R_reads' HO402.out).2.1)
                        (case side3 => exact Kd.C_nil _ _)
                        (case side4 => exact Nat.le_refl _)
                        rintro e w70 ⟨rfl, hb⟩
                        refine ⟨_, rfl, ?_⟩
                        have n0_ := Aside0.mk (Kd.R_below (by (with_reducible repeat (first | apply Kd.R_alloc | apply Kd.R_drewN | apply Kd.R_drew)); exact HO_4.out) hb)
                        have n1_ := Aside0.mk (Kd.R_below (by (with_reducible repeat (first | apply Kd.R_alloc | apply Kd.R_drewN | apply Kd.R_drew)); exact HO389.out) hb)
                        have n2_ := Aside0.mk (Kd.R_below (by (with_reducible repeat (first | apply Kd.R_alloc | apply Kd.R_drewN | apply Kd.R_drew)); exact HO393.out) hb)
                        have n3_ := Aside0.mk (Kd.R_below (by (with_reducible repeat (first | apply Kd.R_alloc | apply Kd.R_drewN | apply Kd.R_drew)); exact HO398.out) hb)
                        have n4_ := Aside0.mk (Kd.R_below (by (with_reducible repeat (first | apply Kd.R_alloc | apply Kd.R_drewN | apply Kd.R_drew)); exact HO402.out) hb)
                        have n5_ := Aside0.mk (blk_below (g := gb363) (o := .cells #[.int .u8 t344, .int .u8 t345, .int .u8 t346, .int .u8 t347, .int .u8 t348, .int .u8 t349, .int .u8 t350, .int .u8 t351, .int .u8 t352, .int .u8 t353, .int .u8 t354, .int .u8 t355, .int .u16 t356] 25 (0, 0)) (by (with_reducible repeat (first | refine blk_drewN ?_ _ | refine blk_drew ?_ | refine blk_alloc ?_ _)); exact BK363.out) hb)
                        have n6_ := Aside0.mk (below_step (by repeat (first | (with_reducible first | exact HB.out | apply below_alloc | apply pw_below_drewN | apply below_drew1 | refine below_set ?_ GE363.out) | exact HB.out)) hb)
                        clear HO_4
                        clear HO389
                        clear HO393
                        clear HO398
                        clear HO402
                        clear BK363
                        clear HB
                        have HO_4 := n0_
                        have HO389 := n1_
                        have HO393 := n2_
                        have HO398 := n3_
                        have HO402 := n4_
                        have BK363 := n5_
                        have HB := n6_
                        clear n0_ n1_ n2_ n3_ n4_ n5_ n6_
                        (try clear hb)
                        (try clear hb2)
                        (try clear hk)
                        (try clear hi)
                        refine hK.out _ _ ⟨(blk_cell BK363.out 0).trans rfl, (blk_cell BK363.out 1).trans rfl, (blk_cell BK363.out 2).trans rfl, (blk_cell BK363.out 3).trans rfl, (blk_cell BK363.out 4).trans rfl, (blk_cell BK363.out 5).trans rfl, (blk_cell BK363.out 6).trans rfl, (blk_cell BK363.out 7).trans rfl, (blk_cell BK363.out 8).trans rfl, (blk_cell BK363.out 9).trans rfl, (blk_cell BK363.out 10).trans rfl, (blk_cell BK363.out 11).trans rfl, (blk_cell BK363.out 12).trans rfl⟩ (fun hHeld => ?_)
                        clear hK K
                        refine norm_ (a' := ?_) ?_ ?_
                        rotate_left
                        · show Act.put _ (some 74) _ = _
                          simp only [Act.put, List.setIfInBounds_toArray, List.set_cons_zero, List.set_cons_succ, i64_w, i32_w]
                          rfl
                        refine pure_ (i := 25) (N := some 75) (v := ?_) (a' := ?_) #[true, true, true, true, true, true, true, true, true, true, true, true, true, true, true, true, true, true, true, true, true, true, true, true, true, true, false] rfl rfl (any_of HT_.out (by kernel_rfl)) (fun _ _ _ h => h) (Or.inl ⟨by rfl, ?_⟩) ?_ ?_
                        rotate_left
                        · intro w'
                          go_simp
                          with_reducible rfl
                        rotate_left
                        · simp only [Act.put, List.setIfInBounds_toArray, List.set_cons_zero, List.set_cons_succ, i64_w, i32_w]
                          rfl
                        refine pure_ (i := 26) (N := some 0) (v := ?_) (a' := ?_) #[true, true, true, true, true, true, true, true, true, true, true, true, true, true, true, true, true, true, true, true, true, true, true, true, true, true, true] rfl rfl (any_of HT_.out (by kernel_rfl)) (fun _ _ _ h => h) (Or.inl ⟨by rfl, ?_⟩) ?_ ?_
                        rotate_left
                        · intro w'
                          go_simp
                          with_reducible rfl
                        rotate_left
                        · simp only [Act.put, List.setIfInBounds_toArray, List.set_cons_zero, List.set_cons_succ, i64_w, i32_w]
                          rfl
                        refine done_ (done_of HT_.out (by kernel_rfl)) ?_
                        try go_wp2
                        go_ret
                        exact ⟨by first | rfl | (simp [errW_none, errW_some] <;> rfl) | (simp [*, errW_none, errW_some] <;> rfl), by repeat (first | (with_reducible first | exact HB.out | apply below_alloc | apply pw_below_drewN | apply below_drew1 | refine below_set ?_ GE363.out) | exact HB.out)⟩
                      · replace c49 := Bool.eq_false_iff.mpr c49
                        subst c49
                        have H1 : (some false) = some r := by rw [if_neg (show ¬ (false = true) by decide)] at H; exact H
                        clear H
                        have H := H1
                        clear H1
                        obtain rfl := Option.some.inj H
                        exact absurd hr_.out (by decide)
                    · rw [if_neg c47] at H
                      exact absurd H (by simp)
                  · replace c46 := Bool.eq_false_iff.mpr c46
                    subst c46
                    have H1 : (some false) = some r := by rw [if_neg (show ¬ (false = true) by decide)] at H; exact H
                    clear H
                    have H := H1
                    clear H1
                    obtain rfl := Option.some.inj H
                    exact absurd hr_.out (by decide)
                · replace c44 := Bool.eq_false_iff.mpr c44
                  subst c44
                  have H1 : (some false) = some r := by rw [if_neg (show ¬ (false = true) by decide)] at H; exact H
                  clear H
                  have H := H1
                  clear H1
                  obtain rfl := Option.some.inj H
                  exact absurd hr_.out (by decide)
              · rw [if_neg c42] at H
                exact absurd H (by simp)
            · replace c41 := Bool.eq_false_iff.mpr c41
              subst c41
              have H1 : (some false) = some r := by rw [if_neg (show ¬ (false = true) by decide)] at H; exact H
              clear H
              have H := H1
              clear H1
              obtain rfl := Option.some.inj H
              exact absurd hr_.out (by decide)
          · rw [if_neg c39] at H
            exact absurd H (by simp)
        · replace c38 := Bool.eq_false_iff.mpr c38
          subst c38
          have H1 : (some false) = some r := by rw [if_neg (show ¬ (false = true) by decide)] at H; exact H
          clear H
          have H := H1
          clear H1
          obtain rfl := Option.some.inj H
          exact absurd hr_.out (by decide)

/-- THE ONE PURE STATEMENT of sallyportlaw05_LinkNames: yours. -/
def sallyportlaw05_LinkNames.Pure : Prop := ∃ k, sallyportlaw05_LinkNames.f k  = some true
theorem sallyportlaw05_LinkNames.walk (P : sallyportlaw05_LinkNames.Pure)  (w : World)  :
    Calls Try.prog 7 #[] w fun e w' => e = .returned (.bool true) ∧ Below w.heap.size w w' := by
  obtain ⟨k, h⟩ := P  
  refine (sallyportlaw05_LinkNames.calls k  true ⟨rfl⟩ w h).mono ?_
  rintro e w' ⟨rfl, hd⟩
  exact ⟨rfl, hd⟩

end Go.Proofs.Ytaklgacadjipjaa.P
