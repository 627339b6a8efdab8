/- Contracts of the functions that the statements reach, and the statements: written by a program of this repo (wip/patch_print.py); Lean checks every line; no conditions. -/
import Derived.Test.YtlgiibchnnaceaaPx0
import Derived.Test.YtlgiibchnnaceaaPx1
import Derived.Test.YtlgiibchnnaceaaPx2
import Derived.Test.YtlgiibchnnaceaaPx20
import Derived.Test.YtlgiibchnnaceaaPx21
namespace Go.Proofs.Ytlgiibchnnaceaa.P
open Go.RowKit Go.Proofs.YtlgiibchnnaceaaW.PrintWords Go.Proofs.YtlgiibchnnaceaaW.PrintLast Go.Proofs.YtlgiibchnnaceaaW.PrintMore
attribute [local go_sem] max2_int min2_int max_two min_two max_three min_three max_four min_four   -- for this text's walks alone
set_option linter.unusedVariables false
set_option linter.unusedSimpArgs false

attribute [local go_sem high] eqA42
/-! ### sallyportlaw06_TagFirst: function 13 -/
def sallyportlaw06_TagFirst.l0 : Nat → Int → Int → List Int → Int → Int → Int → Int → Option (Bool)
  | 0, _, _, _, _, _, _, _ => none
  | k + 1, x1, x6, x7, x8, x515000, x515001, x515002 => if x8 < (x7.length : Int) then (if 0 ≤ x8 then (sallyportlaw06_TagFirst.l0 k x1 x6 (x7.set (x8 : Int).toNat (Go.bits .xor .u8 (rd x7 x8) x1)) (wrap64 (x8 + 1)) x515000 x515001 x515002) else (none)) else ((tag_Read.f x7).bind fun bt520 => (if 4 ≤ (x7.length : Int) then ((tag_Read.f (x7.take 4)).bind fun bt529 => (if (bt520.1 == x515000 && (bt520.2.1 == x515001 && (bt520.2.2.1 == x515002))) = true then (if bt520.2.2.2 = x6 then (if (bt529.1 == x515000 && (bt529.2.1 == x515001 && (bt529.2.2.1 == x515002))) = true then (some (bt529.2.2.2 == x6)) else (some false)) else (some false)) else (some false))) else (none)))
def sallyportlaw06_TagFirst.f (k : Nat) (l0 : List Int) (a1 : Int) : Option (Bool) := (sallyportlaw06_awake.f k).bind fun t509 => (if t509 = true then ((tag_Read.f l0).bind fun bt510 => (if (l0.length : Int) < 4 then (if bt510.2.2.2 = 6 then (some (bt510.1 == 0 && (bt510.2.1 == 0 && (bt510.2.2.1 == 0)))) else (some false)) else ((sallyportref00_CopyBytes.f l0).bind fun t515 => (sallyportlaw06_TagFirst.l0 k a1 bt510.2.2.2 t515 4 bt510.1 bt510.2.1 bt510.2.2.1)))) else (some false))
theorem sallyportlaw06_TagFirst.mono_l : ∀ k, (∀ y0 y1 y2 y3 y4 y5 y6, LeO (sallyportlaw06_TagFirst.l0 k y0 y1 y2 y3 y4 y5 y6) (sallyportlaw06_TagFirst.l0 (k + 1) y0 y1 y2 y3 y4 y5 y6))
  | 0 => fun _ _ _ _ _ _ _ r h => by simp [sallyportlaw06_TagFirst.l0] at h
  | k + 1 => by
    have ih0 := sallyportlaw06_TagFirst.mono_l k
    · intro y0 y1 y2 y3 y4 y5 y6
      unfold sallyportlaw06_TagFirst.l0
      repeat' first
      | (with_reducible exact ih0 _ _ _ _ _ _ _)
      | (with_reducible exact sallyportlaw06_awake.mono _)
      | (with_reducible exact LeO.refl _)
      | (with_reducible exact LeO.none _)
      | (with_reducible refine LeO.ite ?_ ?_)
      | (with_reducible refine LeO.bind ?_ (fun _ => ?_))
      | exact ih0 _ _ _ _ _ _ _
      | exact sallyportlaw06_awake.mono _
      | exact LeO.none _
      | refine LeO.ite ?_ ?_
      | refine LeO.bind ?_ (fun _ => ?_)
theorem sallyportlaw06_TagFirst.mono : ∀ a0 a1 k, LeO (sallyportlaw06_TagFirst.f k a0 a1) (sallyportlaw06_TagFirst.f (k + 1) a0 a1) := by
  intro a0 a1 k
  have ih0 := sallyportlaw06_TagFirst.mono_l k
  unfold sallyportlaw06_TagFirst.f
  repeat' first
      | (with_reducible exact ih0 _ _ _ _ _ _ _)
      | (with_reducible exact sallyportlaw06_awake.mono _)
      | (with_reducible exact LeO.refl _)
      | (with_reducible exact LeO.none _)
      | (with_reducible refine LeO.ite ?_ ?_)
      | (with_reducible refine LeO.bind ?_ (fun _ => ?_))
      | exact ih0 _ _ _ _ _ _ _
      | exact sallyportlaw06_awake.mono _
      | exact LeO.none _
      | refine LeO.ite ?_ ?_
      | refine LeO.bind ?_ (fun _ => ?_)
set_option maxHeartbeats 8000000 in
set_option maxRecDepth 100000 in
theorem sallyportlaw06_TagFirst.calls (k : Nat) (A0 : Option Addr) (c0 : Nat) (l0 : List Int) (a1 : Int) (r : Bool) (hr_ : Aside0 (r = true)) (w : World) (hr0 : Kd.C (Kd.int .u8) w A0 l0.length l0) (hc0 : l0.length ≤ c0) (h : sallyportlaw06_TagFirst.f k l0 a1 = some r) :
    Calls Try.prog 13 #[.slice A0 l0.length c0, .int .u8 a1] w fun e w' => e = .returned (.bool r) ∧ Below w.heap.size w w' := by
  have hu42 := Try.underlying42
  have HR0 := Aside0.mk hr0
  have HC0 := Aside0.mk hc0
  clear hr0 hc0
  have HB := Aside0.mk (Below.refl w.heap.size w)
  have H : ((sallyportlaw06_awake.f k).bind fun t509 => (if t509 = true then ((tag_Read.f l0).bind fun bt510 => (if (l0.length : Int) < 4 then (if bt510.2.2.2 = 6 then (some (bt510.1 == 0 && (bt510.2.1 == 0 && (bt510.2.2.1 == 0)))) else (some false)) else ((sallyportref00_CopyBytes.f l0).bind fun t515 => (sallyportlaw06_TagFirst.l0 k a1 bt510.2.2.2 t515 4 bt510.1 bt510.2.1 bt510.2.2.1)))) else (some false))) = some r := h
  clear h
  replace H := Option.bind_eq_some_iff.mp H
  obtain ⟨t509, A30, H⟩ := H
  replace H : (if t509 = true then ((tag_Read.f l0).bind fun bt510 => (if (l0.length : Int) < 4 then (if bt510.2.2.2 = 6 then (some (bt510.1 == 0 && (bt510.2.1 == 0 && (bt510.2.2.1 == 0)))) else (some false)) else ((sallyportref00_CopyBytes.f l0).bind fun t515 => (sallyportlaw06_TagFirst.l0 k a1 bt510.2.2.2 t515 4 bt510.1 bt510.2.1 bt510.2.2.1)))) else (some false)) = some r := H
  have A3 := Aside0.mk A30
  clear A30
  by_cases c4 : t509 = true
  · subst c4
    have H1 : ((tag_Read.f l0).bind fun bt510 => (if (l0.length : Int) < 4 then (if bt510.2.2.2 = 6 then (some (bt510.1 == 0 && (bt510.2.1 == 0 && (bt510.2.2.1 == 0)))) else (some false)) else ((sallyportref00_CopyBytes.f l0).bind fun t515 => (sallyportlaw06_TagFirst.l0 k a1 bt510.2.2.2 t515 4 bt510.1 bt510.2.1 bt510.2.2.1)))) = some r := by rw [if_pos rfl] at H; exact H
    clear H
    have H := H1
    clear H1
    replace H := Option.bind_eq_some_iff.mp H
    obtain ⟨⟨t510, t511, t512, t513⟩, A50, H⟩ := H
    replace H : (if (l0.length : Int) < 4 then (if t513 = 6 then (some (t510 == 0 && (t511 == 0 && (t512 == 0)))) else (some false)) else ((sallyportref00_CopyBytes.f l0).bind fun t515 => (sallyportlaw06_TagFirst.l0 k a1 t513 t515 4 t510 t511 t512))) = some r := H
    have A5 := Aside0.mk A50
    clear A50
    by_cases c6 : (l0.length : Int) < 4
    · rw [if_pos c6] at H
      have c6b0 : decide ((l0.length : Int) < 4) = true := decide_eq_true c6
      have c6b1 : decide (l0.length < 4) = true := decide_eq_true (by omega)
      clear c6
      by_cases c7 : t513 = 6
      · rw [if_pos c7] at H
        have c7b0 : (t513 == 6) = true := beq_iff_eq.mpr c7
        have c7b1 : (t513 != 6) = false := bne_eq_false_iff_eq.mpr c7
        clear c7
        obtain rfl := Option.some.inj H
        go_enter Try.func13, Try.ntmps13
        go_wp2_with (first | ((with_reducible refine gate_callee (f := 40) rfl ?_); refine goesL_ (some 13) rfl rfl Try.func40 (by kernel_rfl) rfl #[] rfl (by (try simp only [List.map_toArray, List.map_cons, List.map_nil]); first | done | rfl | (simp only [List.length_drop, List.length_take]; rfl)) ?_; (with_reducible refine (sallyportlaw06_awake.calls k  true _ A3.out).mono ?_); rintro e w8 ⟨rfl, hb⟩; refine ⟨_, rfl, ?_⟩; have n0_ := Aside0.mk (below_step (by repeat (first | (with_reducible first | exact HB.out | apply below_alloc | apply pw_below_drewN | apply below_drew1) | exact HB.out)) hb); clear HB; have HB := n0_; clear n0_; (try clear hb); (try clear hb2); (try clear hk); (try clear hi)) | ((with_reducible refine gate_callee (f := 41) rfl ?_); refine goesL_ (some 17) rfl rfl Try.func41 (by kernel_rfl) rfl #[.slice A0 l0.length c0] rfl (by (try simp only [List.map_toArray, List.map_cons, List.map_nil]); first | done | rfl | (simp only [List.length_drop, List.length_take]; rfl)) ?_; (with_reducible refine (tag_Read.calls _ _ l0 t510 t511 t512 t513 _ ?side1 ?side2 A5.out).mono ?_); (case side1 => repeat (first | exact (Kd.C_below HR0.out HB.out) | (with_reducible refine Kd.C_alloc ?_ _) | (with_reducible refine Kd.C_drewN ?_ _) | (with_reducible refine Kd.C_drew ?_))); (case side2 => exact HC0.out); rintro e w9 ⟨rfl, hb⟩; refine ⟨_, rfl, ?_⟩; have n0_ := Aside0.mk (below_step (by repeat (first | (with_reducible first | exact HB.out | apply below_alloc | apply pw_below_drewN | apply below_drew1) | exact HB.out)) hb); clear HB; have HB := n0_; clear n0_; (try clear hb); (try clear hb2); (try clear hk); (try clear hi)) | ((with_reducible refine gate_dst (N := 5) rfl ?_); refine box_event ?hg (N := 5) ?hd (cs := #[.int .u8 0, .int .u16 0, .int .u16 0]) (t := 42) ?hr ?_; (case hd => rfl); (case hg => rfl); (case hr => first | (go_simp; done) | (go_simp; rfl)); intro gb514 hg w10 hbox hb; have n0_ := Aside0.mk (below_step (by repeat (first | (with_reducible first | exact HB.out | apply below_alloc | apply pw_below_drewN | apply below_drew1) | exact HB.out)) hb); have n1_ := Aside0.mk (hbox); have n2_ := Aside0.mk ((by rw [hg]; exact (below_size (by repeat (first | (with_reducible first | exact HB.out | apply below_alloc | apply pw_below_drewN | apply below_drew1) | exact HB.out))) : w.heap.size ≤ gb514)); have n3_ := Aside0.mk ((by rw [hg]; exact (below_size (by repeat (first | (with_reducible first | exact HB.out | apply below_alloc | apply pw_below_drewN | apply below_drew1) | exact HB.out))) : w.heap.size ≤ gb514)); clear HB; have HB := n0_; have BK514 := n1_; have GW514 := n2_; have GE514 := n3_; clear n0_ n1_ n2_ n3_; clear hb hbox hg; have hcz11_0 : w10.cell? ⟨gb514, 0, none⟩ = some (.int .u8 0) := (blk_cell BK514.out 0).trans rfl; have hcz11_1 : w10.cell? ⟨gb514, 1, none⟩ = some (.int .u16 0) := (blk_cell BK514.out 1).trans rfl; have hcz11_2 : w10.cell? ⟨gb514, 2, none⟩ = some (.int .u16 0) := (blk_cell BK514.out 2).trans rfl; have hfz11_0 := blk_frozen BK514.out 0; have hfz11_1 := blk_frozen BK514.out 1; have hfz11_2 := blk_frozen BK514.out 2))
        go_ret
        exact ⟨by first | rfl | (simp [errW_none, errW_some] <;> rfl) | (simp [*, errW_none, errW_some] <;> rfl), by repeat (first | (with_reducible first | exact HB.out | apply below_alloc | apply pw_below_drewN | apply below_drew1 | refine below_set ?_ GE514.out) | exact HB.out)⟩
      · rw [if_neg c7] at H
        have c7b0 : (t513 == 6) = false := beq_eq_false_iff_ne.mpr c7
        have c7b1 : (t513 != 6) = true := bne_iff_ne.mpr c7
        obtain rfl := Option.some.inj H
        exact absurd hr_.out (by decide)
    · rw [if_neg c6] at H
      have c6b0 : decide ((l0.length : Int) < 4) = false := decide_eq_false c6
      have c6b1 : decide (l0.length < 4) = false := decide_eq_false (by omega)
      clear c6
      replace H := Option.bind_eq_some_iff.mp H
      obtain ⟨t515, A120, H⟩ := H
      replace H : (sallyportlaw06_TagFirst.l0 k a1 t513 t515 4 t510 t511 t512) = some r := H
      have A12 := Aside0.mk A120
      clear A120
      have H' := Aside0.mk H
      clear H
      go_enter Try.func13, Try.ntmps13
      go_wp2_with (first | ((with_reducible refine gate_callee (f := 40) rfl ?_); refine goesL_ (some 13) rfl rfl Try.func40 (by kernel_rfl) rfl #[] rfl (by (try simp only [List.map_toArray, List.map_cons, List.map_nil]); first | done | rfl | (simp only [List.length_drop, List.length_take]; rfl)) ?_; (with_reducible refine (sallyportlaw06_awake.calls k  true _ A3.out).mono ?_); rintro e w13 ⟨rfl, hb⟩; refine ⟨_, rfl, ?_⟩; have n0_ := Aside0.mk (below_step (by repeat (first | (with_reducible first | exact HB.out | apply below_alloc | apply pw_below_drewN | apply below_drew1) | exact HB.out)) hb); clear HB; have HB := n0_; clear n0_; (try clear hb); (try clear hb2); (try clear hk); (try clear hi)) | ((with_reducible refine gate_callee (f := 41) rfl ?_); refine goesL_ (some 17) rfl rfl Try.func41 (by kernel_rfl) rfl #[.slice A0 l0.length c0] rfl (by (try simp only [List.map_toArray, List.map_cons, List.map_nil]); first | done | rfl | (simp only [List.length_drop, List.length_take]; rfl)) ?_; (with_reducible refine (tag_Read.calls _ _ l0 t510 t511 t512 t513 _ ?side1 ?side2 A5.out).mono ?_); (case side1 => repeat (first | exact (Kd.C_below HR0.out HB.out) | (with_reducible refine Kd.C_alloc ?_ _) | (with_reducible refine Kd.C_drewN ?_ _) | (with_reducible refine Kd.C_drew ?_))); (case side2 => exact HC0.out); rintro e w14 ⟨rfl, hb⟩; refine ⟨_, rfl, ?_⟩; have n0_ := Aside0.mk (below_step (by repeat (first | (with_reducible first | exact HB.out | apply below_alloc | apply pw_below_drewN | apply below_drew1) | exact HB.out)) hb); clear HB; have HB := n0_; clear n0_; (try clear hb); (try clear hb2); (try clear hk); (try clear hi)) | ((with_reducible refine gate_dst (N := 5) rfl ?_); refine box_event ?hg (N := 5) ?hd (cs := #[.int .u8 0, .int .u16 0, .int .u16 0]) (t := 42) ?hr ?_; (case hd => rfl); (case hg => rfl); (case hr => first | (go_simp; done) | (go_simp; rfl)); intro gb514 hg w15 hbox hb; have n0_ := Aside0.mk (below_step (by repeat (first | (with_reducible first | exact HB.out | apply below_alloc | apply pw_below_drewN | apply below_drew1) | exact HB.out)) hb); have n1_ := Aside0.mk (hbox); have n2_ := Aside0.mk ((by rw [hg]; exact (below_size (by repeat (first | (with_reducible first | exact HB.out | apply below_alloc | apply pw_below_drewN | apply below_drew1) | exact HB.out))) : w.heap.size ≤ gb514)); have n3_ := Aside0.mk ((by rw [hg]; exact (below_size (by repeat (first | (with_reducible first | exact HB.out | apply below_alloc | apply pw_below_drewN | apply below_drew1) | exact HB.out))) : w.heap.size ≤ gb514)); clear HB; have HB := n0_; have BK514 := n1_; have GW514 := n2_; have GE514 := n3_; clear n0_ n1_ n2_ n3_; clear hb hbox hg; have hcz16_0 : w15.cell? ⟨gb514, 0, none⟩ = some (.int .u8 0) := (blk_cell BK514.out 0).trans rfl; have hcz16_1 : w15.cell? ⟨gb514, 1, none⟩ = some (.int .u16 0) := (blk_cell BK514.out 1).trans rfl; have hcz16_2 : w15.cell? ⟨gb514, 2, none⟩ = some (.int .u16 0) := (blk_cell BK514.out 2).trans rfl; have hfz16_0 := blk_frozen BK514.out 0; have hfz16_1 := blk_frozen BK514.out 1; have hfz16_2 := blk_frozen BK514.out 2) | ((with_reducible refine gate_callee (f := 15) rfl ?_); refine goesL_ (some 31) rfl rfl Try.func15 (by kernel_rfl) rfl #[.slice A0 l0.length c0] rfl (by (try simp only [List.map_toArray, List.map_cons, List.map_nil]); first | done | rfl | (simp only [List.length_drop, List.length_take]; rfl)) ?_; (with_reducible refine (sallyportref00_CopyBytes.calls _ _ l0 t515 _ ?side1 ?side2 A12.out).mono ?_); (case side1 => exact Kd.C_below HR0.out (by repeat (first | (with_reducible first | exact HB.out | apply below_alloc | apply pw_below_drewN | apply below_drew1 | refine below_set ?_ GE514.out) | exact HB.out))); (case side2 => exact HC0.out); rintro e w17 ⟨v516, rfl, ho0, hb⟩; refine ⟨_, rfl, ?_⟩; have n0_ := Aside0.mk (Kd.R_lower ho0 (below_size (by repeat (first | (with_reducible first | exact HB.out | apply below_alloc | apply pw_below_drewN | apply below_drew1 | refine below_set ?_ GE514.out) | exact HB.out)))); have n1_ := Aside0.mk (blk_below (g := gb514) (o := .cells #[.int .u8 t510, .int .u16 t511, .int .u16 t512] 42 (0, 0)) (by (with_reducible repeat (first | refine blk_drewN ?_ _ | refine blk_drew ?_ | refine blk_alloc ?_ _)); refine blk_put (cs := #[.int .u8 t510, .int .u16 t511, .int .u16 0]) ?_ 2 _ rfl; (with_reducible repeat (first | refine blk_drewN ?_ _ | refine blk_drew ?_ | refine blk_alloc ?_ _)); refine blk_put (cs := #[.int .u8 t510, .int .u16 0, .int .u16 0]) ?_ 1 _ rfl; (with_reducible repeat (first | refine blk_drewN ?_ _ | refine blk_drew ?_ | refine blk_alloc ?_ _)); refine blk_put (cs := #[.int .u8 0, .int .u16 0, .int .u16 0]) ?_ 0 _ rfl; (with_reducible repeat (first | refine blk_drewN ?_ _ | refine blk_drew ?_ | refine blk_alloc ?_ _)); exact BK514.out) hb); have n2_ := Aside0.mk (below_step (by repeat (first | (with_reducible first | exact HB.out | apply below_alloc | apply pw_below_drewN | apply below_drew1 | refine below_set ?_ GE514.out) | exact HB.out)) hb); clear BK514; clear HB; have HO517 := n0_; have BK514 := n1_; have HB := n2_; clear n0_ n1_ n2_; (try clear hb); (try clear hb2); (try clear hk); (try clear hi); (try clear ho0)))
      go_loopg [8] k (fun kq v8 w' => ∃ (x7_1 : List Int) (x8_1 : Int), v8 = .int .i64 x8_1 ∧ Aside0 (sallyportlaw06_TagFirst.l0 kq a1 t513 x7_1 x8_1 t510 t511 t512 = some r) ∧ Aside0 (kq ≤ k) ∧ Aside0 (Kd.R (Kd.int .u8) 5 w' w.heap.size (fun _ => True) v516 x7_1) ∧ Aside0 (w'.heap[gb514]? = some (.cells #[.int .u8 t510, .int .u16 t511, .int .u16 t512] 42 (0, 0))) ∧ Aside0 (Below w.heap.size w w'))
      case atStart => exact ⟨(t515), (4), (by first | rfl | (simp; done) | (simp [*]; done)), H', ⟨Nat.le_refl _⟩, ⟨by (with_reducible repeat (first | apply Kd.R_alloc | apply Kd.R_drewN | apply Kd.R_drew)); exact HO517.out⟩, ⟨by (with_reducible repeat (first | refine blk_drewN ?_ _ | refine blk_drew ?_ | refine blk_alloc ?_ _)); exact BK514.out⟩, ⟨by repeat (first | (with_reducible first | exact HB.out | apply below_alloc | apply pw_below_drewN | apply below_drew1 | refine below_set ?_ GE514.out) | exact HB.out)⟩⟩
      case round =>
        clear H'
        try clear c1
        try clear p2
        try clear c4
        try clear c6
        try clear c6b0
        try clear c6b1
        try clear c7
        try clear c7b0
        try clear c7b1
        try clear c13
        try clear c15
        try clear hcz11_0
        try clear hcz11_1
        try clear hcz11_2
        try clear hcz16_0
        try clear hcz16_1
        try clear hcz16_2
        try clear hfz11_0
        try clear hfz11_1
        try clear hfz11_2
        try clear hfz16_0
        try clear hfz16_1
        try clear hfz16_2
        obtain ⟨x7_1, x8_1, rfl, HA, HK1, HO_7, BK514, HB⟩ := hrel
        cases gk with
        | zero => exact absurd HA.out (by simp [sallyportlaw06_TagFirst.l0])
        | succ k1 =>
          have H := HA.out
          clear HA
          simp only [sallyportlaw06_TagFirst.l0] at H
          by_cases c18 : x8_1 < (x7_1.length : Int)
          · rw [if_pos c18] at H
            have c18b0 : decide (x8_1 < (x7_1.length : Int)) = true := decide_eq_true c18
            clear c18
            by_cases c19 : 0 ≤ x8_1
            · rw [if_pos c19] at H
              have c19b0 : decide (0 ≤ x8_1) = true := decide_eq_true c19
              clear c19
              obtain ⟨y519, hy519⟩ : ∃ y_ : List Int, y_ = (x7_1.set (x8_1 : Int).toNat (Go.bits .xor .u8 (rd x7_1 x8_1) a1)) := ⟨_, rfl⟩
              replace H : (sallyportlaw06_TagFirst.l0 k1 a1 t513 y519 (wrap64 (x8_1 + 1)) t510 t511 t512) = some r := by first | (rw [hy519]; with_reducible exact H) | (have H2_ := (Option.bind_some _ _).symm.trans H; rw [hy519]; with_reducible exact H2_) | (have H2_ := (Option.bind_some _ _).symm.trans H; with_reducible exact H2_) | with_reducible exact H | (rw [hy519]; exact H) | exact H
              have Ny519 := Aside0.mk hy519
              clear hy519
              have H' := Aside0.mk H
              clear H
              obtain ⟨Ao21, co21, eo21⟩ := Kd.R_slice HO_7.out
              subst eo21
              have p518 : 0 ≤ (x8_1 : Int) := of_decide_eq_true (by first | (with_reducible assumption) | assumption)
              have q518 : x8_1 < (x7_1.length : Int) := of_decide_eq_true (by first | (with_reducible assumption) | assumption)
              obtain ⟨ad518, e518, hx518_0⟩ := Kd.at_int (Kd.R_reads' HO_7.out).2.2 x8_1 p518 q518
              cases e518
              replace p518 := eq_true p518
              replace q518 := eq_true q518
              have p20 : 0 ≤ (x8_1 : Int) := of_decide_eq_true (by first | (with_reducible assumption) | assumption)
              have q20 : (x8_1 : Int) < ((x7_1.length : Int) : Int) := of_decide_eq_true (by first | (with_reducible assumption) | assumption)
              obtain ⟨go20, co20, eo20, gb20, gl20, cl20, HG20⟩ := Kd.R_form HO_7.out (by omega)
              (first | cases eo20 | (injection eo20 with ea_ en_ ec_; (first | subst ea_ | (injection ea_ with ea_; subst ea_)); subst ec_; clear en_))
              have GB20 := Aside0.mk gb20
              have GG20 := Aside0.mk HG20
              clear gb20 gl20 HG20
              (first | simp only [add_plain] at hx518_0 | skip)
              obtain ⟨hx20_0, hf20_0⟩ := Kd.R_celln 0 HO_7.out (x8_1 : Int) p20 q20
              replace p20 := eq_true p20
              replace q20 := eq_true q20
              have HP22 := Kd.R_putg HO_7.out (x8_1 : Int) (Go.bits .xor .u8 (rd x7_1 x8_1) a1)
              go_wp2_with (first | ((with_reducible refine gate_store (t := 5) (p := 46) rfl ?_); refine store_event (t := 5) (p := 46) (v := ?vo_w23) (w1 := (wr.setCell ⟨go20, (x8_1 : Int).toNat, none⟩ (.int .u8 (Go.bits .xor .u8 (rd x7_1 x8_1) a1)))) ?hg ?ho ?hn ?hr ?_; (case ho => rfl); (case hg => rfl); (case hn => rfl); (case hr => first | (go_simp; done) | (go_simp; rfl)); intro w23 hw; have hg : wr.grownBy w23 (some go20) := (by rw [hw]; exact HP22.2); have hp_ : Kd.R (Kd.int .u8) 5 w23 w.heap.size (fun _ => True) (.slice (some ⟨go20, 0, none⟩) x7_1.length co21) y519 := (by rw [hw, Ny519.out]; exact HP22.1); clear HP22; have n0_ := Aside0.mk (hp_); have n1_ := Aside0.mk (blk_grown (g := gb514) (o := .cells #[.int .u8 t510, .int .u16 t511, .int .u16 t512] 42 (0, 0)) (by (with_reducible repeat (first | refine blk_drewN ?_ _ | refine blk_drew ?_ | refine blk_alloc ?_ _)); exact BK514.out) hg (Kd.R_ne HO_7.out BK514.out (by decide))); have n2_ := Aside0.mk ((by rw [hw]; exact below_set (HB.out) GB20.out : Below w.heap.size w w23)); clear HO_7; clear BK514; clear HB; have HO_7 := n0_; have BK514 := n1_; have HB := n2_; clear n0_ n1_ n2_; clear hg hw hp_))
              go_roundg k1
              case measure => have := HK1.out; omega
              case rel => exact ⟨(y519), (wrap64 (x8_1 + 1)), (by first | rfl | (simp; done) | (simp [*]; done)), H', ⟨by have := HK1.out; omega⟩, ⟨by (with_reducible repeat (first | apply Kd.R_alloc | apply Kd.R_drewN | apply Kd.R_drew)); exact HO_7.out⟩, ⟨by (with_reducible repeat (first | refine blk_drewN ?_ _ | refine blk_drew ?_ | refine blk_alloc ?_ _)); exact BK514.out⟩, ⟨by repeat (first | (with_reducible first | exact HB.out | apply below_alloc | apply pw_below_drewN | apply below_drew1 | refine below_set ?_ GE514.out) | exact HB.out)⟩⟩
            · rw [if_neg c19] at H
              exact absurd H (by simp)
          · rw [if_neg c18] at H
            have c18b0 : decide (x8_1 < (x7_1.length : Int)) = false := decide_eq_false c18
            clear c18
            replace H := Option.bind_eq_some_iff.mp H
            obtain ⟨⟨t520, t521, t522, t523⟩, A240, H⟩ := H
            replace H : (if 4 ≤ (x7_1.length : Int) then ((tag_Read.f (x7_1.take 4)).bind fun bt529 => (if (t520 == t510 && (t521 == t511 && (t522 == t512))) = true then (if t523 = t513 then (if (bt529.1 == t510 && (bt529.2.1 == t511 && (bt529.2.2.1 == t512))) = true then (some (bt529.2.2.2 == t513)) else (some false)) else (some false)) else (some false))) else (none)) = some r := H
            have A24 := Aside0.mk A240
            clear A240
            by_cases c25 : 4 ≤ (x7_1.length : Int)
            · rw [if_pos c25] at H
              have c25b0 := eq_true c25
              have c25b1 : decide (4 ≤ (x7_1.length : Int)) = true := decide_eq_true c25
              clear c25
              obtain ⟨y525, hy525⟩ : ∃ y_ : List Int, y_ = (x7_1.take 4) := ⟨_, rfl⟩
              replace H : ((tag_Read.f y525).bind fun bt529 => (if (t520 == t510 && (t521 == t511 && (t522 == t512))) = true then (if t523 = t513 then (if (bt529.1 == t510 && (bt529.2.1 == t511 && (bt529.2.2.1 == t512))) = true then (some (bt529.2.2.2 == t513)) else (some false)) else (some false)) else (some false))) = some r := by first | (rw [hy525]; with_reducible exact H) | (have H2_ := (Option.bind_some _ _).symm.trans H; rw [hy525]; with_reducible exact H2_) | (have H2_ := (Option.bind_some _ _).symm.trans H; with_reducible exact H2_) | with_reducible exact H | (rw [hy525]; exact H) | exact H
              have Ny525 := Aside0.mk hy525
              clear hy525
              replace H := Option.bind_eq_some_iff.mp H
              obtain ⟨⟨t529, t530, t531, t532⟩, A260, H⟩ := H
              replace H : (if (t520 == t510 && (t521 == t511 && (t522 == t512))) = true then (if t523 = t513 then (if (t529 == t510 && (t530 == t511 && (t531 == t512))) = true then (some (t532 == t513)) else (some false)) else (some false)) else (some false)) = some r := H
              have A26 := Aside0.mk A260
              clear A260
              by_cases c27 : (t520 == t510 && (t521 == t511 && (t522 == t512))) = true
              · rw [if_pos c27] at H
                have c27b0 : (t520 == t510 && (t521 == t511 && (t522 == t512))) = true := c27
                (try (have c27b1 : decide (t520 = t510 && (t521 == t511 && (t522 == t512))) = true := by simpa using c27))
                (try (have c27b2 : (t520 == t510 && (t521 == t511 && (t522 == t512))) = true := by simpa using c27))
                clear c27
                by_cases c28 : t523 = t513
                · rw [if_pos c28] at H
                  have c28b0 : (t523 == t513) = true := beq_iff_eq.mpr c28
                  have c28b1 : (t523 != t513) = false := bne_eq_false_iff_eq.mpr c28
                  clear c28
                  by_cases c29 : (t529 == t510 && (t530 == t511 && (t531 == t512))) = true
                  · rw [if_pos c29] at H
                    have c29b0 : (t529 == t510 && (t530 == t511 && (t531 == t512))) = true := c29
                    (try (have c29b1 : decide (t529 = t510 && (t530 == t511 && (t531 == t512))) = true := by simpa using c29))
                    (try (have c29b2 : (t529 == t510 && (t530 == t511 && (t531 == t512))) = true := by simpa using c29))
                    clear c29
                    obtain rfl := Option.some.inj H
                    obtain ⟨Ao30, co30, eo30⟩ := Kd.R_slice HO_7.out
                    subst eo30
                    go_wp2_with (first | ((with_reducible refine gate_callee (f := 41) rfl ?_); refine goesL_ (some 49) rfl rfl Try.func41 (by kernel_rfl) rfl #[.slice Ao30 x7_1.length co30] rfl (by (try simp only [List.map_toArray, List.map_cons, List.map_nil]); first | done | rfl | (simp only [List.length_drop, List.length_take]; rfl)) ?_; (with_reducible refine (tag_Read.calls _ _ x7_1 t520 t521 t522 t523 _ ?side1 ?side2 A24.out).mono ?_); (case side1 => repeat (first | exact (Kd.R_reads' HO_7.out).2.2 | (with_reducible refine Kd.C_alloc ?_ _) | (with_reducible refine Kd.C_drewN ?_ _) | (with_reducible refine Kd.C_drew ?_))); (case side2 => exact (Kd.R_reads' HO_7.out).2.1); rintro e w31 ⟨rfl, hb⟩; refine ⟨_, rfl, ?_⟩; have n0_ := Aside0.mk (Kd.R_below (by (with_reducible repeat (first | apply Kd.R_alloc | apply Kd.R_drewN | apply Kd.R_drew)); exact HO_7.out) hb); have n1_ := Aside0.mk (blk_below (g := gb514) (o := .cells #[.int .u8 t510, .int .u16 t511, .int .u16 t512] 42 (0, 0)) (by (with_reducible repeat (first | refine blk_drewN ?_ _ | refine blk_drew ?_ | refine blk_alloc ?_ _)); exact BK514.out) hb); have n2_ := Aside0.mk (below_step (by repeat (first | (with_reducible first | exact HB.out | apply below_alloc | apply pw_below_drewN | apply below_drew1 | refine below_set ?_ GE514.out) | exact HB.out)) hb); clear HO_7; clear BK514; clear HB; have HO_7 := n0_; have BK514 := n1_; have HB := n2_; clear n0_ n1_ n2_; (try clear hb); (try clear hb2); (try clear hk); (try clear hi)) | ((with_reducible refine gate_dst (N := 9) rfl ?_); refine box_event ?hg (N := 9) ?hd (cs := #[.int .u8 0, .int .u16 0, .int .u16 0]) (t := 42) ?hr ?_; (case hd => rfl); (case hg => rfl); (case hr => first | (go_simp; done) | (go_simp; rfl)); intro gb524 hg w32 hbox hb; have n0_ := Aside0.mk (Kd.R_below (by (with_reducible repeat (first | apply Kd.R_alloc | apply Kd.R_drewN | apply Kd.R_drew)); exact HO_7.out) hb); have n1_ := Aside0.mk (blk_below (g := gb514) (o := .cells #[.int .u8 t510, .int .u16 t511, .int .u16 t512] 42 (0, 0)) (by (with_reducible repeat (first | refine blk_drewN ?_ _ | refine blk_drew ?_ | refine blk_alloc ?_ _)); exact BK514.out) hb); have n2_ := Aside0.mk (below_step (by repeat (first | (with_reducible first | exact HB.out | apply below_alloc | apply pw_below_drewN | apply below_drew1 | refine below_set ?_ GE514.out) | exact HB.out)) hb); have n3_ := Aside0.mk (hbox); have n4_ := Aside0.mk ((by rw [hg]; exact (below_size (by repeat (first | (with_reducible first | exact HB.out | apply below_alloc | apply pw_below_drewN | apply below_drew1 | refine below_set ?_ GE514.out) | exact HB.out))) : w.heap.size ≤ gb524)); have n5_ := Aside0.mk ((by rw [hg]; exact (below_size (by repeat (first | (with_reducible first | exact HB.out | apply below_alloc | apply pw_below_drewN | apply below_drew1 | refine below_set ?_ GE514.out) | exact HB.out))) : w.heap.size ≤ gb524)); have n6_ := Aside0.mk ((by rw [hg]; exact Nat.ne_of_lt (blk_lt (g := gb514) (o := .cells #[.int .u8 t510, .int .u16 t511, .int .u16 t512] 42 (0, 0)) (by (with_reducible repeat (first | refine blk_drewN ?_ _ | refine blk_drew ?_ | refine blk_alloc ?_ _)); exact BK514.out)) : gb514 ≠ gb524)); have n7_ := Aside0.mk ((by rw [hg]; exact Nat.ne_of_gt (blk_lt (g := gb514) (o := .cells #[.int .u8 t510, .int .u16 t511, .int .u16 t512] 42 (0, 0)) (by (with_reducible repeat (first | refine blk_drewN ?_ _ | refine blk_drew ?_ | refine blk_alloc ?_ _)); exact BK514.out)) : gb524 ≠ gb514)); clear HO_7; clear BK514; clear HB; have HO_7 := n0_; have BK514 := n1_; have HB := n2_; have BK524 := n3_; have GW524 := n4_; have GE524 := n5_; have NB514_524 := n6_; have NB524_514 := n7_; clear n0_ n1_ n2_ n3_ n4_ n5_ n6_ n7_; clear hb hbox hg; have hnb33 := NB524_514.out; have hnc33 := NB514_524.out; have hcz34_0 : w32.cell? ⟨gb524, 0, none⟩ = some (.int .u8 0) := (blk_cell BK524.out 0).trans rfl; have hcz34_1 : w32.cell? ⟨gb524, 1, none⟩ = some (.int .u16 0) := (blk_cell BK524.out 1).trans rfl; have hcz34_2 : w32.cell? ⟨gb524, 2, none⟩ = some (.int .u16 0) := (blk_cell BK524.out 2).trans rfl; have hfz34_0 := blk_frozen BK524.out 0; have hfz34_1 := blk_frozen BK524.out 1; have hfz34_2 := blk_frozen BK524.out 2) | ((with_reducible refine gate_store (t := 42) (p := 9) rfl ?_); refine store_event (t := 42) (p := 9) (v := ?vo_w35) (w1 := (((w32.setCell ⟨gb524, 0, none⟩ (.int .u8 t520)).setCell ⟨gb524, 1, none⟩ (.int .u16 t521)).setCell ⟨gb524, 2, none⟩ (.int .u16 t522))) ?hg ?ho ?hn ?hr ?_; (case ho => rfl); (case hg => rfl); (case hn => rfl); (case hr => first | (go_simp; done) | (go_simp; rfl)); intro w35 hw; have n0_ : Aside0 (Kd.R (Kd.int .u8) 5 w35 w.heap.size (fun _ => True) (.slice Ao30 x7_1.length co30) x7_1) := ⟨(by rw [hw]; exact (by (with_reducible repeat (first | apply Kd.R_alloc | apply Kd.R_drewN | apply Kd.R_drew)); exact Kd.R_mono (Kd.R_far (p := ⟨gb524, 2, none⟩) (Kd.R_far (p := ⟨gb524, 1, none⟩) (Kd.R_far (p := ⟨gb524, 0, none⟩) (Kd.R_types HO_7.out BK524.out (by decide)) (fun _ hk => hk.2) (.int .u8 t520)) (fun _ hk => hk.2) (.int .u16 t521)) (fun _ hk => hk.2) (.int .u16 t522)) (fun _ hk => trivial)))⟩; have n1_ : Aside0 (w35.heap[gb514]? = some (.cells #[.int .u8 t510, .int .u16 t511, .int .u16 t512] 42 (0, 0))) := ⟨(by rw [hw]; exact (by (with_reducible repeat (first | refine blk_drewN ?_ _ | refine blk_drew ?_ | refine blk_alloc ?_ _)); refine blk_far ?_ NB514_524.out _; (with_reducible repeat (first | refine blk_drewN ?_ _ | refine blk_drew ?_ | refine blk_alloc ?_ _)); refine blk_far ?_ NB514_524.out _; (with_reducible repeat (first | refine blk_drewN ?_ _ | refine blk_drew ?_ | refine blk_alloc ?_ _)); refine blk_far ?_ NB514_524.out _; (with_reducible repeat (first | refine blk_drewN ?_ _ | refine blk_drew ?_ | refine blk_alloc ?_ _)); exact BK514.out))⟩; have n2_ : Aside0 (w35.heap[gb524]? = some (.cells #[.int .u8 t520, .int .u16 t521, .int .u16 t522] 42 (0, 0))) := ⟨(by rw [hw]; exact (by (with_reducible repeat (first | refine blk_drewN ?_ _ | refine blk_drew ?_ | refine blk_alloc ?_ _)); refine blk_put (cs := #[.int .u8 t520, .int .u16 t521, .int .u16 0]) ?_ 2 _ rfl; (with_reducible repeat (first | refine blk_drewN ?_ _ | refine blk_drew ?_ | refine blk_alloc ?_ _)); refine blk_put (cs := #[.int .u8 t520, .int .u16 0, .int .u16 0]) ?_ 1 _ rfl; (with_reducible repeat (first | refine blk_drewN ?_ _ | refine blk_drew ?_ | refine blk_alloc ?_ _)); refine blk_put (cs := #[.int .u8 0, .int .u16 0, .int .u16 0]) ?_ 0 _ rfl; (with_reducible repeat (first | refine blk_drewN ?_ _ | refine blk_drew ?_ | refine blk_alloc ?_ _)); exact BK524.out))⟩; have n3_ : Aside0 (Below w.heap.size w w35) := ⟨(by rw [hw]; exact (by repeat (first | (with_reducible first | exact HB.out | apply below_alloc | apply pw_below_drewN | apply below_drew1 | refine below_set ?_ GE514.out | refine below_set ?_ GE524.out) | exact HB.out)))⟩; clear hw; clear HO_7; clear BK514; clear BK524; clear HB; have HO_7 := n0_; have BK514 := n1_; have BK524 := n2_; have HB := n3_; clear n0_ n1_ n2_ n3_; have q36 : (4 : Int) ≤ ((x7_1.length : Int) : Int) := of_decide_eq_true (by first | (with_reducible assumption) | assumption); obtain ⟨i036, hi036, _, hsz36, _⟩ := info_parts info5; have hroom36 : x7_1.length ≤ co30 := (Kd.R_reads' HO_7.out).2.1; have hC36 : Kd.C (Kd.int .u8) _ Ao30 x7_1.length x7_1 := (Kd.R_reads' HO_7.out).2.2; have hcut36 := cut_to (P := Try.prog) 22 5 .i64 Try.underlying22 hi036 Ao30 x7_1.length co30 4 (by omega) q36 hroom36; have hr36 := Kd.C_take (m := 4) hC36 (by omega); have hy36 : y525.length = (4 : Int).toNat := (by rw [Ny525.out, List.length_take]; omega); rw [← Ny525.out] at hr36; rw [← hy36] at hcut36; have HR528 := Aside0.mk hr36; have HC528 := Aside0.mk (show y525.length ≤ co30 from by omega); clear hr36 hC36 hroom36 hi036 hsz36; have KY36 := Aside0.mk hy36; clear hy36; have KL36 := Aside0.mk (show 4 ≤ x7_1.length from by omega); replace q36 := eq_true q36) | ((with_reducible refine gate_callee (f := 41) rfl ?_); refine goesL_ (some 55) rfl rfl Try.func41 (by kernel_rfl) rfl #[.slice Ao30 y525.length co30] rfl (by (try simp only [List.map_toArray, List.map_cons, List.map_nil]); first | done | rfl | (simp only [List.length_drop, List.length_take]; rfl)) ?_; (with_reducible refine (tag_Read.calls _ _ y525 t529 t530 t531 t532 _ ?side1 ?side2 A26.out).mono ?_); (case side1 => repeat (first | exact (by repeat (first | (with_reducible exact HR528.out) | (with_reducible refine Kd.C_alloc ?_ _) | (with_reducible refine Kd.C_drewN ?_ _) | (with_reducible refine Kd.C_drew ?_) | exact HR528.out)) | (with_reducible refine Kd.C_alloc ?_ _) | (with_reducible refine Kd.C_drewN ?_ _) | (with_reducible refine Kd.C_drew ?_))); (case side2 => exact HC528.out); rintro e w37 ⟨rfl, hb⟩; refine ⟨_, rfl, ?_⟩; have n0_ := Aside0.mk (Kd.R_below (by (with_reducible repeat (first | apply Kd.R_alloc | apply Kd.R_drewN | apply Kd.R_drew)); exact HO_7.out) hb); have n1_ := Aside0.mk (blk_below (g := gb514) (o := .cells #[.int .u8 t510, .int .u16 t511, .int .u16 t512] 42 (0, 0)) (by (with_reducible repeat (first | refine blk_drewN ?_ _ | refine blk_drew ?_ | refine blk_alloc ?_ _)); exact BK514.out) hb); have n2_ := Aside0.mk (blk_below (g := gb524) (o := .cells #[.int .u8 t520, .int .u16 t521, .int .u16 t522] 42 (0, 0)) (by (with_reducible repeat (first | refine blk_drewN ?_ _ | refine blk_drew ?_ | refine blk_alloc ?_ _)); exact BK524.out) hb); have n3_ := Aside0.mk (Kd.C_below (by repeat (first | (with_reducible exact HR528.out) | (with_reducible refine Kd.C_alloc ?_ _) | (with_reducible refine Kd.C_drewN ?_ _) | (with_reducible refine Kd.C_drew ?_) | exact HR528.out)) hb); have n4_ := Aside0.mk (below_step (by repeat (first | (with_reducible first | exact HB.out | apply below_alloc | apply pw_below_drewN | apply below_drew1 | refine below_set ?_ GE514.out | refine below_set ?_ GE524.out) | exact HB.out)) hb); clear HO_7; clear BK514; clear BK524; clear HR528; clear HB; have HO_7 := n0_; have BK514 := n1_; have BK524 := n2_; have HR528 := n3_; have HB := n4_; clear n0_ n1_ n2_ n3_ n4_; (try clear hb); (try clear hb2); (try clear hk); (try clear hi)) | ((with_reducible refine gate_dst (N := 11) rfl ?_); refine box_event ?hg (N := 11) ?hd (cs := #[.int .u8 0, .int .u16 0, .int .u16 0]) (t := 42) ?hr ?_; (case hd => rfl); (case hg => rfl); (case hr => first | (go_simp; done) | (go_simp; rfl)); intro gb533 hg w38 hbox hb; have n0_ := Aside0.mk (Kd.R_below (by (with_reducible repeat (first | apply Kd.R_alloc | apply Kd.R_drewN | apply Kd.R_drew)); exact HO_7.out) hb); have n1_ := Aside0.mk (blk_below (g := gb514) (o := .cells #[.int .u8 t510, .int .u16 t511, .int .u16 t512] 42 (0, 0)) (by (with_reducible repeat (first | refine blk_drewN ?_ _ | refine blk_drew ?_ | refine blk_alloc ?_ _)); exact BK514.out) hb); have n2_ := Aside0.mk (blk_below (g := gb524) (o := .cells #[.int .u8 t520, .int .u16 t521, .int .u16 t522] 42 (0, 0)) (by (with_reducible repeat (first | refine blk_drewN ?_ _ | refine blk_drew ?_ | refine blk_alloc ?_ _)); exact BK524.out) hb); have n3_ := Aside0.mk (Kd.C_below (by repeat (first | (with_reducible exact HR528.out) | (with_reducible refine Kd.C_alloc ?_ _) | (with_reducible refine Kd.C_drewN ?_ _) | (with_reducible refine Kd.C_drew ?_) | exact HR528.out)) hb); have n4_ := Aside0.mk (below_step (by repeat (first | (with_reducible first | exact HB.out | apply below_alloc | apply pw_below_drewN | apply below_drew1 | refine below_set ?_ GE514.out | refine below_set ?_ GE524.out) | exact HB.out)) hb); have n5_ := Aside0.mk (hbox); have n6_ := Aside0.mk ((by rw [hg]; exact (below_size (by repeat (first | (with_reducible first | exact HB.out | apply below_alloc | apply pw_below_drewN | apply below_drew1 | refine below_set ?_ GE514.out | refine below_set ?_ GE524.out) | exact HB.out))) : w.heap.size ≤ gb533)); have n7_ := Aside0.mk ((by rw [hg]; exact (below_size (by repeat (first | (with_reducible first | exact HB.out | apply below_alloc | apply pw_below_drewN | apply below_drew1 | refine below_set ?_ GE514.out | refine below_set ?_ GE524.out) | exact HB.out))) : w.heap.size ≤ gb533)); have n8_ := Aside0.mk ((by rw [hg]; exact Nat.ne_of_lt (blk_lt (g := gb514) (o := .cells #[.int .u8 t510, .int .u16 t511, .int .u16 t512] 42 (0, 0)) (by (with_reducible repeat (first | refine blk_drewN ?_ _ | refine blk_drew ?_ | refine blk_alloc ?_ _)); exact BK514.out)) : gb514 ≠ gb533)); have n9_ := Aside0.mk ((by rw [hg]; exact Nat.ne_of_gt (blk_lt (g := gb514) (o := .cells #[.int .u8 t510, .int .u16 t511, .int .u16 t512] 42 (0, 0)) (by (with_reducible repeat (first | refine blk_drewN ?_ _ | refine blk_drew ?_ | refine blk_alloc ?_ _)); exact BK514.out)) : gb533 ≠ gb514)); have n10_ := Aside0.mk ((by rw [hg]; exact Nat.ne_of_lt (blk_lt (g := gb524) (o := .cells #[.int .u8 t520, .int .u16 t521, .int .u16 t522] 42 (0, 0)) (by (with_reducible repeat (first | refine blk_drewN ?_ _ | refine blk_drew ?_ | refine blk_alloc ?_ _)); exact BK524.out)) : gb524 ≠ gb533)); have n11_ := Aside0.mk ((by rw [hg]; exact Nat.ne_of_gt (blk_lt (g := gb524) (o := .cells #[.int .u8 t520, .int .u16 t521, .int .u16 t522] 42 (0, 0)) (by (with_reducible repeat (first | refine blk_drewN ?_ _ | refine blk_drew ?_ | refine blk_alloc ?_ _)); exact BK524.out)) : gb533 ≠ gb524)); clear HO_7; clear BK514; clear BK524; clear HR528; clear HB; have HO_7 := n0_; have BK514 := n1_; have BK524 := n2_; have HR528 := n3_; have HB := n4_; have BK533 := n5_; have GW533 := n6_; have GE533 := n7_; have NB514_533 := n8_; have NB533_514 := n9_; have NB524_533 := n10_; have NB533_524 := n11_; clear n0_ n1_ n2_ n3_ n4_ n5_ n6_ n7_ n8_ n9_ n10_ n11_; clear hb hbox hg; have hnb39 := NB533_514.out; have hnc39 := NB514_533.out; have hnb40 := NB533_524.out; have hnc40 := NB524_533.out; have hcz41_0 : w38.cell? ⟨gb533, 0, none⟩ = some (.int .u8 0) := (blk_cell BK533.out 0).trans rfl; have hcz41_1 : w38.cell? ⟨gb533, 1, none⟩ = some (.int .u16 0) := (blk_cell BK533.out 1).trans rfl; have hcz41_2 : w38.cell? ⟨gb533, 2, none⟩ = some (.int .u16 0) := (blk_cell BK533.out 2).trans rfl; have hfz41_0 := blk_frozen BK533.out 0; have hfz41_1 := blk_frozen BK533.out 1; have hfz41_2 := blk_frozen BK533.out 2; have hcz42_0 : w38.cell? ⟨gb524, 0, none⟩ = some (.int .u8 t520) := (blk_cell BK524.out 0).trans rfl; have hcz42_1 : w38.cell? ⟨gb524, 1, none⟩ = some (.int .u16 t521) := (blk_cell BK524.out 1).trans rfl; have hcz42_2 : w38.cell? ⟨gb524, 2, none⟩ = some (.int .u16 t522) := (blk_cell BK524.out 2).trans rfl; have hfz42_0 := blk_frozen BK524.out 0; have hfz42_1 := blk_frozen BK524.out 1; have hfz42_2 := blk_frozen BK524.out 2; have hcz43_0 : w38.cell? ⟨gb514, 0, none⟩ = some (.int .u8 t510) := (blk_cell BK514.out 0).trans rfl; have hcz43_1 : w38.cell? ⟨gb514, 1, none⟩ = some (.int .u16 t511) := (blk_cell BK514.out 1).trans rfl; have hcz43_2 : w38.cell? ⟨gb514, 2, none⟩ = some (.int .u16 t512) := (blk_cell BK514.out 2).trans rfl; have hfz43_0 := blk_frozen BK514.out 0; have hfz43_1 := blk_frozen BK514.out 1; have hfz43_2 := blk_frozen BK514.out 2))
                    go_ret
                    exact ⟨by first | rfl | (simp [errW_none, errW_some] <;> rfl) | (simp [*, errW_none, errW_some] <;> rfl), by repeat (first | (with_reducible first | exact HB.out | apply below_alloc | apply pw_below_drewN | apply below_drew1 | refine below_set ?_ GE514.out | refine below_set ?_ GE524.out | refine below_set ?_ GE533.out) | exact HB.out)⟩
                  · rw [if_neg c29] at H
                    have c29b0 : (t529 == t510 && (t530 == t511 && (t531 == t512))) = false := by simpa using c29
                    (try (have c29b1 : decide (t529 = t510 && (t530 == t511 && (t531 == t512))) = false := by simpa using c29))
                    (try (have c29b2 : (t529 == t510 && (t530 == t511 && (t531 == t512))) = false := by simpa using c29))
                    (try (have c29b3 : ¬ (t529 = t510 && (t530 == t511 && (t531 == t512))) := by simpa using c29))
                    clear c29
                    obtain rfl := Option.some.inj H
                    exact absurd hr_.out (by decide)
                · rw [if_neg c28] at H
                  have c28b0 : (t523 == t513) = false := beq_eq_false_iff_ne.mpr c28
                  have c28b1 : (t523 != t513) = true := bne_iff_ne.mpr c28
                  obtain rfl := Option.some.inj H
                  exact absurd hr_.out (by decide)
              · rw [if_neg c27] at H
                have c27b0 : (t520 == t510 && (t521 == t511 && (t522 == t512))) = false := by simpa using c27
                (try (have c27b1 : decide (t520 = t510 && (t521 == t511 && (t522 == t512))) = false := by simpa using c27))
                (try (have c27b2 : (t520 == t510 && (t521 == t511 && (t522 == t512))) = false := by simpa using c27))
                (try (have c27b3 : ¬ (t520 = t510 && (t521 == t511 && (t522 == t512))) := by simpa using c27))
                clear c27
                obtain rfl := Option.some.inj H
                exact absurd hr_.out (by decide)
            · rw [if_neg c25] at H
              exact absurd H (by simp)
  · replace c4 := Bool.eq_false_iff.mpr c4
    subst c4
    have H1 : (some false) = some r := by rw [if_neg (show ¬ (false = true) by decide)] at H; exact H
    clear H
    have H := H1
    clear H1
    obtain rfl := Option.some.inj H
    exact absurd hr_.out (by decide)

/-- THE ONE PURE STATEMENT of sallyportlaw06_TagFirst: yours. -/
def sallyportlaw06_TagFirst.Pure : Prop := ∀ (l0 : List Int) (a1 : Int), l0.length ≤ maxLen → l0.length * 1 ≤ 140737488351232 → (∀ x ∈ l0, (Lit.int .u8 x).wf = true) → (Lit.int .u8 a1).wf = true → ∃ k, sallyportlaw06_TagFirst.f k l0 a1 = some true
theorem sallyportlaw06_TagFirst.walk (P : sallyportlaw06_TagFirst.Pure) (a0 : Option Addr) (len0 cap0 : Nat) (z0 : List Int) (a1 : Int) (w : World) (w0 : (a0 = none ∧ len0 = 0 ∧ cap0 = 0 ∧ z0 = []) ∨ ∃ x, a0 = some x ∧ len0 ≤ cap0 ∧ cap0 ≤ maxLen ∧ z0.length = cap0 ∧ (∀ i, i < z0.length → w.cell? (x.add i) = some (.int .u8 (z0.getD i 0))) ∧ ∀ n ∈ z0, (Lit.int .u8 n).wf = true) (y0 : len0 * 1 ≤ 140737488351232) (w1 : (Lit.int .u8 a1).wf = true) :
    Calls Try.prog 13 #[.slice a0 len0 cap0, .int .u8 a1] w fun e w' => e = .returned (.bool true) ∧ Below w.heap.size w w' := by
  obtain ⟨l0, rfl, hr0, hm0, hw0, hc0⟩ := ReadsInt.ofRowC w0
  obtain ⟨k, h⟩ := P l0 a1 hm0 y0 hw0 w1
  refine (sallyportlaw06_TagFirst.calls k _ _ l0 a1 true ⟨rfl⟩ w (Kd.C_of_reads (d := (0 : Int)) (h1 := fun _ => rfl) hr0) hc0 h).mono ?_
  rintro e w' ⟨rfl, hd⟩
  exact ⟨rfl, hd⟩

end Go.Proofs.Ytlgiibchnnaceaa.P
