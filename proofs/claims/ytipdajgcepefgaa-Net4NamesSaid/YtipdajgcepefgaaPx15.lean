/- Contracts of the functions that the statements reach, and the statements: written by a program of this repo (wip/patch_print.py); Lean checks every line; no conditions. -/
import Derived.Test.YtipdajgcepefgaaPx0
import Derived.Test.YtipdajgcepefgaaPx2
import Derived.Test.YtipdajgcepefgaaPx6
import Derived.Test.YtipdajgcepefgaaPx14
namespace Go.Proofs.Ytipdajgcepefgaa.P
open Go.RowKit Go.Proofs.YtipdajgcepefgaaW.PrintWords Go.Proofs.YtipdajgcepefgaaW.PrintLast Go.Proofs.YtipdajgcepefgaaW.PrintMore
attribute [local go_sem] max2_int min2_int max_two min_two max_three min_three max_four min_four Go.Proofs.YtipdajgcepefgaaW.Own.u16_all   -- for this text's walks alone
set_option linter.unusedVariables false
set_option linter.unusedSimpArgs false

/-! ### sallyportref07_Read: function 28 -/
def sallyportref07_Read.f (k : Nat) (l0 : List Int) : Option (Int × Int × Int × Int × Int × Int × Int × Int × Int × Int × Int × Int × Int) := if (l0.length : Int) < 20 then (some (0, 0, 0, 0, 0, 0, 0, 0, 0, 0, 0, 0, 6)) else if rd l0 0 = 69 then (if rd l0 6 = 0 then (if rd l0 7 = 0 then ((sallyportref07_value.f k l0 2 2).bind fun t1 => if t1 = (l0.length : Int) then ((sallyportref07_value.f k l0 10 2).bind fun t2 => ((sallyportref01_Field.f k (((l0.take 20).set 10 0).set 11 0)).bind fun t3 => if t2 = wrap64 t3 then ((sallyportref07_value.f k l0 4 2).bind fun t4 => some (rd l0 1, rd l0 8, rd l0 9, IntKind.u16.wrap t4, rd l0 12, rd l0 13, rd l0 14, rd l0 15, rd l0 16, rd l0 17, rd l0 18, rd l0 19, 0)) else some (0, 0, 0, 0, 0, 0, 0, 0, 0, 0, 0, 0, 110))) else some (0, 0, 0, 0, 0, 0, 0, 0, 0, 0, 0, 0, 70)) else some (0, 0, 0, 0, 0, 0, 0, 0, 0, 0, 0, 0, 70)) else some (0, 0, 0, 0, 0, 0, 0, 0, 0, 0, 0, 0, 70)) else some (0, 0, 0, 0, 0, 0, 0, 0, 0, 0, 0, 0, 70)
theorem sallyportref07_Read.mono : ∀ b k, LeO (sallyportref07_Read.f k b) (sallyportref07_Read.f (k + 1) b) := by
  intro b k
  unfold sallyportref07_Read.f
  repeat' first
    | (with_reducible exact sallyportref07_value.mono _ _ _ _)
    | (with_reducible exact sallyportref01_Field.mono _ _)
    | (with_reducible exact LeO.refl _)
    | (with_reducible refine LeO.ite ?_ ?_)
    | (with_reducible refine LeO.bind ?_ (fun _ => ?_))
open Go.Proofs.YtipdajgcepefgaaW.Own in
set_option maxHeartbeats 8000000 in
set_option maxRecDepth 100000 in
theorem sallyportref07_Read.calls (k : Nat) (A0 : Option Addr) (c0 : Nat) (l0 : List Int) (r1 r2 r3 r4 r5 r6 r7 r8 r9 r10 r11 r12 r13 : Int) (w : World) (hr0 : Kd.C (Kd.int .u8) w A0 l0.length l0) (hc0 : l0.length ≤ c0) (h : sallyportref07_Read.f k l0 = some (r1, r2, r3, r4, r5, r6, r7, r8, r9, r10, r11, r12, r13)) :
    Calls Try.prog 28 #[.slice A0 l0.length c0] w fun e w' => e = .returned (.tuple #[.agg #[.int .u8 r1, .int .u8 r2, .int .u8 r3, .int .u16 r4, .int .u8 r5, .int .u8 r6, .int .u8 r7, .int .u8 r8, .int .u8 r9, .int .u8 r10, .int .u8 r11, .int .u8 r12], .int .i64 r13]) ∧ Below w.heap.size w w' := by
  have hu := Try.underlying25
  unfold sallyportref07_Read.f at h
  by_cases h4 : (l0.length : Int) < 20
  · rw [if_pos h4] at h
    simp only [Option.some.injEq, Prod.mk.injEq] at h
    obtain ⟨rfl, rfl, rfl, rfl, rfl, rfl, rfl, rfl, rfl, rfl, rfl, rfl, rfl⟩ := h
    have d4 : decide ((l0.length : Int) < 20) = true := decide_eq_true h4
    have d4' : decide (l0.length < 20) = true := decide_eq_true (by omega)
    clear h4 hr0 hc0
    go_enter Try.func28, Try.ntmps28
    have hb : Below w.heap.size w ((w.alloc (.cells #[.int .u8 0, .int .u8 0, .int .u8 0, .int .u16 0, .int .u8 0, .int .u8 0, .int .u8 0, .int .u8 0, .int .u8 0, .int .u8 0, .int .u8 0, .int .u8 0] 25)).alloc (.cells #[.int .u8 0, .int .u8 0, .int .u8 0, .int .u16 0, .int .u8 0, .int .u8 0, .int .u8 0, .int .u8 0, .int .u8 0, .int .u8 0, .int .u8 0, .int .u8 0] 25)) := below_alloc ((Below.refl _ _).alloc (Nat.le_refl _) _) _
    have hx : ((w.alloc (.cells #[.int .u8 0, .int .u8 0, .int .u8 0, .int .u16 0, .int .u8 0, .int .u8 0, .int .u8 0, .int .u8 0, .int .u8 0, .int .u8 0, .int .u8 0, .int .u8 0] 25)).alloc (.cells #[.int .u8 0, .int .u8 0, .int .u8 0, .int .u16 0, .int .u8 0, .int .u8 0, .int .u8 0, .int .u8 0, .int .u8 0, .int .u8 0, .int .u8 0, .int .u8 0] 25)).heap[w.heap.size]? = some (.cells #[.int .u8 0, .int .u8 0, .int .u8 0, .int .u16 0, .int .u8 0, .int .u8 0, .int .u8 0, .int .u8 0, .int .u8 0, .int .u8 0, .int .u8 0, .int .u8 0] 25 (0, 0)) := blk_alloc (blk_new _ _) _
    have hy := blk_new (w.alloc (.cells #[.int .u8 0, .int .u8 0, .int .u8 0, .int .u16 0, .int .u8 0, .int .u8 0, .int .u8 0, .int .u8 0, .int .u8 0, .int .u8 0, .int .u8 0, .int .u8 0] 25)) (.cells #[.int .u8 0, .int .u8 0, .int .u8 0, .int .u16 0, .int .u8 0, .int .u8 0, .int .u8 0, .int .u8 0, .int .u8 0, .int .u8 0, .int .u8 0, .int .u8 0] 25)
    have ky0 := blk_cell hy 0
    have ky1 := blk_cell hy 1
    have ky2 := blk_cell hy 2
    have ky3 := blk_cell hy 3
    have ky4 := blk_cell hy 4
    have ky5 := blk_cell hy 5
    have ky6 := blk_cell hy 6
    have ky7 := blk_cell hy 7
    have ky8 := blk_cell hy 8
    have ky9 := blk_cell hy 9
    have ky10 := blk_cell hy 10
    have ky11 := blk_cell hy 11
    have kx0 := blk_cell hx 0
    have fx0 := blk_frozen hx 0
    have kx1 := blk_cell hx 1
    have fx1 := blk_frozen hx 1
    have kx2 := blk_cell hx 2
    have fx2 := blk_frozen hx 2
    have kx3 := blk_cell hx 3
    have fx3 := blk_frozen hx 3
    have kx4 := blk_cell hx 4
    have fx4 := blk_frozen hx 4
    have kx5 := blk_cell hx 5
    have fx5 := blk_frozen hx 5
    have kx6 := blk_cell hx 6
    have fx6 := blk_frozen hx 6
    have kx7 := blk_cell hx 7
    have fx7 := blk_frozen hx 7
    have kx8 := blk_cell hx 8
    have fx8 := blk_frozen hx 8
    have kx9 := blk_cell hx 9
    have fx9 := blk_frozen hx 9
    have kx10 := blk_cell hx 10
    have fx10 := blk_frozen hx 10
    have kx11 := blk_cell hx 11
    have fx11 := blk_frozen hx 11
    go_wp2
    refine bodyPost_ret (results_ct rfl _ _ w.heap.size 25 #[.int .u8 0, .int .u8 0, .int .u8 0, .int .u16 0, .int .u8 0, .int .u8 0, .int .u8 0, .int .u8 0, .int .u8 0, .int .u8 0, .int .u8 0, .int .u8 0] (0, 0) _ rfl ?_ hu rfl (by kernel_rfl)) rfl ?_
    · exact hx
    · exact ⟨rfl, hb⟩
  · rw [if_neg h4] at h
    have d4 : decide ((l0.length : Int) < 20) = false := decide_eq_false h4
    have d4' : decide (l0.length < 20) = false := decide_eq_false (by omega)
    have hlen : 20 ≤ l0.length := by omega
    clear h4
    obtain ⟨ad, rfl, g0, gS⟩ := whole_of hr0 (by omega)
    have HLA := Aside0.mk (World.block_lt_of_cell? _ _ g0)
    have G0 := Aside0.mk g0
    have GS := Aside0.mk gS
    have HR0 := Aside0.mk hr0
    have HC0 := Aside0.mk hc0
    have HL := Aside0.mk hlen
    clear g0 gS hr0 hc0 hlen
    by_cases h7 : rd l0 0 = 69
    · rw [if_pos h7] at h
      have g7 : (rd l0 0 == 69) = true := beq_iff_eq.mpr h7
      have g7' : (rd l0 0 != 69) = false := bne_eq_false_iff_eq.mpr h7
      clear h7
      by_cases h6 : rd l0 6 = 0
      · rw [if_pos h6] at h
        have g6 : (rd l0 6 == 0) = true := beq_iff_eq.mpr h6
        have g6' : (rd l0 6 != 0) = false := bne_eq_false_iff_eq.mpr h6
        clear h6
        by_cases h5 : rd l0 7 = 0
        · rw [if_pos h5] at h
          have g5 : (rd l0 7 == 0) = true := beq_iff_eq.mpr h5
          have g5' : (rd l0 7 != 0) = false := bne_eq_false_iff_eq.mpr h5
          clear h5
          obtain ⟨t1, e_1, h⟩ := Option.bind_eq_some_iff.mp h
          have E1 := Aside0.mk e_1
          clear e_1
          by_cases h3 : t1 = (l0.length : Int)
          · rw [if_pos h3] at h
            have g3 : (t1 == (l0.length : Int)) = true := beq_iff_eq.mpr h3
            have g3' : (t1 != (l0.length : Int)) = false := bne_eq_false_iff_eq.mpr h3
            clear h3
            obtain ⟨t2, e_1, h⟩ := Option.bind_eq_some_iff.mp h
            have E2 := Aside0.mk e_1
            clear e_1
            obtain ⟨t3, e_1, h⟩ := Option.bind_eq_some_iff.mp h
            have E3 := Aside0.mk e_1
            clear e_1
            by_cases h2 : t2 = wrap64 t3
            · rw [if_pos h2] at h
              have g2 : (t2 == wrap64 t3) = true := beq_iff_eq.mpr h2
              have g2' : (t2 != wrap64 t3) = false := bne_eq_false_iff_eq.mpr h2
              clear h2
              obtain ⟨t4, e_1, h⟩ := Option.bind_eq_some_iff.mp h
              have E4 := Aside0.mk e_1
              clear e_1
              simp only [Option.some.injEq, Prod.mk.injEq] at h
              obtain ⟨rfl, rfl, rfl, rfl, rfl, rfl, rfl, rfl, rfl, rfl, rfl, rfl, rfl⟩ := h
              go_enter Try.func28, Try.ntmps28
              have hb : Below w.heap.size w ((w.alloc (.cells #[.int .u8 0, .int .u8 0, .int .u8 0, .int .u16 0, .int .u8 0, .int .u8 0, .int .u8 0, .int .u8 0, .int .u8 0, .int .u8 0, .int .u8 0, .int .u8 0] 25)).alloc (.cells #[.int .u8 0, .int .u8 0, .int .u8 0, .int .u16 0, .int .u8 0, .int .u8 0, .int .u8 0, .int .u8 0, .int .u8 0, .int .u8 0, .int .u8 0, .int .u8 0] 25)) := below_alloc ((Below.refl _ _).alloc (Nat.le_refl _) _) _
              have hx : ((w.alloc (.cells #[.int .u8 0, .int .u8 0, .int .u8 0, .int .u16 0, .int .u8 0, .int .u8 0, .int .u8 0, .int .u8 0, .int .u8 0, .int .u8 0, .int .u8 0, .int .u8 0] 25)).alloc (.cells #[.int .u8 0, .int .u8 0, .int .u8 0, .int .u16 0, .int .u8 0, .int .u8 0, .int .u8 0, .int .u8 0, .int .u8 0, .int .u8 0, .int .u8 0, .int .u8 0] 25)).heap[w.heap.size]? = some (.cells #[.int .u8 0, .int .u8 0, .int .u8 0, .int .u16 0, .int .u8 0, .int .u8 0, .int .u8 0, .int .u8 0, .int .u8 0, .int .u8 0, .int .u8 0, .int .u8 0] 25 (0, 0)) := blk_alloc (blk_new _ _) _
              have hy := blk_new (w.alloc (.cells #[.int .u8 0, .int .u8 0, .int .u8 0, .int .u16 0, .int .u8 0, .int .u8 0, .int .u8 0, .int .u8 0, .int .u8 0, .int .u8 0, .int .u8 0, .int .u8 0] 25)) (.cells #[.int .u8 0, .int .u8 0, .int .u8 0, .int .u16 0, .int .u8 0, .int .u8 0, .int .u8 0, .int .u8 0, .int .u8 0, .int .u8 0, .int .u8 0, .int .u8 0] 25)
              have u0 := hb.cell (by exact HLA.out) |>.trans G0.out
              have n0 : 0 < l0.length := by have := HL.out; omega
              have d0_ : decide ((0 : Int) < (l0.length : Int)) = true := decide_eq_true (by have := HL.out; omega)
              have u6 := (hb.cell (by exact HLA.out)).trans (GS.out 6 (by decide) (by have := HL.out; omega))
              have n6 : 6 < l0.length := by have := HL.out; omega
              have d6_ : decide ((6 : Int) < (l0.length : Int)) = true := decide_eq_true (by have := HL.out; omega)
              have u7 := (hb.cell (by exact HLA.out)).trans (GS.out 7 (by decide) (by have := HL.out; omega))
              have n7 : 7 < l0.length := by have := HL.out; omega
              have d7_ : decide ((7 : Int) < (l0.length : Int)) = true := decide_eq_true (by have := HL.out; omega)
              simp only [Int.cast_ofNat_Int] at u6 u7
              have HB := Aside0.mk hb
              have HX1 := Aside0.mk hx
              have HY1 := Aside0.mk hy
              have HGS := Aside0.mk (show (w.alloc (.cells #[.int .u8 0, .int .u8 0, .int .u8 0, .int .u16 0, .int .u8 0, .int .u8 0, .int .u8 0, .int .u8 0, .int .u8 0, .int .u8 0, .int .u8 0, .int .u8 0] 25)).heap.size < ((w.alloc (.cells #[.int .u8 0, .int .u8 0, .int .u8 0, .int .u16 0, .int .u8 0, .int .u8 0, .int .u8 0, .int .u8 0, .int .u8 0, .int .u8 0, .int .u8 0, .int .u8 0] 25)).alloc (.cells #[.int .u8 0, .int .u8 0, .int .u8 0, .int .u16 0, .int .u8 0, .int .u8 0, .int .u8 0, .int .u8 0, .int .u8 0, .int .u8 0, .int .u8 0, .int .u8 0] 25)).heap.size by simp)
              have HGW := Aside0.mk (show w.heap.size ≤ ((w.alloc (.cells #[.int .u8 0, .int .u8 0, .int .u8 0, .int .u16 0, .int .u8 0, .int .u8 0, .int .u8 0, .int .u8 0, .int .u8 0, .int .u8 0, .int .u8 0, .int .u8 0] 25)).alloc (.cells #[.int .u8 0, .int .u8 0, .int .u8 0, .int .u16 0, .int .u8 0, .int .u8 0, .int .u8 0, .int .u8 0, .int .u8 0, .int .u8 0, .int .u8 0, .int .u8 0] 25)).heap.size by simp; omega)
              clear hb hx hy
              go_wp2_with fail
              clear u0 u6 u7 n0 n6 n7 d0_ d6_ d7_
              have hs1 : (w.alloc (.cells #[.int .u8 0, .int .u8 0, .int .u8 0, .int .u16 0, .int .u8 0, .int .u8 0, .int .u8 0, .int .u8 0, .int .u8 0, .int .u8 0, .int .u8 0, .int .u8 0] 25)).heap.size = w.heap.size + 1 := by simp
              rw [hs1] at HY1 HGS
              clear hs1
              generalize ((w.alloc (.cells #[.int .u8 0, .int .u8 0, .int .u8 0, .int .u16 0, .int .u8 0, .int .u8 0, .int .u8 0, .int .u8 0, .int .u8 0, .int .u8 0, .int .u8 0, .int .u8 0] 25)).alloc (.cells #[.int .u8 0, .int .u8 0, .int .u8 0, .int .u16 0, .int .u8 0, .int .u8 0, .int .u8 0, .int .u8 0, .int .u8 0, .int .u8 0, .int .u8 0, .int .u8 0] 25)) = w1 at HB HX1 HY1 HGS HGW ⊢
              refine (sallyportref07_value.calls k (some ad) c0 l0 2 2 t1 _ (Kd.C_below HR0.out HB.out) HC0.out E1.out).mono ?_
              rintro e_ w_ ⟨rfl, ⟨nd, rfl⟩⟩
              have BB := Aside0.mk (pw_below_drewN (Below.refl w1.heap.size w1) nd)
              generalize w1.drewN nd = w2 at BB ⊢
              obtain ⟨i5, hi5, _, hsz5, _⟩ := info_parts info5
              obtain ⟨T20, hT⟩ : ∃ T20 : List Int, T20 = l0.take 20 := ⟨_, rfl⟩
              have e20 : T20.length = 20 := by rw [hT, List.length_take]; have := HL.out; omega
              have take20 := (print_take_of (P := Try.prog) (Value.int .u8) 0 26 5 .i64 Try.underlying26 hi5 hsz5 (some ad) c0 l0 20 (by omega) (by have := HL.out; omega) HC0.out).1
              rw [show (20 : Int).toNat = 20 from rfl, ← hT, e20] at take20
              go_wp2_with fail
              have hcp := sallyportref00_CopyBytes.calls (some ad) c0 T20 T20 w2 (by rw [hT]; exact Kd.C_take (Kd.C_below (Kd.C_below HR0.out HB.out) BB.out) (m := 20) HL.out) (by rw [e20]; exact Nat.le_trans HL.out HC0.out) (by unfold sallyportref00_CopyBytes.f; rw [if_pos (by rw [e20]; decide)]; rfl)
              rw [e20] at hcp
              refine hcp.mono ?_
              clear hcp take20 hi5 hsz5
              rintro e_ w3 ⟨v_, rfl, ho, hb3⟩
              obtain ⟨g, cap, hv, hgb, hgl, cells, hg⟩ := Kd.R_form ho (by rw [e20]; omega)
              rw [e20] at hv
              subst hv
              have hge : w1.heap.size ≤ g := Nat.le_trans BB.out.size hgb
              have hB3 := below_step BB.out hb3
              clear BB hb3
              obtain ⟨hc10, hf10⟩ := Kd.R_celln 0 ho (10 : Int) (by omega) (by omega)
              obtain ⟨ho1, hgr1⟩ := Kd.R_putg ho (10 : Int) 0
              obtain ⟨hc11, hf11⟩ := Kd.R_celln 0 ho1 (11 : Int) (by omega) (by omega)
              obtain ⟨ho2, hgr2⟩ := Kd.R_putg ho1 (11 : Int) 0
              simp only [Int.reduceToNat] at hc10 hf10 ho1 hgr1 hc11 hf11 ho2 hgr2
              have HO := Aside0.mk ho2
              have BB : Aside0 (Below w1.heap.size w1 ((w3.setCell ⟨g, 10, none⟩ (.int .u8 0)).setCell ⟨g, 11, none⟩ (.int .u8 0))) := ⟨below_set (below_set hB3 hge) hge⟩
              have HT := Aside0.mk hT
              have E20 := Aside0.mk e20
              clear ho ho1 ho2 hgr1 hgr2 hB3 hg hT e20
              go_wp2_with fail
              clear hc10 hf10 hc11 hf11
              generalize (w3.setCell ⟨g, 10, none⟩ (.int .u8 0)).setCell ⟨g, 11, none⟩ (.int .u8 0) = w4 at HO BB ⊢
              refine (sallyportref07_value.calls k (some ad) c0 l0 10 2 t2 _ (Kd.C_below (Kd.C_below HR0.out HB.out) BB.out) HC0.out E2.out).mono ?_
              rintro e_ w_ ⟨rfl, ⟨nd, rfl⟩⟩
              have HO2 := Aside0.mk (Kd.R_drewN HO.out nd)
              have BB2 := Aside0.mk (pw_below_drewN BB.out nd)
              clear HO BB
              generalize w4.drewN nd = w5 at HO2 BB2 ⊢
              go_wp2_with fail
              obtain ⟨rl, rc, rC⟩ := Kd.R_reads' HO2.out
              have hfl := sallyportref01_Field.calls k (some ⟨g, 0, none⟩) cap ((T20.set 10 0).set 11 0) t3 w5 rC (by rw [← rl]; exact rc) (by rw [HT.out]; exact E3.out)
              rw [show ((T20.set 10 0).set 11 0).length = 20 by rw [List.length_set, List.length_set, E20.out]] at hfl
              refine hfl.mono ?_
              clear hfl rl rc rC
              rintro e_ w_ ⟨rfl, ⟨nd2, rfl⟩⟩
              have BB := Aside0.mk (pw_below_drewN BB2.out nd2)
              clear HO2 BB2
              generalize w5.drewN nd2 = w6 at BB ⊢
              go_wp2_with fail
              generalize hFA : Act.mk _ _ = FA
              obtain ⟨V, hV⟩ : ∃ V : List (Option Tmp × Value), V = [(some 50, .slice (some ad) l0.length c0), (some 51, .pointer (some ⟨ad.block, ad.off + 1, none⟩)), (some 52, .int .u8 (rd l0 1)), (some 53, .slice (some ad) l0.length c0), (some 54, .pointer (some ⟨ad.block, ad.off + 8, none⟩)), (some 55, .int .u8 (rd l0 8)), (some 56, .slice (some ad) l0.length c0), (some 57, .pointer (some ⟨ad.block, ad.off + 9, none⟩)), (some 58, .int .u8 (rd l0 9)), (some 59, .slice (some ad) l0.length c0), (some 60, .int .i64 t4), (some 61, .int .u16 (IntKind.u16.wrap t4)), (some 62, .agg #[.int .u8 (rd l0 1), .int .u8 (rd l0 8), .int .u8 (rd l0 9), .int .u16 (IntKind.u16.wrap t4), .int .u8 0, .int .u8 0, .int .u8 0, .int .u8 0, .int .u8 0, .int .u8 0, .int .u8 0, .int .u8 0]), (some 6, .pointer (some ⟨w6.heap.size, 0, none⟩)), (none, undef)] := ⟨_, rfl⟩
              have hs : slotsOk V := by rw [hV]; simp [slotsOk]
              have hltF : ∀ t, t < 84 → t < FA.tmps.size := fun t h => by rw [← hFA]; exact h
              have v0 : V[0]? = some (some 50, .slice (some ad) l0.length c0) := by rw [hV]; rfl
              have v1 : V[1]? = some (some 51, .pointer (some ⟨ad.block, ad.off + 1, none⟩)) := by rw [hV]; rfl
              have v2 : V[2]? = some (some 52, .int .u8 (rd l0 1)) := by rw [hV]; rfl
              have v3 : V[3]? = some (some 53, .slice (some ad) l0.length c0) := by rw [hV]; rfl
              have v4 : V[4]? = some (some 54, .pointer (some ⟨ad.block, ad.off + 8, none⟩)) := by rw [hV]; rfl
              have v5 : V[5]? = some (some 55, .int .u8 (rd l0 8)) := by rw [hV]; rfl
              have v6 : V[6]? = some (some 56, .slice (some ad) l0.length c0) := by rw [hV]; rfl
              have v7 : V[7]? = some (some 57, .pointer (some ⟨ad.block, ad.off + 9, none⟩)) := by rw [hV]; rfl
              have v8 : V[8]? = some (some 58, .int .u8 (rd l0 9)) := by rw [hV]; rfl
              have v9 : V[9]? = some (some 59, .slice (some ad) l0.length c0) := by rw [hV]; rfl
              have v10 : V[10]? = some (some 60, .int .i64 t4) := by rw [hV]; rfl
              have v11 : V[11]? = some (some 61, .int .u16 (IntKind.u16.wrap t4)) := by rw [hV]; rfl
              have v12 : V[12]? = some (some 62, .agg #[.int .u8 (rd l0 1), .int .u8 (rd l0 8), .int .u8 (rd l0 9), .int .u16 (IntKind.u16.wrap t4), .int .u8 0, .int .u8 0, .int .u8 0, .int .u8 0, .int .u8 0, .int .u8 0, .int .u8 0, .int .u8 0]) := by rw [hV]; rfl
              have v13 : V[13]? = some (some 6, .pointer (some ⟨w6.heap.size, 0, none⟩)) := by rw [hV]; rfl
              have v14 : V[14]? = some (none, undef) := by rw [hV]; rfl
              refine region_inv (by kernel_rfl) V (by rw [hV]; rfl) hs (by kernel_rfl) (Bld w6 #[.int .u8 0, .int .u8 0, .int .u8 0, .int .u16 0, .int .u8 0, .int .u8 0, .int .u8 0, .int .u8 0, .int .u8 0, .int .u8 0, .int .u8 0, .int .u8 0] #[.int .u8 (rd l0 1), .int .u8 (rd l0 8), .int .u8 (rd l0 9), .int .u16 (IntKind.u16.wrap t4), .int .u8 0, .int .u8 0, .int .u8 0, .int .u8 0, .int .u8 0, .int .u8 0, .int .u8 0, .int .u8 0] 25 13 14) (fun dn dn' w_ h_ hw_ => hw_.ext (h_ 13 (by simp)) (h_ 14 (by simp))) (Bld.start w6) ?_ ?_
              · intro i_ hi_ dn w' hW hdn hdep
                match i_, hi_ with
                | 0, _ =>
                  have e0 := puts_other V 0 dn FA 0 (by rw [hV]; simp)
                  rw [show FA.eval (.tmp 0) = .slice (some ad) l0.length c0 from by rw [← hFA]; rfl] at e0
                  refine op_run rfl rfl ?_ ⟨⟨_, _, v0, rfl⟩, hW.same (by decide) (by decide)⟩
                  generalize (puts V 0 dn FA).eval = ev at e0 ⊢
                  clear hdep v0 v1 v2 v3 v4 v5 v6 v7 v8 v9 v10 v11 v12 v13 v14 hs hltF
                  go_simp
                  first | done | rfl | (intro h_; exfalso; omega)
                | 1, _ =>
                  have hd := hdep _ rfl
                  simp [Region.binds] at hd
                  have hj0 : dn 0 = true := by first | exact hd | simp [hd]
                  have e50 := done0 0 50 hs v0 (hltF _ (by decide)) hj0
                  have hc : ∀ c, (puts V 0 dn FA).eval (.const c) = c := fun _ => rfl
                  have n_ : (1 : Nat) < l0.length := by have := HL.out; omega
                  have d_ : decide ((1 : Int) < (l0.length : Int)) = true := decide_eq_true (by have := HL.out; omega)
                  refine op_run rfl rfl ?_ ⟨⟨_, _, v1, rfl⟩, hW.same (by decide) (by decide)⟩
                  generalize (puts V 0 dn FA).eval = ev at e50 hc ⊢
                  clear hdep v0 v1 v2 v3 v4 v5 v6 v7 v8 v9 v10 v11 v12 v13 v14 hs hltF
                  go_simp
                  first | done | rfl | (intro h_; exfalso; omega)
                | 2, _ =>
                  have hd := hdep _ rfl
                  simp [Region.binds] at hd
                  have hj1 : dn 1 = true := by first | exact hd | simp [hd]
                  have e51 := done0 1 51 hs v1 (hltF _ (by decide)) hj1
                  have u_ := ((below_step BB.out hW.below).cell (by exact Nat.lt_of_lt_of_le HLA.out HB.out.size)).trans ((HB.out.cell (by exact HLA.out)).trans (GS.out 1 (by decide) (by have := HL.out; omega)))
                  simp only [Int.cast_ofNat_Int] at u_
                  refine op_run rfl rfl ?_ ⟨⟨_, _, v2, rfl⟩, hW.same (by decide) (by decide)⟩
                  generalize (puts V 0 dn FA).eval = ev at e51 ⊢
                  clear hdep v0 v1 v2 v3 v4 v5 v6 v7 v8 v9 v10 v11 v12 v13 v14 hs hltF
                  go_simp
                  first | done | rfl | (intro h_; exfalso; omega)
                | 3, _ =>
                  have e0 := puts_other V 0 dn FA 0 (by rw [hV]; simp)
                  rw [show FA.eval (.tmp 0) = .slice (some ad) l0.length c0 from by rw [← hFA]; rfl] at e0
                  refine op_run rfl rfl ?_ ⟨⟨_, _, v3, rfl⟩, hW.same (by decide) (by decide)⟩
                  generalize (puts V 0 dn FA).eval = ev at e0 ⊢
                  clear hdep v0 v1 v2 v3 v4 v5 v6 v7 v8 v9 v10 v11 v12 v13 v14 hs hltF
                  go_simp
                  first | done | rfl | (intro h_; exfalso; omega)
                | 4, _ =>
                  have hd := hdep _ rfl
                  simp [Region.binds] at hd
                  have hj3 : dn 3 = true := by first | exact hd | simp [hd]
                  have e53 := done0 3 53 hs v3 (hltF _ (by decide)) hj3
                  have hc : ∀ c, (puts V 0 dn FA).eval (.const c) = c := fun _ => rfl
                  have n_ : (8 : Nat) < l0.length := by have := HL.out; omega
                  have d_ : decide ((8 : Int) < (l0.length : Int)) = true := decide_eq_true (by have := HL.out; omega)
                  refine op_run rfl rfl ?_ ⟨⟨_, _, v4, rfl⟩, hW.same (by decide) (by decide)⟩
                  generalize (puts V 0 dn FA).eval = ev at e53 hc ⊢
                  clear hdep v0 v1 v2 v3 v4 v5 v6 v7 v8 v9 v10 v11 v12 v13 v14 hs hltF
                  go_simp
                  first | done | rfl | (intro h_; exfalso; omega)
                | 5, _ =>
                  have hd := hdep _ rfl
                  simp [Region.binds] at hd
                  have hj4 : dn 4 = true := by first | exact hd | simp [hd]
                  have e54 := done0 4 54 hs v4 (hltF _ (by decide)) hj4
                  have u_ := ((below_step BB.out hW.below).cell (by exact Nat.lt_of_lt_of_le HLA.out HB.out.size)).trans ((HB.out.cell (by exact HLA.out)).trans (GS.out 8 (by decide) (by have := HL.out; omega)))
                  simp only [Int.cast_ofNat_Int] at u_
                  refine op_run rfl rfl ?_ ⟨⟨_, _, v5, rfl⟩, hW.same (by decide) (by decide)⟩
                  generalize (puts V 0 dn FA).eval = ev at e54 ⊢
                  clear hdep v0 v1 v2 v3 v4 v5 v6 v7 v8 v9 v10 v11 v12 v13 v14 hs hltF
                  go_simp
                  first | done | rfl | (intro h_; exfalso; omega)
                | 6, _ =>
                  have e0 := puts_other V 0 dn FA 0 (by rw [hV]; simp)
                  rw [show FA.eval (.tmp 0) = .slice (some ad) l0.length c0 from by rw [← hFA]; rfl] at e0
                  refine op_run rfl rfl ?_ ⟨⟨_, _, v6, rfl⟩, hW.same (by decide) (by decide)⟩
                  generalize (puts V 0 dn FA).eval = ev at e0 ⊢
                  clear hdep v0 v1 v2 v3 v4 v5 v6 v7 v8 v9 v10 v11 v12 v13 v14 hs hltF
                  go_simp
                  first | done | rfl | (intro h_; exfalso; omega)
                | 7, _ =>
                  have hd := hdep _ rfl
                  simp [Region.binds] at hd
                  have hj6 : dn 6 = true := by first | exact hd | simp [hd]
                  have e56 := done0 6 56 hs v6 (hltF _ (by decide)) hj6
                  have hc : ∀ c, (puts V 0 dn FA).eval (.const c) = c := fun _ => rfl
                  have n_ : (9 : Nat) < l0.length := by have := HL.out; omega
                  have d_ : decide ((9 : Int) < (l0.length : Int)) = true := decide_eq_true (by have := HL.out; omega)
                  refine op_run rfl rfl ?_ ⟨⟨_, _, v7, rfl⟩, hW.same (by decide) (by decide)⟩
                  generalize (puts V 0 dn FA).eval = ev at e56 hc ⊢
                  clear hdep v0 v1 v2 v3 v4 v5 v6 v7 v8 v9 v10 v11 v12 v13 v14 hs hltF
                  go_simp
                  first | done | rfl | (intro h_; exfalso; omega)
                | 8, _ =>
                  have hd := hdep _ rfl
                  simp [Region.binds] at hd
                  have hj7 : dn 7 = true := by first | exact hd | simp [hd]
                  have e57 := done0 7 57 hs v7 (hltF _ (by decide)) hj7
                  have u_ := ((below_step BB.out hW.below).cell (by exact Nat.lt_of_lt_of_le HLA.out HB.out.size)).trans ((HB.out.cell (by exact HLA.out)).trans (GS.out 9 (by decide) (by have := HL.out; omega)))
                  simp only [Int.cast_ofNat_Int] at u_
                  refine op_run rfl rfl ?_ ⟨⟨_, _, v8, rfl⟩, hW.same (by decide) (by decide)⟩
                  generalize (puts V 0 dn FA).eval = ev at e57 ⊢
                  clear hdep v0 v1 v2 v3 v4 v5 v6 v7 v8 v9 v10 v11 v12 v13 v14 hs hltF
                  go_simp
                  first | done | rfl | (intro h_; exfalso; omega)
                | 9, _ =>
                  have e0 := puts_other V 0 dn FA 0 (by rw [hV]; simp)
                  rw [show FA.eval (.tmp 0) = .slice (some ad) l0.length c0 from by rw [← hFA]; rfl] at e0
                  refine op_run rfl rfl ?_ ⟨⟨_, _, v9, rfl⟩, hW.same (by decide) (by decide)⟩
                  generalize (puts V 0 dn FA).eval = ev at e0 ⊢
                  clear hdep v0 v1 v2 v3 v4 v5 v6 v7 v8 v9 v10 v11 v12 v13 v14 hs hltF
                  go_simp
                  first | done | rfl | (intro h_; exfalso; omega)
                | 10, _ =>
                  have hd := hdep _ rfl
                  simp [Region.binds] at hd
                  have hj9 : dn 9 = true := by first | exact hd | simp [hd]
                  have e59 := done0 9 59 hs v9 (hltF _ (by decide)) hj9
                  have hc : ∀ c, (puts V 0 dn FA).eval (.const c) = c := fun _ => rfl
                  have hf : ∀ f, (puts V 0 dn FA).eval (.func f) = .func (.func f) #[] #[] := fun _ => rfl
                  refine op_call rfl rfl (w1 := w') (f := 59) (args := #[.slice (some ad) l0.length c0, .int .i64 4, .int .i64 2]) (v := .int .i64 t4) ?_ ?_
                  · generalize (puts V 0 dn FA).eval = ev at e59 hc hf ⊢
                    clear hdep v0 v1 v2 v3 v4 v5 v6 v7 v8 v9 v10 v11 v12 v13 v14 hs hltF
                    go_simp
                    first | done | rfl
                  · refine (sallyportref07_value.calls k (some ad) c0 l0 4 2 t4 _ (Kd.C_below (Kd.C_below HR0.out HB.out) (below_step BB.out hW.below)) HC0.out E4.out).mono ?_
                    rintro e_ w_ ⟨rfl, ⟨nd, rfl⟩⟩
                    exact ⟨rfl, ⟨_, _, v10, rfl⟩, hW.quiet (by decide) (by decide)⟩
                | 11, _ =>
                  have hd := hdep _ rfl
                  simp [Region.binds] at hd
                  have hj10 : dn 10 = true := by first | exact hd | simp [hd]
                  have e60 := done0 10 60 hs v10 (hltF _ (by decide)) hj10
                  refine op_run rfl rfl ?_ ⟨⟨_, _, v11, rfl⟩, hW.same (by decide) (by decide)⟩
                  generalize (puts V 0 dn FA).eval = ev at e60 ⊢
                  clear hdep v0 v1 v2 v3 v4 v5 v6 v7 v8 v9 v10 v11 v12 v13 v14 hs hltF
                  go_simp
                  first | done | rfl | (intro h_; exfalso; omega)
                | 12, _ =>
                  have hd := hdep _ rfl
                  simp [Region.binds] at hd
                  have hj2 : dn 2 = true := by first | exact hd | simp [hd]
                  have e52 := done0 2 52 hs v2 (hltF _ (by decide)) hj2
                  have hj5 : dn 5 = true := by first | exact hd | simp [hd]
                  have e55 := done0 5 55 hs v5 (hltF _ (by decide)) hj5
                  have hj8 : dn 8 = true := by first | exact hd | simp [hd]
                  have e58 := done0 8 58 hs v8 (hltF _ (by decide)) hj8
                  have hj11 : dn 11 = true := by first | exact hd | simp [hd]
                  have e61 := done0 11 61 hs v11 (hltF _ (by decide)) hj11
                  refine op_run rfl rfl ?_ ⟨⟨_, _, v12, rfl⟩, hW.same (by decide) (by decide)⟩
                  generalize (puts V 0 dn FA).eval = ev at e52 e55 e58 e61 ⊢
                  clear hdep v0 v1 v2 v3 v4 v5 v6 v7 v8 v9 v10 v11 v12 v13 v14 hs hltF
                  go_simp
                  first | done | rfl | (intro h_; exfalso; omega)
                | 13, _ =>
                  have hz := hW.size hdn
                  refine op_run (w' := w'.alloc (.cells #[.int .u8 0, .int .u8 0, .int .u8 0, .int .u16 0, .int .u8 0, .int .u8 0, .int .u8 0, .int .u8 0, .int .u8 0, .int .u8 0, .int .u8 0, .int .u8 0] 25)) rfl rfl ?_ ⟨⟨_, _, v13, rfl⟩, hW.alloc hdn (by decide)⟩
                  generalize (puts V 0 dn FA).eval = ev
                  clear hdep v0 v1 v2 v3 v4 v5 v6 v7 v8 v9 v10 v11 v12 v13 v14 hs hltF
                  go_simp
                  first | done | rfl | (simp only [hz]; done) | (rw [hz])
                | 14, _ =>
                  have hd := hdep _ rfl
                  simp [Region.binds] at hd
                  have hj13 : dn 13 = true := by first | exact hd | simp [hd]
                  have e6 := done0 13 6 hs v13 (hltF _ (by decide)) hj13
                  have hj12 : dn 12 = true := by first | exact hd | simp [hd]
                  have e62 := done0 12 62 hs v12 (hltF _ (by decide)) hj12
                  have hz := hW.zero hj13 hdn
                  have hk0 := blk_cell hz 0
                  have hf0 := blk_frozen hz 0
                  have hk1 := blk_cell hz 1
                  have hf1 := blk_frozen hz 1
                  have hk2 := blk_cell hz 2
                  have hf2 := blk_frozen hz 2
                  have hk3 := blk_cell hz 3
                  have hf3 := blk_frozen hz 3
                  have hk4 := blk_cell hz 4
                  have hf4 := blk_frozen hz 4
                  have hk5 := blk_cell hz 5
                  have hf5 := blk_frozen hz 5
                  have hk6 := blk_cell hz 6
                  have hf6 := blk_frozen hz 6
                  have hk7 := blk_cell hz 7
                  have hf7 := blk_frozen hz 7
                  have hk8 := blk_cell hz 8
                  have hf8 := blk_frozen hz 8
                  have hk9 := blk_cell hz 9
                  have hf9 := blk_frozen hz 9
                  have hk10 := blk_cell hz 10
                  have hf10 := blk_frozen hz 10
                  have hk11 := blk_cell hz 11
                  have hf11 := blk_frozen hz 11
                  have HW := Aside0.mk hW
                  have HZ := Aside0.mk hz
                  clear hz
                  have hlay : lay #[.int .u8 0, .int .u8 0, .int .u8 0, .int .u16 0, .int .u8 0, .int .u8 0, .int .u8 0, .int .u8 0, .int .u8 0, .int .u8 0, .int .u8 0, .int .u8 0] 0 [.int .u8 (rd l0 1), .int .u8 (rd l0 8), .int .u8 (rd l0 9), .int .u16 (IntKind.u16.wrap t4), .int .u8 0, .int .u8 0, .int .u8 0, .int .u8 0, .int .u8 0, .int .u8 0, .int .u8 0, .int .u8 0] = #[.int .u8 (rd l0 1), .int .u8 (rd l0 8), .int .u8 (rd l0 9), .int .u16 (IntKind.u16.wrap t4), .int .u8 0, .int .u8 0, .int .u8 0, .int .u8 0, .int .u8 0, .int .u8 0, .int .u8 0, .int .u8 0] := by simp only [lay, List.setIfInBounds_toArray, List.set_cons_zero, List.set_cons_succ, Nat.reduceAdd]
                  refine op_skip (w' := w'.setCells w6.heap.size 0 [.int .u8 (rd l0 1), .int .u8 (rd l0 8), .int .u8 (rd l0 9), .int .u16 (IntKind.u16.wrap t4), .int .u8 0, .int .u8 0, .int .u8 0, .int .u8 0, .int .u8 0, .int .u8 0, .int .u8 0, .int .u8 0]) rfl rfl ?_ ⟨⟨_, _, v14, rfl⟩, hW.store hj13 (by decide) (setCells_grown _ _ _) (setCells_blk' hlay HZ.out)⟩
                  clear hlay
                  generalize (puts V 0 dn FA).eval = ev at e6 e62 ⊢
                  clear hdep v0 v1 v2 v3 v4 v5 v6 v7 v8 v9 v10 v11 v12 v13 v14 hs hltF hW
                  go_simp
                  first | done | rfl
                | n_ + 15, hi_ => exact absurd hi_ (by simp)
              clear hs hltF v0 v1 v2 v3 v4 v5 v6 v7 v8 v9 v10 v11 v12 v13 v14
              intro w' hW
              rw [hV]
              simp only [putAll', Act.put, ← hFA, List.setIfInBounds_toArray, List.set_cons_zero, List.set_cons_succ]
              have hz := hW.row
              have hbW := below_step BB.out hW.below
              have hge6 : w1.heap.size ≤ w6.heap.size := BB.out.size
              clear hW
              generalize w6.heap.size = g6 at hz hge6 ⊢
              generalize w' = W0 at hz hbW ⊢
              have HZ := Aside0.mk hz
              have HBW := Aside0.mk hbW
              have HG6 := Aside0.mk hge6
              clear hz hbW hge6
              go_wp2
              refine wp_loop_rounds 5 ?_
              have hz := HZ.out
              have hbW := HBW.out
              clear HZ HBW
              rw [rounds_succ]
              have hz1 : (W0.setCell ⟨g6, 4, none⟩ (.int .u8 (rd l0 12))).heap[g6]? = some (.cells #[.int .u8 (rd l0 1), .int .u8 (rd l0 8), .int .u8 (rd l0 9), .int .u16 (IntKind.u16.wrap t4), .int .u8 (rd l0 12), .int .u8 0, .int .u8 0, .int .u8 0, .int .u8 0, .int .u8 0, .int .u8 0, .int .u8 0] 25 (0, 0)) := blk_set hz 4 _
              have hb1 : Below w1.heap.size w1 (W0.setCell ⟨g6, 4, none⟩ (.int .u8 (rd l0 12))) := below_set hbW HG6.out
              have hz2 : ((W0.setCell ⟨g6, 4, none⟩ (.int .u8 (rd l0 12))).setCell ⟨g6, 8, none⟩ (.int .u8 (rd l0 16))).heap[g6]? = some (.cells #[.int .u8 (rd l0 1), .int .u8 (rd l0 8), .int .u8 (rd l0 9), .int .u16 (IntKind.u16.wrap t4), .int .u8 (rd l0 12), .int .u8 0, .int .u8 0, .int .u8 0, .int .u8 (rd l0 16), .int .u8 0, .int .u8 0, .int .u8 0] 25 (0, 0)) := blk_set hz1 8 _
              have hb2 : Below w1.heap.size w1 ((W0.setCell ⟨g6, 4, none⟩ (.int .u8 (rd l0 12))).setCell ⟨g6, 8, none⟩ (.int .u8 (rd l0 16))) := below_set hb1 HG6.out
              have p1 := (hbW.cell (by exact Nat.lt_of_lt_of_le HLA.out HB.out.size)).trans ((HB.out.cell (by exact HLA.out)).trans (GS.out 12 (by decide) (by have := HL.out; omega)))
              have p2 := (hb1.cell (by exact Nat.lt_of_lt_of_le HLA.out HB.out.size)).trans ((HB.out.cell (by exact HLA.out)).trans (GS.out 16 (by decide) (by have := HL.out; omega)))
              have k1 := blk_cell hz 4
              have f1 := blk_frozen hz 4
              have k2 := blk_cell hz1 8
              have f2 := blk_frozen hz1 8
              simp only [Int.cast_ofNat_Int] at p1 p2
              have d1 : decide ((12 : Int) < (l0.length : Int)) = true := decide_eq_true (by have := HL.out; omega)
              have d2 : decide ((16 : Int) < (l0.length : Int)) = true := decide_eq_true (by have := HL.out; omega)
              have n1 : 12 < l0.length := by have := HL.out; omega
              have n2 : 16 < l0.length := by have := HL.out; omega
              have HZ := Aside0.mk hz2
              have HBW := Aside0.mk hb2
              clear hz hbW hz1 hb1 hz2 hb2
              go_wp2
              clear p1 p2 k1 f1 k2 f2 d1 d2 n1 n2
              have hz := HZ.out
              have hbW := HBW.out
              clear HZ HBW
              generalize ((W0.setCell ⟨g6, 4, none⟩ (.int .u8 (rd l0 12))).setCell ⟨g6, 8, none⟩ (.int .u8 (rd l0 16))) = W1 at hz hbW ⊢
              rw [rounds_succ]
              have hz1 : (W1.setCell ⟨g6, 5, none⟩ (.int .u8 (rd l0 13))).heap[g6]? = some (.cells #[.int .u8 (rd l0 1), .int .u8 (rd l0 8), .int .u8 (rd l0 9), .int .u16 (IntKind.u16.wrap t4), .int .u8 (rd l0 12), .int .u8 (rd l0 13), .int .u8 0, .int .u8 0, .int .u8 (rd l0 16), .int .u8 0, .int .u8 0, .int .u8 0] 25 (0, 0)) := blk_set hz 5 _
              have hb1 : Below w1.heap.size w1 (W1.setCell ⟨g6, 5, none⟩ (.int .u8 (rd l0 13))) := below_set hbW HG6.out
              have hz2 : ((W1.setCell ⟨g6, 5, none⟩ (.int .u8 (rd l0 13))).setCell ⟨g6, 9, none⟩ (.int .u8 (rd l0 17))).heap[g6]? = some (.cells #[.int .u8 (rd l0 1), .int .u8 (rd l0 8), .int .u8 (rd l0 9), .int .u16 (IntKind.u16.wrap t4), .int .u8 (rd l0 12), .int .u8 (rd l0 13), .int .u8 0, .int .u8 0, .int .u8 (rd l0 16), .int .u8 (rd l0 17), .int .u8 0, .int .u8 0] 25 (0, 0)) := blk_set hz1 9 _
              have hb2 : Below w1.heap.size w1 ((W1.setCell ⟨g6, 5, none⟩ (.int .u8 (rd l0 13))).setCell ⟨g6, 9, none⟩ (.int .u8 (rd l0 17))) := below_set hb1 HG6.out
              have p1 := (hbW.cell (by exact Nat.lt_of_lt_of_le HLA.out HB.out.size)).trans ((HB.out.cell (by exact HLA.out)).trans (GS.out 13 (by decide) (by have := HL.out; omega)))
              have p2 := (hb1.cell (by exact Nat.lt_of_lt_of_le HLA.out HB.out.size)).trans ((HB.out.cell (by exact HLA.out)).trans (GS.out 17 (by decide) (by have := HL.out; omega)))
              have k1 := blk_cell hz 5
              have f1 := blk_frozen hz 5
              have k2 := blk_cell hz1 9
              have f2 := blk_frozen hz1 9
              simp only [Int.cast_ofNat_Int] at p1 p2
              have d1 : decide ((13 : Int) < (l0.length : Int)) = true := decide_eq_true (by have := HL.out; omega)
              have d2 : decide ((17 : Int) < (l0.length : Int)) = true := decide_eq_true (by have := HL.out; omega)
              have n1 : 13 < l0.length := by have := HL.out; omega
              have n2 : 17 < l0.length := by have := HL.out; omega
              have HZ := Aside0.mk hz2
              have HBW := Aside0.mk hb2
              clear hz hbW hz1 hb1 hz2 hb2
              go_wp2
              clear p1 p2 k1 f1 k2 f2 d1 d2 n1 n2
              have hz := HZ.out
              have hbW := HBW.out
              clear HZ HBW
              generalize ((W1.setCell ⟨g6, 5, none⟩ (.int .u8 (rd l0 13))).setCell ⟨g6, 9, none⟩ (.int .u8 (rd l0 17))) = W2 at hz hbW ⊢
              rw [rounds_succ]
              have hz1 : (W2.setCell ⟨g6, 6, none⟩ (.int .u8 (rd l0 14))).heap[g6]? = some (.cells #[.int .u8 (rd l0 1), .int .u8 (rd l0 8), .int .u8 (rd l0 9), .int .u16 (IntKind.u16.wrap t4), .int .u8 (rd l0 12), .int .u8 (rd l0 13), .int .u8 (rd l0 14), .int .u8 0, .int .u8 (rd l0 16), .int .u8 (rd l0 17), .int .u8 0, .int .u8 0] 25 (0, 0)) := blk_set hz 6 _
              have hb1 : Below w1.heap.size w1 (W2.setCell ⟨g6, 6, none⟩ (.int .u8 (rd l0 14))) := below_set hbW HG6.out
              have hz2 : ((W2.setCell ⟨g6, 6, none⟩ (.int .u8 (rd l0 14))).setCell ⟨g6, 10, none⟩ (.int .u8 (rd l0 18))).heap[g6]? = some (.cells #[.int .u8 (rd l0 1), .int .u8 (rd l0 8), .int .u8 (rd l0 9), .int .u16 (IntKind.u16.wrap t4), .int .u8 (rd l0 12), .int .u8 (rd l0 13), .int .u8 (rd l0 14), .int .u8 0, .int .u8 (rd l0 16), .int .u8 (rd l0 17), .int .u8 (rd l0 18), .int .u8 0] 25 (0, 0)) := blk_set hz1 10 _
              have hb2 : Below w1.heap.size w1 ((W2.setCell ⟨g6, 6, none⟩ (.int .u8 (rd l0 14))).setCell ⟨g6, 10, none⟩ (.int .u8 (rd l0 18))) := below_set hb1 HG6.out
              have p1 := (hbW.cell (by exact Nat.lt_of_lt_of_le HLA.out HB.out.size)).trans ((HB.out.cell (by exact HLA.out)).trans (GS.out 14 (by decide) (by have := HL.out; omega)))
              have p2 := (hb1.cell (by exact Nat.lt_of_lt_of_le HLA.out HB.out.size)).trans ((HB.out.cell (by exact HLA.out)).trans (GS.out 18 (by decide) (by have := HL.out; omega)))
              have k1 := blk_cell hz 6
              have f1 := blk_frozen hz 6
              have k2 := blk_cell hz1 10
              have f2 := blk_frozen hz1 10
              simp only [Int.cast_ofNat_Int] at p1 p2
              have d1 : decide ((14 : Int) < (l0.length : Int)) = true := decide_eq_true (by have := HL.out; omega)
              have d2 : decide ((18 : Int) < (l0.length : Int)) = true := decide_eq_true (by have := HL.out; omega)
              have n1 : 14 < l0.length := by have := HL.out; omega
              have n2 : 18 < l0.length := by have := HL.out; omega
              have HZ := Aside0.mk hz2
              have HBW := Aside0.mk hb2
              clear hz hbW hz1 hb1 hz2 hb2
              go_wp2
              clear p1 p2 k1 f1 k2 f2 d1 d2 n1 n2
              have hz := HZ.out
              have hbW := HBW.out
              clear HZ HBW
              generalize ((W2.setCell ⟨g6, 6, none⟩ (.int .u8 (rd l0 14))).setCell ⟨g6, 10, none⟩ (.int .u8 (rd l0 18))) = W3 at hz hbW ⊢
              rw [rounds_succ]
              have hz1 : (W3.setCell ⟨g6, 7, none⟩ (.int .u8 (rd l0 15))).heap[g6]? = some (.cells #[.int .u8 (rd l0 1), .int .u8 (rd l0 8), .int .u8 (rd l0 9), .int .u16 (IntKind.u16.wrap t4), .int .u8 (rd l0 12), .int .u8 (rd l0 13), .int .u8 (rd l0 14), .int .u8 (rd l0 15), .int .u8 (rd l0 16), .int .u8 (rd l0 17), .int .u8 (rd l0 18), .int .u8 0] 25 (0, 0)) := blk_set hz 7 _
              have hb1 : Below w1.heap.size w1 (W3.setCell ⟨g6, 7, none⟩ (.int .u8 (rd l0 15))) := below_set hbW HG6.out
              have hz2 : ((W3.setCell ⟨g6, 7, none⟩ (.int .u8 (rd l0 15))).setCell ⟨g6, 11, none⟩ (.int .u8 (rd l0 19))).heap[g6]? = some (.cells #[.int .u8 (rd l0 1), .int .u8 (rd l0 8), .int .u8 (rd l0 9), .int .u16 (IntKind.u16.wrap t4), .int .u8 (rd l0 12), .int .u8 (rd l0 13), .int .u8 (rd l0 14), .int .u8 (rd l0 15), .int .u8 (rd l0 16), .int .u8 (rd l0 17), .int .u8 (rd l0 18), .int .u8 (rd l0 19)] 25 (0, 0)) := blk_set hz1 11 _
              have hb2 : Below w1.heap.size w1 ((W3.setCell ⟨g6, 7, none⟩ (.int .u8 (rd l0 15))).setCell ⟨g6, 11, none⟩ (.int .u8 (rd l0 19))) := below_set hb1 HG6.out
              have p1 := (hbW.cell (by exact Nat.lt_of_lt_of_le HLA.out HB.out.size)).trans ((HB.out.cell (by exact HLA.out)).trans (GS.out 15 (by decide) (by have := HL.out; omega)))
              have p2 := (hb1.cell (by exact Nat.lt_of_lt_of_le HLA.out HB.out.size)).trans ((HB.out.cell (by exact HLA.out)).trans (GS.out 19 (by decide) (by have := HL.out; omega)))
              have k1 := blk_cell hz 7
              have f1 := blk_frozen hz 7
              have k2 := blk_cell hz1 11
              have f2 := blk_frozen hz1 11
              simp only [Int.cast_ofNat_Int] at p1 p2
              have d1 : decide ((15 : Int) < (l0.length : Int)) = true := decide_eq_true (by have := HL.out; omega)
              have d2 : decide ((19 : Int) < (l0.length : Int)) = true := decide_eq_true (by have := HL.out; omega)
              have n1 : 15 < l0.length := by have := HL.out; omega
              have n2 : 19 < l0.length := by have := HL.out; omega
              have HZ := Aside0.mk hz2
              have HBW := Aside0.mk hb2
              clear hz hbW hz1 hb1 hz2 hb2
              go_wp2
              clear p1 p2 k1 f1 k2 f2 d1 d2 n1 n2
              have hz := HZ.out
              have hbW := HBW.out
              clear HZ HBW
              generalize ((W3.setCell ⟨g6, 7, none⟩ (.int .u8 (rd l0 15))).setCell ⟨g6, 11, none⟩ (.int .u8 (rd l0 19))) = W4 at hz hbW ⊢
              rw [rounds_succ]
              have hx := blk_below HX1.out hbW
              have hbw := below_step HB.out hbW
              have k0 := blk_cell hz 0
              have m0 := blk_cell hx 0
              have f0 := blk_frozen hx 0
              have k1 := blk_cell hz 1
              have m1 := blk_cell hx 1
              have f1 := blk_frozen hx 1
              have k2 := blk_cell hz 2
              have m2 := blk_cell hx 2
              have f2 := blk_frozen hx 2
              have k3 := blk_cell hz 3
              have m3 := blk_cell hx 3
              have f3 := blk_frozen hx 3
              have k4 := blk_cell hz 4
              have m4 := blk_cell hx 4
              have f4 := blk_frozen hx 4
              have k5 := blk_cell hz 5
              have m5 := blk_cell hx 5
              have f5 := blk_frozen hx 5
              have k6 := blk_cell hz 6
              have m6 := blk_cell hx 6
              have f6 := blk_frozen hx 6
              have k7 := blk_cell hz 7
              have m7 := blk_cell hx 7
              have f7 := blk_frozen hx 7
              have k8 := blk_cell hz 8
              have m8 := blk_cell hx 8
              have f8 := blk_frozen hx 8
              have k9 := blk_cell hz 9
              have m9 := blk_cell hx 9
              have f9 := blk_frozen hx 9
              have k10 := blk_cell hz 10
              have m10 := blk_cell hx 10
              have f10 := blk_frozen hx 10
              have k11 := blk_cell hz 11
              have m11 := blk_cell hx 11
              have f11 := blk_frozen hx 11
              have HX := Aside0.mk hx
              have HBX := Aside0.mk hbw
              clear hz hx hbW hbw
              go_wp2
              have hlay : lay #[.int .u8 0, .int .u8 0, .int .u8 0, .int .u16 0, .int .u8 0, .int .u8 0, .int .u8 0, .int .u8 0, .int .u8 0, .int .u8 0, .int .u8 0, .int .u8 0] 0 [.int .u8 (rd l0 1), .int .u8 (rd l0 8), .int .u8 (rd l0 9), .int .u16 (IntKind.u16.wrap t4), .int .u8 (rd l0 12), .int .u8 (rd l0 13), .int .u8 (rd l0 14), .int .u8 (rd l0 15), .int .u8 (rd l0 16), .int .u8 (rd l0 17), .int .u8 (rd l0 18), .int .u8 (rd l0 19)] = #[.int .u8 (rd l0 1), .int .u8 (rd l0 8), .int .u8 (rd l0 9), .int .u16 (IntKind.u16.wrap t4), .int .u8 (rd l0 12), .int .u8 (rd l0 13), .int .u8 (rd l0 14), .int .u8 (rd l0 15), .int .u8 (rd l0 16), .int .u8 (rd l0 17), .int .u8 (rd l0 18), .int .u8 (rd l0 19)] := by simp only [lay, List.setIfInBounds_toArray, List.set_cons_zero, List.set_cons_succ, Nat.reduceAdd]
              refine bodyPost_ret (results_ct rfl _ _ w.heap.size 25 #[.int .u8 (rd l0 1), .int .u8 (rd l0 8), .int .u8 (rd l0 9), .int .u16 (IntKind.u16.wrap t4), .int .u8 (rd l0 12), .int .u8 (rd l0 13), .int .u8 (rd l0 14), .int .u8 (rd l0 15), .int .u8 (rd l0 16), .int .u8 (rd l0 17), .int .u8 (rd l0 18), .int .u8 (rd l0 19)] (0, 0) _ rfl (setCells_blk' (vs := [.int .u8 (rd l0 1), .int .u8 (rd l0 8), .int .u8 (rd l0 9), .int .u16 (IntKind.u16.wrap t4), .int .u8 (rd l0 12), .int .u8 (rd l0 13), .int .u8 (rd l0 14), .int .u8 (rd l0 15), .int .u8 (rd l0 16), .int .u8 (rd l0 17), .int .u8 (rd l0 18), .int .u8 (rd l0 19)]) (o := 0) hlay HX.out) hu rfl (by kernel_rfl)) rfl ?_
              exact ⟨rfl, below_setCells [.int .u8 (rd l0 1), .int .u8 (rd l0 8), .int .u8 (rd l0 9), .int .u16 (IntKind.u16.wrap t4), .int .u8 (rd l0 12), .int .u8 (rd l0 13), .int .u8 (rd l0 14), .int .u8 (rd l0 15), .int .u8 (rd l0 16), .int .u8 (rd l0 17), .int .u8 (rd l0 18), .int .u8 (rd l0 19)] 0 HBX.out (Nat.le_refl _)⟩
            · rw [if_neg h2] at h
              have g2 : (t2 == wrap64 t3) = false := beq_eq_false_iff_ne.mpr h2
              have g2' : (t2 != wrap64 t3) = true := bne_iff_ne.mpr h2
              clear h2
              simp only [Option.some.injEq, Prod.mk.injEq] at h
              obtain ⟨rfl, rfl, rfl, rfl, rfl, rfl, rfl, rfl, rfl, rfl, rfl, rfl, rfl⟩ := h
              go_enter Try.func28, Try.ntmps28
              have hb : Below w.heap.size w ((w.alloc (.cells #[.int .u8 0, .int .u8 0, .int .u8 0, .int .u16 0, .int .u8 0, .int .u8 0, .int .u8 0, .int .u8 0, .int .u8 0, .int .u8 0, .int .u8 0, .int .u8 0] 25)).alloc (.cells #[.int .u8 0, .int .u8 0, .int .u8 0, .int .u16 0, .int .u8 0, .int .u8 0, .int .u8 0, .int .u8 0, .int .u8 0, .int .u8 0, .int .u8 0, .int .u8 0] 25)) := below_alloc ((Below.refl _ _).alloc (Nat.le_refl _) _) _
              have hx : ((w.alloc (.cells #[.int .u8 0, .int .u8 0, .int .u8 0, .int .u16 0, .int .u8 0, .int .u8 0, .int .u8 0, .int .u8 0, .int .u8 0, .int .u8 0, .int .u8 0, .int .u8 0] 25)).alloc (.cells #[.int .u8 0, .int .u8 0, .int .u8 0, .int .u16 0, .int .u8 0, .int .u8 0, .int .u8 0, .int .u8 0, .int .u8 0, .int .u8 0, .int .u8 0, .int .u8 0] 25)).heap[w.heap.size]? = some (.cells #[.int .u8 0, .int .u8 0, .int .u8 0, .int .u16 0, .int .u8 0, .int .u8 0, .int .u8 0, .int .u8 0, .int .u8 0, .int .u8 0, .int .u8 0, .int .u8 0] 25 (0, 0)) := blk_alloc (blk_new _ _) _
              have hy := blk_new (w.alloc (.cells #[.int .u8 0, .int .u8 0, .int .u8 0, .int .u16 0, .int .u8 0, .int .u8 0, .int .u8 0, .int .u8 0, .int .u8 0, .int .u8 0, .int .u8 0, .int .u8 0] 25)) (.cells #[.int .u8 0, .int .u8 0, .int .u8 0, .int .u16 0, .int .u8 0, .int .u8 0, .int .u8 0, .int .u8 0, .int .u8 0, .int .u8 0, .int .u8 0, .int .u8 0] 25)
              have u0 := hb.cell (by exact HLA.out) |>.trans G0.out
              have n0 : 0 < l0.length := by have := HL.out; omega
              have d0_ : decide ((0 : Int) < (l0.length : Int)) = true := decide_eq_true (by have := HL.out; omega)
              have u6 := (hb.cell (by exact HLA.out)).trans (GS.out 6 (by decide) (by have := HL.out; omega))
              have n6 : 6 < l0.length := by have := HL.out; omega
              have d6_ : decide ((6 : Int) < (l0.length : Int)) = true := decide_eq_true (by have := HL.out; omega)
              have u7 := (hb.cell (by exact HLA.out)).trans (GS.out 7 (by decide) (by have := HL.out; omega))
              have n7 : 7 < l0.length := by have := HL.out; omega
              have d7_ : decide ((7 : Int) < (l0.length : Int)) = true := decide_eq_true (by have := HL.out; omega)
              simp only [Int.cast_ofNat_Int] at u6 u7
              have HB := Aside0.mk hb
              have HX1 := Aside0.mk hx
              have HY1 := Aside0.mk hy
              have HGS := Aside0.mk (show (w.alloc (.cells #[.int .u8 0, .int .u8 0, .int .u8 0, .int .u16 0, .int .u8 0, .int .u8 0, .int .u8 0, .int .u8 0, .int .u8 0, .int .u8 0, .int .u8 0, .int .u8 0] 25)).heap.size < ((w.alloc (.cells #[.int .u8 0, .int .u8 0, .int .u8 0, .int .u16 0, .int .u8 0, .int .u8 0, .int .u8 0, .int .u8 0, .int .u8 0, .int .u8 0, .int .u8 0, .int .u8 0] 25)).alloc (.cells #[.int .u8 0, .int .u8 0, .int .u8 0, .int .u16 0, .int .u8 0, .int .u8 0, .int .u8 0, .int .u8 0, .int .u8 0, .int .u8 0, .int .u8 0, .int .u8 0] 25)).heap.size by simp)
              have HGW := Aside0.mk (show w.heap.size ≤ ((w.alloc (.cells #[.int .u8 0, .int .u8 0, .int .u8 0, .int .u16 0, .int .u8 0, .int .u8 0, .int .u8 0, .int .u8 0, .int .u8 0, .int .u8 0, .int .u8 0, .int .u8 0] 25)).alloc (.cells #[.int .u8 0, .int .u8 0, .int .u8 0, .int .u16 0, .int .u8 0, .int .u8 0, .int .u8 0, .int .u8 0, .int .u8 0, .int .u8 0, .int .u8 0, .int .u8 0] 25)).heap.size by simp; omega)
              clear hb hx hy
              go_wp2_with fail
              clear u0 u6 u7 n0 n6 n7 d0_ d6_ d7_
              have hs1 : (w.alloc (.cells #[.int .u8 0, .int .u8 0, .int .u8 0, .int .u16 0, .int .u8 0, .int .u8 0, .int .u8 0, .int .u8 0, .int .u8 0, .int .u8 0, .int .u8 0, .int .u8 0] 25)).heap.size = w.heap.size + 1 := by simp
              rw [hs1] at HY1 HGS
              clear hs1
              generalize ((w.alloc (.cells #[.int .u8 0, .int .u8 0, .int .u8 0, .int .u16 0, .int .u8 0, .int .u8 0, .int .u8 0, .int .u8 0, .int .u8 0, .int .u8 0, .int .u8 0, .int .u8 0] 25)).alloc (.cells #[.int .u8 0, .int .u8 0, .int .u8 0, .int .u16 0, .int .u8 0, .int .u8 0, .int .u8 0, .int .u8 0, .int .u8 0, .int .u8 0, .int .u8 0, .int .u8 0] 25)) = w1 at HB HX1 HY1 HGS HGW ⊢
              refine (sallyportref07_value.calls k (some ad) c0 l0 2 2 t1 _ (Kd.C_below HR0.out HB.out) HC0.out E1.out).mono ?_
              rintro e_ w_ ⟨rfl, ⟨nd, rfl⟩⟩
              have BB := Aside0.mk (pw_below_drewN (Below.refl w1.heap.size w1) nd)
              generalize w1.drewN nd = w2 at BB ⊢
              obtain ⟨i5, hi5, _, hsz5, _⟩ := info_parts info5
              obtain ⟨T20, hT⟩ : ∃ T20 : List Int, T20 = l0.take 20 := ⟨_, rfl⟩
              have e20 : T20.length = 20 := by rw [hT, List.length_take]; have := HL.out; omega
              have take20 := (print_take_of (P := Try.prog) (Value.int .u8) 0 26 5 .i64 Try.underlying26 hi5 hsz5 (some ad) c0 l0 20 (by omega) (by have := HL.out; omega) HC0.out).1
              rw [show (20 : Int).toNat = 20 from rfl, ← hT, e20] at take20
              go_wp2_with fail
              have hcp := sallyportref00_CopyBytes.calls (some ad) c0 T20 T20 w2 (by rw [hT]; exact Kd.C_take (Kd.C_below (Kd.C_below HR0.out HB.out) BB.out) (m := 20) HL.out) (by rw [e20]; exact Nat.le_trans HL.out HC0.out) (by unfold sallyportref00_CopyBytes.f; rw [if_pos (by rw [e20]; decide)]; rfl)
              rw [e20] at hcp
              refine hcp.mono ?_
              clear hcp take20 hi5 hsz5
              rintro e_ w3 ⟨v_, rfl, ho, hb3⟩
              obtain ⟨g, cap, hv, hgb, hgl, cells, hg⟩ := Kd.R_form ho (by rw [e20]; omega)
              rw [e20] at hv
              subst hv
              have hge : w1.heap.size ≤ g := Nat.le_trans BB.out.size hgb
              have hB3 := below_step BB.out hb3
              clear BB hb3
              obtain ⟨hc10, hf10⟩ := Kd.R_celln 0 ho (10 : Int) (by omega) (by omega)
              obtain ⟨ho1, hgr1⟩ := Kd.R_putg ho (10 : Int) 0
              obtain ⟨hc11, hf11⟩ := Kd.R_celln 0 ho1 (11 : Int) (by omega) (by omega)
              obtain ⟨ho2, hgr2⟩ := Kd.R_putg ho1 (11 : Int) 0
              simp only [Int.reduceToNat] at hc10 hf10 ho1 hgr1 hc11 hf11 ho2 hgr2
              have HO := Aside0.mk ho2
              have BB : Aside0 (Below w1.heap.size w1 ((w3.setCell ⟨g, 10, none⟩ (.int .u8 0)).setCell ⟨g, 11, none⟩ (.int .u8 0))) := ⟨below_set (below_set hB3 hge) hge⟩
              have HT := Aside0.mk hT
              have E20 := Aside0.mk e20
              clear ho ho1 ho2 hgr1 hgr2 hB3 hg hT e20
              go_wp2_with fail
              clear hc10 hf10 hc11 hf11
              generalize (w3.setCell ⟨g, 10, none⟩ (.int .u8 0)).setCell ⟨g, 11, none⟩ (.int .u8 0) = w4 at HO BB ⊢
              refine (sallyportref07_value.calls k (some ad) c0 l0 10 2 t2 _ (Kd.C_below (Kd.C_below HR0.out HB.out) BB.out) HC0.out E2.out).mono ?_
              rintro e_ w_ ⟨rfl, ⟨nd, rfl⟩⟩
              have HO2 := Aside0.mk (Kd.R_drewN HO.out nd)
              have BB2 := Aside0.mk (pw_below_drewN BB.out nd)
              clear HO BB
              generalize w4.drewN nd = w5 at HO2 BB2 ⊢
              go_wp2_with fail
              obtain ⟨rl, rc, rC⟩ := Kd.R_reads' HO2.out
              have hfl := sallyportref01_Field.calls k (some ⟨g, 0, none⟩) cap ((T20.set 10 0).set 11 0) t3 w5 rC (by rw [← rl]; exact rc) (by rw [HT.out]; exact E3.out)
              rw [show ((T20.set 10 0).set 11 0).length = 20 by rw [List.length_set, List.length_set, E20.out]] at hfl
              refine hfl.mono ?_
              clear hfl rl rc rC
              rintro e_ w_ ⟨rfl, ⟨nd2, rfl⟩⟩
              have BB := Aside0.mk (pw_below_drewN BB2.out nd2)
              clear HO2 BB2
              generalize w5.drewN nd2 = w6 at BB ⊢
              have hx := blk_below HX1.out BB.out
              have hy := blk_below HY1.out BB.out
              have hb := below_step HB.out BB.out
              have ky0 := blk_cell hy 0
              have ky1 := blk_cell hy 1
              have ky2 := blk_cell hy 2
              have ky3 := blk_cell hy 3
              have ky4 := blk_cell hy 4
              have ky5 := blk_cell hy 5
              have ky6 := blk_cell hy 6
              have ky7 := blk_cell hy 7
              have ky8 := blk_cell hy 8
              have ky9 := blk_cell hy 9
              have ky10 := blk_cell hy 10
              have ky11 := blk_cell hy 11
              have kx0 := blk_cell hx 0
              have fx0 := blk_frozen hx 0
              have kx1 := blk_cell hx 1
              have fx1 := blk_frozen hx 1
              have kx2 := blk_cell hx 2
              have fx2 := blk_frozen hx 2
              have kx3 := blk_cell hx 3
              have fx3 := blk_frozen hx 3
              have kx4 := blk_cell hx 4
              have fx4 := blk_frozen hx 4
              have kx5 := blk_cell hx 5
              have fx5 := blk_frozen hx 5
              have kx6 := blk_cell hx 6
              have fx6 := blk_frozen hx 6
              have kx7 := blk_cell hx 7
              have fx7 := blk_frozen hx 7
              have kx8 := blk_cell hx 8
              have fx8 := blk_frozen hx 8
              have kx9 := blk_cell hx 9
              have fx9 := blk_frozen hx 9
              have kx10 := blk_cell hx 10
              have fx10 := blk_frozen hx 10
              have kx11 := blk_cell hx 11
              have fx11 := blk_frozen hx 11
              have HX := Aside0.mk hx
              have HBX := Aside0.mk hb
              clear hx hy hb
              go_wp2
              have hlay : lay #[.int .u8 0, .int .u8 0, .int .u8 0, .int .u16 0, .int .u8 0, .int .u8 0, .int .u8 0, .int .u8 0, .int .u8 0, .int .u8 0, .int .u8 0, .int .u8 0] 0 [.int .u8 0, .int .u8 0, .int .u8 0, .int .u16 0, .int .u8 0, .int .u8 0, .int .u8 0, .int .u8 0, .int .u8 0, .int .u8 0, .int .u8 0, .int .u8 0] = #[.int .u8 0, .int .u8 0, .int .u8 0, .int .u16 0, .int .u8 0, .int .u8 0, .int .u8 0, .int .u8 0, .int .u8 0, .int .u8 0, .int .u8 0, .int .u8 0] := by simp only [lay, List.setIfInBounds_toArray, List.set_cons_zero, List.set_cons_succ, Nat.reduceAdd]
              exact bodyPost_ret (results_ct rfl _ _ w.heap.size 25 #[.int .u8 0, .int .u8 0, .int .u8 0, .int .u16 0, .int .u8 0, .int .u8 0, .int .u8 0, .int .u8 0, .int .u8 0, .int .u8 0, .int .u8 0, .int .u8 0] (0, 0) _ rfl (setCells_blk' (vs := [.int .u8 0, .int .u8 0, .int .u8 0, .int .u16 0, .int .u8 0, .int .u8 0, .int .u8 0, .int .u8 0, .int .u8 0, .int .u8 0, .int .u8 0, .int .u8 0]) (o := 0) hlay HX.out) hu rfl (by kernel_rfl)) rfl ⟨rfl, below_setCells [.int .u8 0, .int .u8 0, .int .u8 0, .int .u16 0, .int .u8 0, .int .u8 0, .int .u8 0, .int .u8 0, .int .u8 0, .int .u8 0, .int .u8 0, .int .u8 0] 0 HBX.out (Nat.le_refl _)⟩
          · rw [if_neg h3] at h
            have g3 : (t1 == (l0.length : Int)) = false := beq_eq_false_iff_ne.mpr h3
            have g3' : (t1 != (l0.length : Int)) = true := bne_iff_ne.mpr h3
            clear h3
            simp only [Option.some.injEq, Prod.mk.injEq] at h
            obtain ⟨rfl, rfl, rfl, rfl, rfl, rfl, rfl, rfl, rfl, rfl, rfl, rfl, rfl⟩ := h
            go_enter Try.func28, Try.ntmps28
            have hb : Below w.heap.size w ((w.alloc (.cells #[.int .u8 0, .int .u8 0, .int .u8 0, .int .u16 0, .int .u8 0, .int .u8 0, .int .u8 0, .int .u8 0, .int .u8 0, .int .u8 0, .int .u8 0, .int .u8 0] 25)).alloc (.cells #[.int .u8 0, .int .u8 0, .int .u8 0, .int .u16 0, .int .u8 0, .int .u8 0, .int .u8 0, .int .u8 0, .int .u8 0, .int .u8 0, .int .u8 0, .int .u8 0] 25)) := below_alloc ((Below.refl _ _).alloc (Nat.le_refl _) _) _
            have hx : ((w.alloc (.cells #[.int .u8 0, .int .u8 0, .int .u8 0, .int .u16 0, .int .u8 0, .int .u8 0, .int .u8 0, .int .u8 0, .int .u8 0, .int .u8 0, .int .u8 0, .int .u8 0] 25)).alloc (.cells #[.int .u8 0, .int .u8 0, .int .u8 0, .int .u16 0, .int .u8 0, .int .u8 0, .int .u8 0, .int .u8 0, .int .u8 0, .int .u8 0, .int .u8 0, .int .u8 0] 25)).heap[w.heap.size]? = some (.cells #[.int .u8 0, .int .u8 0, .int .u8 0, .int .u16 0, .int .u8 0, .int .u8 0, .int .u8 0, .int .u8 0, .int .u8 0, .int .u8 0, .int .u8 0, .int .u8 0] 25 (0, 0)) := blk_alloc (blk_new _ _) _
            have hy := blk_new (w.alloc (.cells #[.int .u8 0, .int .u8 0, .int .u8 0, .int .u16 0, .int .u8 0, .int .u8 0, .int .u8 0, .int .u8 0, .int .u8 0, .int .u8 0, .int .u8 0, .int .u8 0] 25)) (.cells #[.int .u8 0, .int .u8 0, .int .u8 0, .int .u16 0, .int .u8 0, .int .u8 0, .int .u8 0, .int .u8 0, .int .u8 0, .int .u8 0, .int .u8 0, .int .u8 0] 25)
            have u0 := hb.cell (by exact HLA.out) |>.trans G0.out
            have n0 : 0 < l0.length := by have := HL.out; omega
            have d0_ : decide ((0 : Int) < (l0.length : Int)) = true := decide_eq_true (by have := HL.out; omega)
            have u6 := (hb.cell (by exact HLA.out)).trans (GS.out 6 (by decide) (by have := HL.out; omega))
            have n6 : 6 < l0.length := by have := HL.out; omega
            have d6_ : decide ((6 : Int) < (l0.length : Int)) = true := decide_eq_true (by have := HL.out; omega)
            have u7 := (hb.cell (by exact HLA.out)).trans (GS.out 7 (by decide) (by have := HL.out; omega))
            have n7 : 7 < l0.length := by have := HL.out; omega
            have d7_ : decide ((7 : Int) < (l0.length : Int)) = true := decide_eq_true (by have := HL.out; omega)
            simp only [Int.cast_ofNat_Int] at u6 u7
            have HB := Aside0.mk hb
            have HX1 := Aside0.mk hx
            have HY1 := Aside0.mk hy
            have HGS := Aside0.mk (show (w.alloc (.cells #[.int .u8 0, .int .u8 0, .int .u8 0, .int .u16 0, .int .u8 0, .int .u8 0, .int .u8 0, .int .u8 0, .int .u8 0, .int .u8 0, .int .u8 0, .int .u8 0] 25)).heap.size < ((w.alloc (.cells #[.int .u8 0, .int .u8 0, .int .u8 0, .int .u16 0, .int .u8 0, .int .u8 0, .int .u8 0, .int .u8 0, .int .u8 0, .int .u8 0, .int .u8 0, .int .u8 0] 25)).alloc (.cells #[.int .u8 0, .int .u8 0, .int .u8 0, .int .u16 0, .int .u8 0, .int .u8 0, .int .u8 0, .int .u8 0, .int .u8 0, .int .u8 0, .int .u8 0, .int .u8 0] 25)).heap.size by simp)
            have HGW := Aside0.mk (show w.heap.size ≤ ((w.alloc (.cells #[.int .u8 0, .int .u8 0, .int .u8 0, .int .u16 0, .int .u8 0, .int .u8 0, .int .u8 0, .int .u8 0, .int .u8 0, .int .u8 0, .int .u8 0, .int .u8 0] 25)).alloc (.cells #[.int .u8 0, .int .u8 0, .int .u8 0, .int .u16 0, .int .u8 0, .int .u8 0, .int .u8 0, .int .u8 0, .int .u8 0, .int .u8 0, .int .u8 0, .int .u8 0] 25)).heap.size by simp; omega)
            clear hb hx hy
            go_wp2_with fail
            clear u0 u6 u7 n0 n6 n7 d0_ d6_ d7_
            have hs1 : (w.alloc (.cells #[.int .u8 0, .int .u8 0, .int .u8 0, .int .u16 0, .int .u8 0, .int .u8 0, .int .u8 0, .int .u8 0, .int .u8 0, .int .u8 0, .int .u8 0, .int .u8 0] 25)).heap.size = w.heap.size + 1 := by simp
            rw [hs1] at HY1 HGS
            clear hs1
            generalize ((w.alloc (.cells #[.int .u8 0, .int .u8 0, .int .u8 0, .int .u16 0, .int .u8 0, .int .u8 0, .int .u8 0, .int .u8 0, .int .u8 0, .int .u8 0, .int .u8 0, .int .u8 0] 25)).alloc (.cells #[.int .u8 0, .int .u8 0, .int .u8 0, .int .u16 0, .int .u8 0, .int .u8 0, .int .u8 0, .int .u8 0, .int .u8 0, .int .u8 0, .int .u8 0, .int .u8 0] 25)) = w1 at HB HX1 HY1 HGS HGW ⊢
            refine (sallyportref07_value.calls k (some ad) c0 l0 2 2 t1 _ (Kd.C_below HR0.out HB.out) HC0.out E1.out).mono ?_
            rintro e_ w_ ⟨rfl, ⟨nd, rfl⟩⟩
            have BB := Aside0.mk (pw_below_drewN (Below.refl w1.heap.size w1) nd)
            generalize w1.drewN nd = w2 at BB ⊢
            have hx := blk_below HX1.out BB.out
            have hy := blk_below HY1.out BB.out
            have hb := below_step HB.out BB.out
            have ky0 := blk_cell hy 0
            have ky1 := blk_cell hy 1
            have ky2 := blk_cell hy 2
            have ky3 := blk_cell hy 3
            have ky4 := blk_cell hy 4
            have ky5 := blk_cell hy 5
            have ky6 := blk_cell hy 6
            have ky7 := blk_cell hy 7
            have ky8 := blk_cell hy 8
            have ky9 := blk_cell hy 9
            have ky10 := blk_cell hy 10
            have ky11 := blk_cell hy 11
            have kx0 := blk_cell hx 0
            have fx0 := blk_frozen hx 0
            have kx1 := blk_cell hx 1
            have fx1 := blk_frozen hx 1
            have kx2 := blk_cell hx 2
            have fx2 := blk_frozen hx 2
            have kx3 := blk_cell hx 3
            have fx3 := blk_frozen hx 3
            have kx4 := blk_cell hx 4
            have fx4 := blk_frozen hx 4
            have kx5 := blk_cell hx 5
            have fx5 := blk_frozen hx 5
            have kx6 := blk_cell hx 6
            have fx6 := blk_frozen hx 6
            have kx7 := blk_cell hx 7
            have fx7 := blk_frozen hx 7
            have kx8 := blk_cell hx 8
            have fx8 := blk_frozen hx 8
            have kx9 := blk_cell hx 9
            have fx9 := blk_frozen hx 9
            have kx10 := blk_cell hx 10
            have fx10 := blk_frozen hx 10
            have kx11 := blk_cell hx 11
            have fx11 := blk_frozen hx 11
            have HX := Aside0.mk hx
            have HBX := Aside0.mk hb
            clear hx hy hb
            go_wp2
            have hlay : lay #[.int .u8 0, .int .u8 0, .int .u8 0, .int .u16 0, .int .u8 0, .int .u8 0, .int .u8 0, .int .u8 0, .int .u8 0, .int .u8 0, .int .u8 0, .int .u8 0] 0 [.int .u8 0, .int .u8 0, .int .u8 0, .int .u16 0, .int .u8 0, .int .u8 0, .int .u8 0, .int .u8 0, .int .u8 0, .int .u8 0, .int .u8 0, .int .u8 0] = #[.int .u8 0, .int .u8 0, .int .u8 0, .int .u16 0, .int .u8 0, .int .u8 0, .int .u8 0, .int .u8 0, .int .u8 0, .int .u8 0, .int .u8 0, .int .u8 0] := by simp only [lay, List.setIfInBounds_toArray, List.set_cons_zero, List.set_cons_succ, Nat.reduceAdd]
            exact bodyPost_ret (results_ct rfl _ _ w.heap.size 25 #[.int .u8 0, .int .u8 0, .int .u8 0, .int .u16 0, .int .u8 0, .int .u8 0, .int .u8 0, .int .u8 0, .int .u8 0, .int .u8 0, .int .u8 0, .int .u8 0] (0, 0) _ rfl (setCells_blk' (vs := [.int .u8 0, .int .u8 0, .int .u8 0, .int .u16 0, .int .u8 0, .int .u8 0, .int .u8 0, .int .u8 0, .int .u8 0, .int .u8 0, .int .u8 0, .int .u8 0]) (o := 0) hlay HX.out) hu rfl (by kernel_rfl)) rfl ⟨rfl, below_setCells [.int .u8 0, .int .u8 0, .int .u8 0, .int .u16 0, .int .u8 0, .int .u8 0, .int .u8 0, .int .u8 0, .int .u8 0, .int .u8 0, .int .u8 0, .int .u8 0] 0 HBX.out (Nat.le_refl _)⟩
        · rw [if_neg h5] at h
          have g5 : (rd l0 7 == 0) = false := beq_eq_false_iff_ne.mpr h5
          have g5' : (rd l0 7 != 0) = true := bne_iff_ne.mpr h5
          clear h5
          simp only [Option.some.injEq, Prod.mk.injEq] at h
          obtain ⟨rfl, rfl, rfl, rfl, rfl, rfl, rfl, rfl, rfl, rfl, rfl, rfl, rfl⟩ := h
          go_enter Try.func28, Try.ntmps28
          have hb : Below w.heap.size w ((w.alloc (.cells #[.int .u8 0, .int .u8 0, .int .u8 0, .int .u16 0, .int .u8 0, .int .u8 0, .int .u8 0, .int .u8 0, .int .u8 0, .int .u8 0, .int .u8 0, .int .u8 0] 25)).alloc (.cells #[.int .u8 0, .int .u8 0, .int .u8 0, .int .u16 0, .int .u8 0, .int .u8 0, .int .u8 0, .int .u8 0, .int .u8 0, .int .u8 0, .int .u8 0, .int .u8 0] 25)) := below_alloc ((Below.refl _ _).alloc (Nat.le_refl _) _) _
          have hx : ((w.alloc (.cells #[.int .u8 0, .int .u8 0, .int .u8 0, .int .u16 0, .int .u8 0, .int .u8 0, .int .u8 0, .int .u8 0, .int .u8 0, .int .u8 0, .int .u8 0, .int .u8 0] 25)).alloc (.cells #[.int .u8 0, .int .u8 0, .int .u8 0, .int .u16 0, .int .u8 0, .int .u8 0, .int .u8 0, .int .u8 0, .int .u8 0, .int .u8 0, .int .u8 0, .int .u8 0] 25)).heap[w.heap.size]? = some (.cells #[.int .u8 0, .int .u8 0, .int .u8 0, .int .u16 0, .int .u8 0, .int .u8 0, .int .u8 0, .int .u8 0, .int .u8 0, .int .u8 0, .int .u8 0, .int .u8 0] 25 (0, 0)) := blk_alloc (blk_new _ _) _
          have hy := blk_new (w.alloc (.cells #[.int .u8 0, .int .u8 0, .int .u8 0, .int .u16 0, .int .u8 0, .int .u8 0, .int .u8 0, .int .u8 0, .int .u8 0, .int .u8 0, .int .u8 0, .int .u8 0] 25)) (.cells #[.int .u8 0, .int .u8 0, .int .u8 0, .int .u16 0, .int .u8 0, .int .u8 0, .int .u8 0, .int .u8 0, .int .u8 0, .int .u8 0, .int .u8 0, .int .u8 0] 25)
          have u0 := hb.cell (by exact HLA.out) |>.trans G0.out
          have n0 : 0 < l0.length := by have := HL.out; omega
          have d0_ : decide ((0 : Int) < (l0.length : Int)) = true := decide_eq_true (by have := HL.out; omega)
          have u6 := (hb.cell (by exact HLA.out)).trans (GS.out 6 (by decide) (by have := HL.out; omega))
          have n6 : 6 < l0.length := by have := HL.out; omega
          have d6_ : decide ((6 : Int) < (l0.length : Int)) = true := decide_eq_true (by have := HL.out; omega)
          have u7 := (hb.cell (by exact HLA.out)).trans (GS.out 7 (by decide) (by have := HL.out; omega))
          have n7 : 7 < l0.length := by have := HL.out; omega
          have d7_ : decide ((7 : Int) < (l0.length : Int)) = true := decide_eq_true (by have := HL.out; omega)
          simp only [Int.cast_ofNat_Int] at u6 u7
          have ky0 := blk_cell hy 0
          have ky1 := blk_cell hy 1
          have ky2 := blk_cell hy 2
          have ky3 := blk_cell hy 3
          have ky4 := blk_cell hy 4
          have ky5 := blk_cell hy 5
          have ky6 := blk_cell hy 6
          have ky7 := blk_cell hy 7
          have ky8 := blk_cell hy 8
          have ky9 := blk_cell hy 9
          have ky10 := blk_cell hy 10
          have ky11 := blk_cell hy 11
          have kx0 := blk_cell hx 0
          have fx0 := blk_frozen hx 0
          have kx1 := blk_cell hx 1
          have fx1 := blk_frozen hx 1
          have kx2 := blk_cell hx 2
          have fx2 := blk_frozen hx 2
          have kx3 := blk_cell hx 3
          have fx3 := blk_frozen hx 3
          have kx4 := blk_cell hx 4
          have fx4 := blk_frozen hx 4
          have kx5 := blk_cell hx 5
          have fx5 := blk_frozen hx 5
          have kx6 := blk_cell hx 6
          have fx6 := blk_frozen hx 6
          have kx7 := blk_cell hx 7
          have fx7 := blk_frozen hx 7
          have kx8 := blk_cell hx 8
          have fx8 := blk_frozen hx 8
          have kx9 := blk_cell hx 9
          have fx9 := blk_frozen hx 9
          have kx10 := blk_cell hx 10
          have fx10 := blk_frozen hx 10
          have kx11 := blk_cell hx 11
          have fx11 := blk_frozen hx 11
          go_wp2
          refine bodyPost_ret (results_ct rfl _ _ w.heap.size 25 #[.int .u8 0, .int .u8 0, .int .u8 0, .int .u16 0, .int .u8 0, .int .u8 0, .int .u8 0, .int .u8 0, .int .u8 0, .int .u8 0, .int .u8 0, .int .u8 0] (0, 0) _ rfl ?_ hu rfl (by kernel_rfl)) rfl ?_
          · exact hx
          · exact ⟨rfl, hb⟩
      · rw [if_neg h6] at h
        have g6 : (rd l0 6 == 0) = false := beq_eq_false_iff_ne.mpr h6
        have g6' : (rd l0 6 != 0) = true := bne_iff_ne.mpr h6
        clear h6
        simp only [Option.some.injEq, Prod.mk.injEq] at h
        obtain ⟨rfl, rfl, rfl, rfl, rfl, rfl, rfl, rfl, rfl, rfl, rfl, rfl, rfl⟩ := h
        go_enter Try.func28, Try.ntmps28
        have hb : Below w.heap.size w ((w.alloc (.cells #[.int .u8 0, .int .u8 0, .int .u8 0, .int .u16 0, .int .u8 0, .int .u8 0, .int .u8 0, .int .u8 0, .int .u8 0, .int .u8 0, .int .u8 0, .int .u8 0] 25)).alloc (.cells #[.int .u8 0, .int .u8 0, .int .u8 0, .int .u16 0, .int .u8 0, .int .u8 0, .int .u8 0, .int .u8 0, .int .u8 0, .int .u8 0, .int .u8 0, .int .u8 0] 25)) := below_alloc ((Below.refl _ _).alloc (Nat.le_refl _) _) _
        have hx : ((w.alloc (.cells #[.int .u8 0, .int .u8 0, .int .u8 0, .int .u16 0, .int .u8 0, .int .u8 0, .int .u8 0, .int .u8 0, .int .u8 0, .int .u8 0, .int .u8 0, .int .u8 0] 25)).alloc (.cells #[.int .u8 0, .int .u8 0, .int .u8 0, .int .u16 0, .int .u8 0, .int .u8 0, .int .u8 0, .int .u8 0, .int .u8 0, .int .u8 0, .int .u8 0, .int .u8 0] 25)).heap[w.heap.size]? = some (.cells #[.int .u8 0, .int .u8 0, .int .u8 0, .int .u16 0, .int .u8 0, .int .u8 0, .int .u8 0, .int .u8 0, .int .u8 0, .int .u8 0, .int .u8 0, .int .u8 0] 25 (0, 0)) := blk_alloc (blk_new _ _) _
        have hy := blk_new (w.alloc (.cells #[.int .u8 0, .int .u8 0, .int .u8 0, .int .u16 0, .int .u8 0, .int .u8 0, .int .u8 0, .int .u8 0, .int .u8 0, .int .u8 0, .int .u8 0, .int .u8 0] 25)) (.cells #[.int .u8 0, .int .u8 0, .int .u8 0, .int .u16 0, .int .u8 0, .int .u8 0, .int .u8 0, .int .u8 0, .int .u8 0, .int .u8 0, .int .u8 0, .int .u8 0] 25)
        have u0 := hb.cell (by exact HLA.out) |>.trans G0.out
        have n0 : 0 < l0.length := by have := HL.out; omega
        have d0_ : decide ((0 : Int) < (l0.length : Int)) = true := decide_eq_true (by have := HL.out; omega)
        have u6 := (hb.cell (by exact HLA.out)).trans (GS.out 6 (by decide) (by have := HL.out; omega))
        have n6 : 6 < l0.length := by have := HL.out; omega
        have d6_ : decide ((6 : Int) < (l0.length : Int)) = true := decide_eq_true (by have := HL.out; omega)
        simp only [Int.cast_ofNat_Int] at u6
        have ky0 := blk_cell hy 0
        have ky1 := blk_cell hy 1
        have ky2 := blk_cell hy 2
        have ky3 := blk_cell hy 3
        have ky4 := blk_cell hy 4
        have ky5 := blk_cell hy 5
        have ky6 := blk_cell hy 6
        have ky7 := blk_cell hy 7
        have ky8 := blk_cell hy 8
        have ky9 := blk_cell hy 9
        have ky10 := blk_cell hy 10
        have ky11 := blk_cell hy 11
        have kx0 := blk_cell hx 0
        have fx0 := blk_frozen hx 0
        have kx1 := blk_cell hx 1
        have fx1 := blk_frozen hx 1
        have kx2 := blk_cell hx 2
        have fx2 := blk_frozen hx 2
        have kx3 := blk_cell hx 3
        have fx3 := blk_frozen hx 3
        have kx4 := blk_cell hx 4
        have fx4 := blk_frozen hx 4
        have kx5 := blk_cell hx 5
        have fx5 := blk_frozen hx 5
        have kx6 := blk_cell hx 6
        have fx6 := blk_frozen hx 6
        have kx7 := blk_cell hx 7
        have fx7 := blk_frozen hx 7
        have kx8 := blk_cell hx 8
        have fx8 := blk_frozen hx 8
        have kx9 := blk_cell hx 9
        have fx9 := blk_frozen hx 9
        have kx10 := blk_cell hx 10
        have fx10 := blk_frozen hx 10
        have kx11 := blk_cell hx 11
        have fx11 := blk_frozen hx 11
        go_wp2
        refine bodyPost_ret (results_ct rfl _ _ w.heap.size 25 #[.int .u8 0, .int .u8 0, .int .u8 0, .int .u16 0, .int .u8 0, .int .u8 0, .int .u8 0, .int .u8 0, .int .u8 0, .int .u8 0, .int .u8 0, .int .u8 0] (0, 0) _ rfl ?_ hu rfl (by kernel_rfl)) rfl ?_
        · exact hx
        · exact ⟨rfl, hb⟩
    · rw [if_neg h7] at h
      have g7 : (rd l0 0 == 69) = false := beq_eq_false_iff_ne.mpr h7
      have g7' : (rd l0 0 != 69) = true := bne_iff_ne.mpr h7
      clear h7
      simp only [Option.some.injEq, Prod.mk.injEq] at h
      obtain ⟨rfl, rfl, rfl, rfl, rfl, rfl, rfl, rfl, rfl, rfl, rfl, rfl, rfl⟩ := h
      go_enter Try.func28, Try.ntmps28
      have hb : Below w.heap.size w ((w.alloc (.cells #[.int .u8 0, .int .u8 0, .int .u8 0, .int .u16 0, .int .u8 0, .int .u8 0, .int .u8 0, .int .u8 0, .int .u8 0, .int .u8 0, .int .u8 0, .int .u8 0] 25)).alloc (.cells #[.int .u8 0, .int .u8 0, .int .u8 0, .int .u16 0, .int .u8 0, .int .u8 0, .int .u8 0, .int .u8 0, .int .u8 0, .int .u8 0, .int .u8 0, .int .u8 0] 25)) := below_alloc ((Below.refl _ _).alloc (Nat.le_refl _) _) _
      have hx : ((w.alloc (.cells #[.int .u8 0, .int .u8 0, .int .u8 0, .int .u16 0, .int .u8 0, .int .u8 0, .int .u8 0, .int .u8 0, .int .u8 0, .int .u8 0, .int .u8 0, .int .u8 0] 25)).alloc (.cells #[.int .u8 0, .int .u8 0, .int .u8 0, .int .u16 0, .int .u8 0, .int .u8 0, .int .u8 0, .int .u8 0, .int .u8 0, .int .u8 0, .int .u8 0, .int .u8 0] 25)).heap[w.heap.size]? = some (.cells #[.int .u8 0, .int .u8 0, .int .u8 0, .int .u16 0, .int .u8 0, .int .u8 0, .int .u8 0, .int .u8 0, .int .u8 0, .int .u8 0, .int .u8 0, .int .u8 0] 25 (0, 0)) := blk_alloc (blk_new _ _) _
      have hy := blk_new (w.alloc (.cells #[.int .u8 0, .int .u8 0, .int .u8 0, .int .u16 0, .int .u8 0, .int .u8 0, .int .u8 0, .int .u8 0, .int .u8 0, .int .u8 0, .int .u8 0, .int .u8 0] 25)) (.cells #[.int .u8 0, .int .u8 0, .int .u8 0, .int .u16 0, .int .u8 0, .int .u8 0, .int .u8 0, .int .u8 0, .int .u8 0, .int .u8 0, .int .u8 0, .int .u8 0] 25)
      have u0 := hb.cell (by exact HLA.out) |>.trans G0.out
      have n0 : 0 < l0.length := by have := HL.out; omega
      have d0_ : decide ((0 : Int) < (l0.length : Int)) = true := decide_eq_true (by have := HL.out; omega)
      have ky0 := blk_cell hy 0
      have ky1 := blk_cell hy 1
      have ky2 := blk_cell hy 2
      have ky3 := blk_cell hy 3
      have ky4 := blk_cell hy 4
      have ky5 := blk_cell hy 5
      have ky6 := blk_cell hy 6
      have ky7 := blk_cell hy 7
      have ky8 := blk_cell hy 8
      have ky9 := blk_cell hy 9
      have ky10 := blk_cell hy 10
      have ky11 := blk_cell hy 11
      have kx0 := blk_cell hx 0
      have fx0 := blk_frozen hx 0
      have kx1 := blk_cell hx 1
      have fx1 := blk_frozen hx 1
      have kx2 := blk_cell hx 2
      have fx2 := blk_frozen hx 2
      have kx3 := blk_cell hx 3
      have fx3 := blk_frozen hx 3
      have kx4 := blk_cell hx 4
      have fx4 := blk_frozen hx 4
      have kx5 := blk_cell hx 5
      have fx5 := blk_frozen hx 5
      have kx6 := blk_cell hx 6
      have fx6 := blk_frozen hx 6
      have kx7 := blk_cell hx 7
      have fx7 := blk_frozen hx 7
      have kx8 := blk_cell hx 8
      have fx8 := blk_frozen hx 8
      have kx9 := blk_cell hx 9
      have fx9 := blk_frozen hx 9
      have kx10 := blk_cell hx 10
      have fx10 := blk_frozen hx 10
      have kx11 := blk_cell hx 11
      have fx11 := blk_frozen hx 11
      go_wp2
      refine bodyPost_ret (results_ct rfl _ _ w.heap.size 25 #[.int .u8 0, .int .u8 0, .int .u8 0, .int .u16 0, .int .u8 0, .int .u8 0, .int .u8 0, .int .u8 0, .int .u8 0, .int .u8 0, .int .u8 0, .int .u8 0] (0, 0) _ rfl ?_ hu rfl (by kernel_rfl)) rfl ?_
      · exact hx
      · exact ⟨rfl, hb⟩

end Go.Proofs.Ytipdajgcepefgaa.P
