/- Contracts of the functions that the statements reach, and the statements: written by a program of this repo (wip/patch_print.py); Lean checks every line; no conditions. -/
import Derived.Test.YtaklgacadjipjaaPx0
import Derived.Test.YtaklgacadjipjaaPx10
namespace Go.Proofs.Ytaklgacadjipjaa.P
open Go.RowKit Go.Proofs.YtaklgacadjipjaaW.PrintWords Go.Proofs.YtaklgacadjipjaaW.PrintLast Go.Proofs.YtaklgacadjipjaaW.PrintMore
attribute [local go_sem] max2_int min2_int max_two min_two max_three min_three max_four min_four Go.Proofs.YtaklgacadjipjaaW.Own.u16_all   -- for this text's walks alone
set_option linter.unusedVariables false
set_option linter.unusedSimpArgs false

/-! ### sallyportref05_Read: function 23 -/
def sallyportref05_Read.f (k : Nat) (l0 : List Int) : Option (Int × Int × Int × Int × Int × Int × Int × Int × Int × Int × Int × Int × Int × Int) := if (l0.length : Int) < 14 then (some (0, 0, 0, 0, 0, 0, 0, 0, 0, 0, 0, 0, 0, 6)) else ((sallyportref05_value.f k l0 12 2).bind fun t => some (rd l0 0, rd l0 1, rd l0 2, rd l0 3, rd l0 4, rd l0 5, rd l0 6, rd l0 7, rd l0 8, rd l0 9, rd l0 10, rd l0 11, IntKind.u16.wrap t, 0))
theorem sallyportref05_Read.mono : ∀ b0 k, LeO (sallyportref05_Read.f k b0) (sallyportref05_Read.f (k + 1) b0) := by
  intro b0 k
  unfold sallyportref05_Read.f
  repeat' first
    | (with_reducible exact sallyportref05_value.mono _ _ _ _)
    | (with_reducible exact LeO.refl _)
    | (with_reducible refine LeO.ite ?_ ?_)
    | (with_reducible refine LeO.bind ?_ (fun _ => ?_))
open Go.Proofs.YtaklgacadjipjaaW.Own in
set_option maxHeartbeats 4000000 in
set_option maxRecDepth 100000 in
theorem sallyportref05_Read.calls (k : Nat) (A0 : Option Addr) (c0 : Nat) (l0 : List Int) (r1 : Int) (r2 : Int) (r3 : Int) (r4 : Int) (r5 : Int) (r6 : Int) (r7 : Int) (r8 : Int) (r9 : Int) (r10 : Int) (r11 : Int) (r12 : Int) (r13 : Int) (r14 : Int) (w : World) (hr0 : Kd.C (Kd.int .u8) w A0 l0.length l0) (hc0 : l0.length ≤ c0) (h : sallyportref05_Read.f k l0 = some (r1, r2, r3, r4, r5, r6, r7, r8, r9, r10, r11, r12, r13, r14)) :
    Calls Try.prog 23 #[.slice A0 l0.length c0] w fun e w' => e = .returned (.tuple #[.agg #[.int .u8 r1, .int .u8 r2, .int .u8 r3, .int .u8 r4, .int .u8 r5, .int .u8 r6, .int .u8 r7, .int .u8 r8, .int .u8 r9, .int .u8 r10, .int .u8 r11, .int .u8 r12, .int .u16 r13], .int .i64 r14]) ∧ Below w.heap.size w w' := by
  have hu := Try.underlying25
  unfold sallyportref05_Read.f at h
  by_cases h4 : (l0.length : Int) < 14
  · rw [if_pos h4] at h
    simp only [Option.some.injEq, Prod.mk.injEq] at h
    obtain ⟨rfl, rfl, rfl, rfl, rfl, rfl, rfl, rfl, rfl, rfl, rfl, rfl, rfl, rfl⟩ := h
    have d4 : decide ((l0.length : Int) < 14) = true := decide_eq_true h4
    have d4' : decide (l0.length < 14) = true := decide_eq_true (by omega)
    clear h4 hr0 hc0
    go_enter Try.func23, Try.ntmps23
    have hb : Below w.heap.size w ((w.alloc (.cells #[.int .u8 0, .int .u8 0, .int .u8 0, .int .u8 0, .int .u8 0, .int .u8 0, .int .u8 0, .int .u8 0, .int .u8 0, .int .u8 0, .int .u8 0, .int .u8 0, .int .u16 0] 25)).alloc (.cells #[.int .u8 0, .int .u8 0, .int .u8 0, .int .u8 0, .int .u8 0, .int .u8 0, .int .u8 0, .int .u8 0, .int .u8 0, .int .u8 0, .int .u8 0, .int .u8 0, .int .u16 0] 25)) := below_alloc ((Below.refl _ _).alloc (Nat.le_refl _) _) _
    have hx : ((w.alloc (.cells #[.int .u8 0, .int .u8 0, .int .u8 0, .int .u8 0, .int .u8 0, .int .u8 0, .int .u8 0, .int .u8 0, .int .u8 0, .int .u8 0, .int .u8 0, .int .u8 0, .int .u16 0] 25)).alloc (.cells #[.int .u8 0, .int .u8 0, .int .u8 0, .int .u8 0, .int .u8 0, .int .u8 0, .int .u8 0, .int .u8 0, .int .u8 0, .int .u8 0, .int .u8 0, .int .u8 0, .int .u16 0] 25)).heap[w.heap.size]? = some (.cells #[.int .u8 0, .int .u8 0, .int .u8 0, .int .u8 0, .int .u8 0, .int .u8 0, .int .u8 0, .int .u8 0, .int .u8 0, .int .u8 0, .int .u8 0, .int .u8 0, .int .u16 0] 25 (0, 0)) := blk_alloc (blk_new _ _) _
    have hy := blk_new (w.alloc (.cells #[.int .u8 0, .int .u8 0, .int .u8 0, .int .u8 0, .int .u8 0, .int .u8 0, .int .u8 0, .int .u8 0, .int .u8 0, .int .u8 0, .int .u8 0, .int .u8 0, .int .u16 0] 25)) (.cells #[.int .u8 0, .int .u8 0, .int .u8 0, .int .u8 0, .int .u8 0, .int .u8 0, .int .u8 0, .int .u8 0, .int .u8 0, .int .u8 0, .int .u8 0, .int .u8 0, .int .u16 0] 25)
    have ky0 := blk_cell hy 0
    have ky1 := blk_cell hy 1
    have ky2 := blk_cell hy 2
    have ky3 := blk_cell hy 3
    have ky4 := blk_cell hy 4
    have ky5 := blk_cell hy 5
    have ky6 := blk_cell hy 6
    have ky7 := blk_cell hy 7
    have ky8 := blk_cell hy 8
    have ky9 := blk_cell hy 9
    have ky10 := blk_cell hy 10
    have ky11 := blk_cell hy 11
    have ky12 := blk_cell hy 12
    have kx0 := blk_cell hx 0
    have fx0 := blk_frozen hx 0
    have kx1 := blk_cell hx 1
    have fx1 := blk_frozen hx 1
    have kx2 := blk_cell hx 2
    have fx2 := blk_frozen hx 2
    have kx3 := blk_cell hx 3
    have fx3 := blk_frozen hx 3
    have kx4 := blk_cell hx 4
    have fx4 := blk_frozen hx 4
    have kx5 := blk_cell hx 5
    have fx5 := blk_frozen hx 5
    have kx6 := blk_cell hx 6
    have fx6 := blk_frozen hx 6
    have kx7 := blk_cell hx 7
    have fx7 := blk_frozen hx 7
    have kx8 := blk_cell hx 8
    have fx8 := blk_frozen hx 8
    have kx9 := blk_cell hx 9
    have fx9 := blk_frozen hx 9
    have kx10 := blk_cell hx 10
    have fx10 := blk_frozen hx 10
    have kx11 := blk_cell hx 11
    have fx11 := blk_frozen hx 11
    have kx12 := blk_cell hx 12
    have fx12 := blk_frozen hx 12
    go_wp2
    refine bodyPost_ret (results_ct rfl _ _ w.heap.size 25 #[.int .u8 0, .int .u8 0, .int .u8 0, .int .u8 0, .int .u8 0, .int .u8 0, .int .u8 0, .int .u8 0, .int .u8 0, .int .u8 0, .int .u8 0, .int .u8 0, .int .u16 0] (0, 0) _ rfl ?_ hu rfl (by kernel_rfl)) rfl ?_
    · exact hx
    · exact ⟨rfl, hb⟩
  · rw [if_neg h4] at h
    obtain ⟨t1, e1, h⟩ := Option.bind_eq_some_iff.mp h
    simp only [Option.some.injEq, Prod.mk.injEq] at h
    obtain ⟨rfl, rfl, rfl, rfl, rfl, rfl, rfl, rfl, rfl, rfl, rfl, rfl, rfl, rfl⟩ := h
    have d4 : decide ((l0.length : Int) < 14) = false := decide_eq_false h4
    have d4' : decide (l0.length < 14) = false := decide_eq_false (by omega)
    have hlen : 14 ≤ l0.length := by omega
    have E1 := Aside0.mk e1
    clear h4 e1
    go_enter Try.func23, Try.ntmps23
    go_wp2
    have hb : Below w.heap.size w ((w.alloc (.cells #[.int .u8 0, .int .u8 0, .int .u8 0, .int .u8 0, .int .u8 0, .int .u8 0, .int .u8 0, .int .u8 0, .int .u8 0, .int .u8 0, .int .u8 0, .int .u8 0, .int .u16 0] 25)).alloc (.cells #[.int .u8 0, .int .u8 0, .int .u8 0, .int .u8 0, .int .u8 0, .int .u8 0, .int .u8 0, .int .u8 0, .int .u8 0, .int .u8 0, .int .u8 0, .int .u8 0, .int .u16 0] 25)) := below_alloc ((Below.refl _ _).alloc (Nat.le_refl _) _) _
    have hx1 : ((w.alloc (.cells #[.int .u8 0, .int .u8 0, .int .u8 0, .int .u8 0, .int .u8 0, .int .u8 0, .int .u8 0, .int .u8 0, .int .u8 0, .int .u8 0, .int .u8 0, .int .u8 0, .int .u16 0] 25)).alloc (.cells #[.int .u8 0, .int .u8 0, .int .u8 0, .int .u8 0, .int .u8 0, .int .u8 0, .int .u8 0, .int .u8 0, .int .u8 0, .int .u8 0, .int .u8 0, .int .u8 0, .int .u16 0] 25)).heap[w.heap.size]? = some (.cells #[.int .u8 0, .int .u8 0, .int .u8 0, .int .u8 0, .int .u8 0, .int .u8 0, .int .u8 0, .int .u8 0, .int .u8 0, .int .u8 0, .int .u8 0, .int .u8 0, .int .u16 0] 25 (0, 0)) := blk_alloc (blk_new _ _) _
    have hgs : w.heap.size + 1 + 1 = ((w.alloc (.cells #[.int .u8 0, .int .u8 0, .int .u8 0, .int .u8 0, .int .u8 0, .int .u8 0, .int .u8 0, .int .u8 0, .int .u8 0, .int .u8 0, .int .u8 0, .int .u8 0, .int .u16 0] 25)).alloc (.cells #[.int .u8 0, .int .u8 0, .int .u8 0, .int .u8 0, .int .u8 0, .int .u8 0, .int .u8 0, .int .u8 0, .int .u8 0, .int .u8 0, .int .u8 0, .int .u8 0, .int .u16 0] 25)).heap.size := by simp
    generalize (w.alloc (.cells #[.int .u8 0, .int .u8 0, .int .u8 0, .int .u8 0, .int .u8 0, .int .u8 0, .int .u8 0, .int .u8 0, .int .u8 0, .int .u8 0, .int .u8 0, .int .u8 0, .int .u16 0] 25)).alloc (.cells #[.int .u8 0, .int .u8 0, .int .u8 0, .int .u8 0, .int .u8 0, .int .u8 0, .int .u8 0, .int .u8 0, .int .u8 0, .int .u8 0, .int .u8 0, .int .u8 0, .int .u16 0] 25) = w1 at hb hx1 hgs ⊢
    rw [hgs]
    have hr1 := Kd.C_below hr0 hb
    have hbW : Below w1.heap.size w1 (w1.alloc (.cells #[.int .u8 0, .int .u8 0, .int .u8 0, .int .u8 0, .int .u8 0, .int .u8 0, .int .u8 0, .int .u8 0, .int .u8 0, .int .u8 0, .int .u8 0, .int .u8 0, .int .u16 0] 25)) := (Below.refl _ _).alloc (Nat.le_refl _) _
    have hz := blk_new w1 (.cells #[.int .u8 0, .int .u8 0, .int .u8 0, .int .u8 0, .int .u8 0, .int .u8 0, .int .u8 0, .int .u8 0, .int .u8 0, .int .u8 0, .int .u8 0, .int .u8 0, .int .u16 0] 25)
    generalize w1.alloc (.cells #[.int .u8 0, .int .u8 0, .int .u8 0, .int .u8 0, .int .u8 0, .int .u8 0, .int .u8 0, .int .u8 0, .int .u8 0, .int .u8 0, .int .u8 0, .int .u8 0, .int .u16 0] 25) = W0 at hbW hz ⊢
    have HR1 := Aside0.mk hr1
    have HGS := Aside0.mk hgs
    have HB := Aside0.mk hb
    have HX1 := Aside0.mk hx1
    obtain ⟨ad, rfl, g0, gS⟩ := whole_of hr1 (by omega)
    have G0 := Aside0.mk g0
    have GS := Aside0.mk gS
    have HLT := Aside0.mk (World.block_lt_of_cell? w1 _ g0)
    have HL := Aside0.mk hlen
    have HC0 := Aside0.mk hc0
    clear g0 gS hb hr0 hr1 hx1 hgs hlen h hc0
    refine wp_loop_rounds 7 ?_
    rw [rounds_succ]
    have hz1 : (W0.setCell ⟨w1.heap.size, 0, none⟩ (.int .u8 (rd l0 0))).heap[w1.heap.size]? = some (.cells #[.int .u8 (rd l0 0), .int .u8 0, .int .u8 0, .int .u8 0, .int .u8 0, .int .u8 0, .int .u8 0, .int .u8 0, .int .u8 0, .int .u8 0, .int .u8 0, .int .u8 0, .int .u16 0] 25 (0, 0)) := blk_set hz 0 _
    have hb1 : Below w1.heap.size w1 (W0.setCell ⟨w1.heap.size, 0, none⟩ (.int .u8 (rd l0 0))) := below_set hbW (Nat.le_refl _)
    have hz2 : ((W0.setCell ⟨w1.heap.size, 0, none⟩ (.int .u8 (rd l0 0))).setCell ⟨w1.heap.size, 6, none⟩ (.int .u8 (rd l0 6))).heap[w1.heap.size]? = some (.cells #[.int .u8 (rd l0 0), .int .u8 0, .int .u8 0, .int .u8 0, .int .u8 0, .int .u8 0, .int .u8 (rd l0 6), .int .u8 0, .int .u8 0, .int .u8 0, .int .u8 0, .int .u8 0, .int .u16 0] 25 (0, 0)) := blk_set hz1 6 _
    have hb2 : Below w1.heap.size w1 ((W0.setCell ⟨w1.heap.size, 0, none⟩ (.int .u8 (rd l0 0))).setCell ⟨w1.heap.size, 6, none⟩ (.int .u8 (rd l0 6))) := below_set hb1 (Nat.le_refl _)
    have p1 := (hbW.cell (by exact HLT.out)).trans G0.out
    have p2 := (hb1.cell (by exact HLT.out)).trans (GS.out 6 (by decide) (by have := HL.out; omega))
    have k1 := blk_cell hz 0
    have f1 := blk_frozen hz 0
    have k2 := blk_cell hz1 6
    have f2 := blk_frozen hz1 6
    simp only [Int.cast_ofNat_Int] at p1 p2
    have d1 : decide ((0 : Int) < (l0.length : Int)) = true := decide_eq_true (by have := HL.out; omega)
    have d2 : decide ((6 : Int) < (l0.length : Int)) = true := decide_eq_true (by have := HL.out; omega)
    have n1 : 0 < l0.length := by have := HL.out; omega
    have n2 : 6 < l0.length := by have := HL.out; omega
    have HZ := Aside0.mk hz2
    have HBW := Aside0.mk hb2
    clear hz hbW hz1 hb1 hz2 hb2
    go_wp2
    clear p1 p2 k1 f1 k2 f2 d1 d2 n1 n2
    have hz := HZ.out
    have hbW := HBW.out
    clear HZ HBW
    generalize ((W0.setCell ⟨w1.heap.size, 0, none⟩ (.int .u8 (rd l0 0))).setCell ⟨w1.heap.size, 6, none⟩ (.int .u8 (rd l0 6))) = W1 at hz hbW ⊢
    rw [rounds_succ]
    have hz1 : (W1.setCell ⟨w1.heap.size, 1, none⟩ (.int .u8 (rd l0 1))).heap[w1.heap.size]? = some (.cells #[.int .u8 (rd l0 0), .int .u8 (rd l0 1), .int .u8 0, .int .u8 0, .int .u8 0, .int .u8 0, .int .u8 (rd l0 6), .int .u8 0, .int .u8 0, .int .u8 0, .int .u8 0, .int .u8 0, .int .u16 0] 25 (0, 0)) := blk_set hz 1 _
    have hb1 : Below w1.heap.size w1 (W1.setCell ⟨w1.heap.size, 1, none⟩ (.int .u8 (rd l0 1))) := below_set hbW (Nat.le_refl _)
    have hz2 : ((W1.setCell ⟨w1.heap.size, 1, none⟩ (.int .u8 (rd l0 1))).setCell ⟨w1.heap.size, 7, none⟩ (.int .u8 (rd l0 7))).heap[w1.heap.size]? = some (.cells #[.int .u8 (rd l0 0), .int .u8 (rd l0 1), .int .u8 0, .int .u8 0, .int .u8 0, .int .u8 0, .int .u8 (rd l0 6), .int .u8 (rd l0 7), .int .u8 0, .int .u8 0, .int .u8 0, .int .u8 0, .int .u16 0] 25 (0, 0)) := blk_set hz1 7 _
    have hb2 : Below w1.heap.size w1 ((W1.setCell ⟨w1.heap.size, 1, none⟩ (.int .u8 (rd l0 1))).setCell ⟨w1.heap.size, 7, none⟩ (.int .u8 (rd l0 7))) := below_set hb1 (Nat.le_refl _)
    have p1 := (hbW.cell (by exact HLT.out)).trans (GS.out 1 (by decide) (by have := HL.out; omega))
    have p2 := (hb1.cell (by exact HLT.out)).trans (GS.out 7 (by decide) (by have := HL.out; omega))
    have k1 := blk_cell hz 1
    have f1 := blk_frozen hz 1
    have k2 := blk_cell hz1 7
    have f2 := blk_frozen hz1 7
    simp only [Int.cast_ofNat_Int] at p1 p2
    have d1 : decide ((1 : Int) < (l0.length : Int)) = true := decide_eq_true (by have := HL.out; omega)
    have d2 : decide ((7 : Int) < (l0.length : Int)) = true := decide_eq_true (by have := HL.out; omega)
    have n1 : 1 < l0.length := by have := HL.out; omega
    have n2 : 7 < l0.length := by have := HL.out; omega
    have HZ := Aside0.mk hz2
    have HBW := Aside0.mk hb2
    clear hz hbW hz1 hb1 hz2 hb2
    go_wp2
    clear p1 p2 k1 f1 k2 f2 d1 d2 n1 n2
    have hz := HZ.out
    have hbW := HBW.out
    clear HZ HBW
    generalize ((W1.setCell ⟨w1.heap.size, 1, none⟩ (.int .u8 (rd l0 1))).setCell ⟨w1.heap.size, 7, none⟩ (.int .u8 (rd l0 7))) = W2 at hz hbW ⊢
    rw [rounds_succ]
    have hz1 : (W2.setCell ⟨w1.heap.size, 2, none⟩ (.int .u8 (rd l0 2))).heap[w1.heap.size]? = some (.cells #[.int .u8 (rd l0 0), .int .u8 (rd l0 1), .int .u8 (rd l0 2), .int .u8 0, .int .u8 0, .int .u8 0, .int .u8 (rd l0 6), .int .u8 (rd l0 7), .int .u8 0, .int .u8 0, .int .u8 0, .int .u8 0, .int .u16 0] 25 (0, 0)) := blk_set hz 2 _
    have hb1 : Below w1.heap.size w1 (W2.setCell ⟨w1.heap.size, 2, none⟩ (.int .u8 (rd l0 2))) := below_set hbW (Nat.le_refl _)
    have hz2 : ((W2.setCell ⟨w1.heap.size, 2, none⟩ (.int .u8 (rd l0 2))).setCell ⟨w1.heap.size, 8, none⟩ (.int .u8 (rd l0 8))).heap[w1.heap.size]? = some (.cells #[.int .u8 (rd l0 0), .int .u8 (rd l0 1), .int .u8 (rd l0 2), .int .u8 0, .int .u8 0, .int .u8 0, .int .u8 (rd l0 6), .int .u8 (rd l0 7), .int .u8 (rd l0 8), .int .u8 0, .int .u8 0, .int .u8 0, .int .u16 0] 25 (0, 0)) := blk_set hz1 8 _
    have hb2 : Below w1.heap.size w1 ((W2.setCell ⟨w1.heap.size, 2, none⟩ (.int .u8 (rd l0 2))).setCell ⟨w1.heap.size, 8, none⟩ (.int .u8 (rd l0 8))) := below_set hb1 (Nat.le_refl _)
    have p1 := (hbW.cell (by exact HLT.out)).trans (GS.out 2 (by decide) (by have := HL.out; omega))
    have p2 := (hb1.cell (by exact HLT.out)).trans (GS.out 8 (by decide) (by have := HL.out; omega))
    have k1 := blk_cell hz 2
    have f1 := blk_frozen hz 2
    have k2 := blk_cell hz1 8
    have f2 := blk_frozen hz1 8
    simp only [Int.cast_ofNat_Int] at p1 p2
    have d1 : decide ((2 : Int) < (l0.length : Int)) = true := decide_eq_true (by have := HL.out; omega)
    have d2 : decide ((8 : Int) < (l0.length : Int)) = true := decide_eq_true (by have := HL.out; omega)
    have n1 : 2 < l0.length := by have := HL.out; omega
    have n2 : 8 < l0.length := by have := HL.out; omega
    have HZ := Aside0.mk hz2
    have HBW := Aside0.mk hb2
    clear hz hbW hz1 hb1 hz2 hb2
    go_wp2
    clear p1 p2 k1 f1 k2 f2 d1 d2 n1 n2
    have hz := HZ.out
    have hbW := HBW.out
    clear HZ HBW
    generalize ((W2.setCell ⟨w1.heap.size, 2, none⟩ (.int .u8 (rd l0 2))).setCell ⟨w1.heap.size, 8, none⟩ (.int .u8 (rd l0 8))) = W3 at hz hbW ⊢
    rw [rounds_succ]
    have hz1 : (W3.setCell ⟨w1.heap.size, 3, none⟩ (.int .u8 (rd l0 3))).heap[w1.heap.size]? = some (.cells #[.int .u8 (rd l0 0), .int .u8 (rd l0 1), .int .u8 (rd l0 2), .int .u8 (rd l0 3), .int .u8 0, .int .u8 0, .int .u8 (rd l0 6), .int .u8 (rd l0 7), .int .u8 (rd l0 8), .int .u8 0, .int .u8 0, .int .u8 0, .int .u16 0] 25 (0, 0)) := blk_set hz 3 _
    have hb1 : Below w1.heap.size w1 (W3.setCell ⟨w1.heap.size, 3, none⟩ (.int .u8 (rd l0 3))) := below_set hbW (Nat.le_refl _)
    have hz2 : ((W3.setCell ⟨w1.heap.size, 3, none⟩ (.int .u8 (rd l0 3))).setCell ⟨w1.heap.size, 9, none⟩ (.int .u8 (rd l0 9))).heap[w1.heap.size]? = some (.cells #[.int .u8 (rd l0 0), .int .u8 (rd l0 1), .int .u8 (rd l0 2), .int .u8 (rd l0 3), .int .u8 0, .int .u8 0, .int .u8 (rd l0 6), .int .u8 (rd l0 7), .int .u8 (rd l0 8), .int .u8 (rd l0 9), .int .u8 0, .int .u8 0, .int .u16 0] 25 (0, 0)) := blk_set hz1 9 _
    have hb2 : Below w1.heap.size w1 ((W3.setCell ⟨w1.heap.size, 3, none⟩ (.int .u8 (rd l0 3))).setCell ⟨w1.heap.size, 9, none⟩ (.int .u8 (rd l0 9))) := below_set hb1 (Nat.le_refl _)
    have p1 := (hbW.cell (by exact HLT.out)).trans (GS.out 3 (by decide) (by have := HL.out; omega))
    have p2 := (hb1.cell (by exact HLT.out)).trans (GS.out 9 (by decide) (by have := HL.out; omega))
    have k1 := blk_cell hz 3
    have f1 := blk_frozen hz 3
    have k2 := blk_cell hz1 9
    have f2 := blk_frozen hz1 9
    simp only [Int.cast_ofNat_Int] at p1 p2
    have d1 : decide ((3 : Int) < (l0.length : Int)) = true := decide_eq_true (by have := HL.out; omega)
    have d2 : decide ((9 : Int) < (l0.length : Int)) = true := decide_eq_true (by have := HL.out; omega)
    have n1 : 3 < l0.length := by have := HL.out; omega
    have n2 : 9 < l0.length := by have := HL.out; omega
    have HZ := Aside0.mk hz2
    have HBW := Aside0.mk hb2
    clear hz hbW hz1 hb1 hz2 hb2
    go_wp2
    clear p1 p2 k1 f1 k2 f2 d1 d2 n1 n2
    have hz := HZ.out
    have hbW := HBW.out
    clear HZ HBW
    generalize ((W3.setCell ⟨w1.heap.size, 3, none⟩ (.int .u8 (rd l0 3))).setCell ⟨w1.heap.size, 9, none⟩ (.int .u8 (rd l0 9))) = W4 at hz hbW ⊢
    rw [rounds_succ]
    have hz1 : (W4.setCell ⟨w1.heap.size, 4, none⟩ (.int .u8 (rd l0 4))).heap[w1.heap.size]? = some (.cells #[.int .u8 (rd l0 0), .int .u8 (rd l0 1), .int .u8 (rd l0 2), .int .u8 (rd l0 3), .int .u8 (rd l0 4), .int .u8 0, .int .u8 (rd l0 6), .int .u8 (rd l0 7), .int .u8 (rd l0 8), .int .u8 (rd l0 9), .int .u8 0, .int .u8 0, .int .u16 0] 25 (0, 0)) := blk_set hz 4 _
    have hb1 : Below w1.heap.size w1 (W4.setCell ⟨w1.heap.size, 4, none⟩ (.int .u8 (rd l0 4))) := below_set hbW (Nat.le_refl _)
    have hz2 : ((W4.setCell ⟨w1.heap.size, 4, none⟩ (.int .u8 (rd l0 4))).setCell ⟨w1.heap.size, 10, none⟩ (.int .u8 (rd l0 10))).heap[w1.heap.size]? = some (.cells #[.int .u8 (rd l0 0), .int .u8 (rd l0 1), .int .u8 (rd l0 2), .int .u8 (rd l0 3), .int .u8 (rd l0 4), .int .u8 0, .int .u8 (rd l0 6), .int .u8 (rd l0 7), .int .u8 (rd l0 8), .int .u8 (rd l0 9), .int .u8 (rd l0 10), .int .u8 0, .int .u16 0] 25 (0, 0)) := blk_set hz1 10 _
    have hb2 : Below w1.heap.size w1 ((W4.setCell ⟨w1.heap.size, 4, none⟩ (.int .u8 (rd l0 4))).setCell ⟨w1.heap.size, 10, none⟩ (.int .u8 (rd l0 10))) := below_set hb1 (Nat.le_refl _)
    have p1 := (hbW.cell (by exact HLT.out)).trans (GS.out 4 (by decide) (by have := HL.out; omega))
    have p2 := (hb1.cell (by exact HLT.out)).trans (GS.out 10 (by decide) (by have := HL.out; omega))
    have k1 := blk_cell hz 4
    have f1 := blk_frozen hz 4
    have k2 := blk_cell hz1 10
    have f2 := blk_frozen hz1 10
    simp only [Int.cast_ofNat_Int] at p1 p2
    have d1 : decide ((4 : Int) < (l0.length : Int)) = true := decide_eq_true (by have := HL.out; omega)
    have d2 : decide ((10 : Int) < (l0.length : Int)) = true := decide_eq_true (by have := HL.out; omega)
    have n1 : 4 < l0.length := by have := HL.out; omega
    have n2 : 10 < l0.length := by have := HL.out; omega
    have HZ := Aside0.mk hz2
    have HBW := Aside0.mk hb2
    clear hz hbW hz1 hb1 hz2 hb2
    go_wp2
    clear p1 p2 k1 f1 k2 f2 d1 d2 n1 n2
    have hz := HZ.out
    have hbW := HBW.out
    clear HZ HBW
    generalize ((W4.setCell ⟨w1.heap.size, 4, none⟩ (.int .u8 (rd l0 4))).setCell ⟨w1.heap.size, 10, none⟩ (.int .u8 (rd l0 10))) = W5 at hz hbW ⊢
    rw [rounds_succ]
    have hz1 : (W5.setCell ⟨w1.heap.size, 5, none⟩ (.int .u8 (rd l0 5))).heap[w1.heap.size]? = some (.cells #[.int .u8 (rd l0 0), .int .u8 (rd l0 1), .int .u8 (rd l0 2), .int .u8 (rd l0 3), .int .u8 (rd l0 4), .int .u8 (rd l0 5), .int .u8 (rd l0 6), .int .u8 (rd l0 7), .int .u8 (rd l0 8), .int .u8 (rd l0 9), .int .u8 (rd l0 10), .int .u8 0, .int .u16 0] 25 (0, 0)) := blk_set hz 5 _
    have hb1 : Below w1.heap.size w1 (W5.setCell ⟨w1.heap.size, 5, none⟩ (.int .u8 (rd l0 5))) := below_set hbW (Nat.le_refl _)
    have hz2 : ((W5.setCell ⟨w1.heap.size, 5, none⟩ (.int .u8 (rd l0 5))).setCell ⟨w1.heap.size, 11, none⟩ (.int .u8 (rd l0 11))).heap[w1.heap.size]? = some (.cells #[.int .u8 (rd l0 0), .int .u8 (rd l0 1), .int .u8 (rd l0 2), .int .u8 (rd l0 3), .int .u8 (rd l0 4), .int .u8 (rd l0 5), .int .u8 (rd l0 6), .int .u8 (rd l0 7), .int .u8 (rd l0 8), .int .u8 (rd l0 9), .int .u8 (rd l0 10), .int .u8 (rd l0 11), .int .u16 0] 25 (0, 0)) := blk_set hz1 11 _
    have hb2 : Below w1.heap.size w1 ((W5.setCell ⟨w1.heap.size, 5, none⟩ (.int .u8 (rd l0 5))).setCell ⟨w1.heap.size, 11, none⟩ (.int .u8 (rd l0 11))) := below_set hb1 (Nat.le_refl _)
    have p1 := (hbW.cell (by exact HLT.out)).trans (GS.out 5 (by decide) (by have := HL.out; omega))
    have p2 := (hb1.cell (by exact HLT.out)).trans (GS.out 11 (by decide) (by have := HL.out; omega))
    have k1 := blk_cell hz 5
    have f1 := blk_frozen hz 5
    have k2 := blk_cell hz1 11
    have f2 := blk_frozen hz1 11
    simp only [Int.cast_ofNat_Int] at p1 p2
    have d1 : decide ((5 : Int) < (l0.length : Int)) = true := decide_eq_true (by have := HL.out; omega)
    have d2 : decide ((11 : Int) < (l0.length : Int)) = true := decide_eq_true (by have := HL.out; omega)
    have n1 : 5 < l0.length := by have := HL.out; omega
    have n2 : 11 < l0.length := by have := HL.out; omega
    have HZ := Aside0.mk hz2
    have HBW := Aside0.mk hb2
    clear hz hbW hz1 hb1 hz2 hb2
    go_wp2
    clear p1 p2 k1 f1 k2 f2 d1 d2 n1 n2
    have hz := HZ.out
    have hbW := HBW.out
    clear HZ HBW
    generalize ((W5.setCell ⟨w1.heap.size, 5, none⟩ (.int .u8 (rd l0 5))).setCell ⟨w1.heap.size, 11, none⟩ (.int .u8 (rd l0 11))) = W6 at hz hbW ⊢
    rw [rounds_succ]
    have HZ := Aside0.mk hz
    have HBW := Aside0.mk hbW
    clear hz hbW
    go_wp2_with fail
    refine (sallyportref05_value.calls k (some ad) c0 l0 12 2 t1 _ (Kd.C_below HR1.out HBW.out) HC0.out E1.out).mono ?_
    rintro e_ w_ ⟨rfl, ⟨nd, rfl⟩⟩
    have hz := blk_drewN HZ.out nd
    have hbW := pw_below_drewN HBW.out nd
    clear HZ HBW
    generalize W6.drewN nd = W7 at hz hbW ⊢
    have hx : W7.heap[w.heap.size]? = some (.cells #[.int .u8 0, .int .u8 0, .int .u8 0, .int .u8 0, .int .u8 0, .int .u8 0, .int .u8 0, .int .u8 0, .int .u8 0, .int .u8 0, .int .u8 0, .int .u8 0, .int .u16 0] 25 (0, 0)) := blk_below HX1.out hbW
    have hk := blk_cell hz 12
    have hf := blk_frozen hz 12
    have hz1 : (W7.setCell ⟨w1.heap.size, 12, none⟩ (.int .u16 (IntKind.u16.wrap t1))).heap[w1.heap.size]? = some (.cells #[.int .u8 (rd l0 0), .int .u8 (rd l0 1), .int .u8 (rd l0 2), .int .u8 (rd l0 3), .int .u8 (rd l0 4), .int .u8 (rd l0 5), .int .u8 (rd l0 6), .int .u8 (rd l0 7), .int .u8 (rd l0 8), .int .u8 (rd l0 9), .int .u8 (rd l0 10), .int .u8 (rd l0 11), .int .u16 (IntKind.u16.wrap t1)] 25 (0, 0)) := blk_set hz 12 _
    have hb1 : Below w1.heap.size w1 (W7.setCell ⟨w1.heap.size, 12, none⟩ (.int .u16 (IntKind.u16.wrap t1))) := below_set hbW (Nat.le_refl _)
    have hx1 : (W7.setCell ⟨w1.heap.size, 12, none⟩ (.int .u16 (IntKind.u16.wrap t1))).heap[w.heap.size]? = some (.cells #[.int .u8 0, .int .u8 0, .int .u8 0, .int .u8 0, .int .u8 0, .int .u8 0, .int .u8 0, .int .u8 0, .int .u8 0, .int .u8 0, .int .u8 0, .int .u8 0, .int .u16 0] 25 (0, 0)) := blk_below HX1.out hb1
    have k0 := blk_cell hz1 0
    have m0 := blk_cell hx1 0
    have f0 := blk_frozen hx1 0
    have k1 := blk_cell hz1 1
    have m1 := blk_cell hx1 1
    have f1 := blk_frozen hx1 1
    have k2 := blk_cell hz1 2
    have m2 := blk_cell hx1 2
    have f2 := blk_frozen hx1 2
    have k3 := blk_cell hz1 3
    have m3 := blk_cell hx1 3
    have f3 := blk_frozen hx1 3
    have k4 := blk_cell hz1 4
    have m4 := blk_cell hx1 4
    have f4 := blk_frozen hx1 4
    have k5 := blk_cell hz1 5
    have m5 := blk_cell hx1 5
    have f5 := blk_frozen hx1 5
    have k6 := blk_cell hz1 6
    have m6 := blk_cell hx1 6
    have f6 := blk_frozen hx1 6
    have k7 := blk_cell hz1 7
    have m7 := blk_cell hx1 7
    have f7 := blk_frozen hx1 7
    have k8 := blk_cell hz1 8
    have m8 := blk_cell hx1 8
    have f8 := blk_frozen hx1 8
    have k9 := blk_cell hz1 9
    have m9 := blk_cell hx1 9
    have f9 := blk_frozen hx1 9
    have k10 := blk_cell hz1 10
    have m10 := blk_cell hx1 10
    have f10 := blk_frozen hx1 10
    have k11 := blk_cell hz1 11
    have m11 := blk_cell hx1 11
    have f11 := blk_frozen hx1 11
    have k12 := blk_cell hz1 12
    have m12 := blk_cell hx1 12
    have f12 := blk_frozen hx1 12
    have hbw := below_step HB.out hb1
    have HX := Aside0.mk hx1
    have HBW := Aside0.mk hbw
    clear hz hx hz1 hb1 hx1 hbW hbw
    go_wp2
    have hlay : lay #[.int .u8 0, .int .u8 0, .int .u8 0, .int .u8 0, .int .u8 0, .int .u8 0, .int .u8 0, .int .u8 0, .int .u8 0, .int .u8 0, .int .u8 0, .int .u8 0, .int .u16 0] 0 [.int .u8 (rd l0 0), .int .u8 (rd l0 1), .int .u8 (rd l0 2), .int .u8 (rd l0 3), .int .u8 (rd l0 4), .int .u8 (rd l0 5), .int .u8 (rd l0 6), .int .u8 (rd l0 7), .int .u8 (rd l0 8), .int .u8 (rd l0 9), .int .u8 (rd l0 10), .int .u8 (rd l0 11), .int .u16 (IntKind.u16.wrap t1)] = #[.int .u8 (rd l0 0), .int .u8 (rd l0 1), .int .u8 (rd l0 2), .int .u8 (rd l0 3), .int .u8 (rd l0 4), .int .u8 (rd l0 5), .int .u8 (rd l0 6), .int .u8 (rd l0 7), .int .u8 (rd l0 8), .int .u8 (rd l0 9), .int .u8 (rd l0 10), .int .u8 (rd l0 11), .int .u16 (IntKind.u16.wrap t1)] := by simp only [lay, List.setIfInBounds_toArray, List.set_cons_zero, List.set_cons_succ, Nat.reduceAdd]
    refine bodyPost_ret (results_ct rfl _ _ w.heap.size 25 #[.int .u8 (rd l0 0), .int .u8 (rd l0 1), .int .u8 (rd l0 2), .int .u8 (rd l0 3), .int .u8 (rd l0 4), .int .u8 (rd l0 5), .int .u8 (rd l0 6), .int .u8 (rd l0 7), .int .u8 (rd l0 8), .int .u8 (rd l0 9), .int .u8 (rd l0 10), .int .u8 (rd l0 11), .int .u16 (IntKind.u16.wrap t1)] (0, 0) _ rfl (setCells_blk' (vs := [.int .u8 (rd l0 0), .int .u8 (rd l0 1), .int .u8 (rd l0 2), .int .u8 (rd l0 3), .int .u8 (rd l0 4), .int .u8 (rd l0 5), .int .u8 (rd l0 6), .int .u8 (rd l0 7), .int .u8 (rd l0 8), .int .u8 (rd l0 9), .int .u8 (rd l0 10), .int .u8 (rd l0 11), .int .u16 (IntKind.u16.wrap t1)]) (o := 0) hlay HX.out) hu rfl (by kernel_rfl)) rfl ?_
    exact ⟨rfl, below_setCells [.int .u8 (rd l0 0), .int .u8 (rd l0 1), .int .u8 (rd l0 2), .int .u8 (rd l0 3), .int .u8 (rd l0 4), .int .u8 (rd l0 5), .int .u8 (rd l0 6), .int .u8 (rd l0 7), .int .u8 (rd l0 8), .int .u8 (rd l0 9), .int .u8 (rd l0 10), .int .u8 (rd l0 11), .int .u16 (IntKind.u16.wrap t1)] 0 HBW.out (Nat.le_refl _)⟩

end Go.Proofs.Ytaklgacadjipjaa.P
