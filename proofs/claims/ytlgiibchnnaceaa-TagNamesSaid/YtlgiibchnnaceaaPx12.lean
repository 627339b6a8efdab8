/- Contracts of the functions that the statements reach, and the statements: written by a program of this repo (wip/patch_print.py); Lean checks every line; no conditions. -/
import Derived.Test.YtlgiibchnnaceaaPx0
namespace Go.Proofs.Ytlgiibchnnaceaa.P
open Go.RowKit Go.Proofs.YtlgiibchnnaceaaW.PrintWords Go.Proofs.YtlgiibchnnaceaaW.PrintLast Go.Proofs.YtlgiibchnnaceaaW.PrintMore
attribute [local go_sem] max2_int min2_int max_two min_two max_three min_three max_four min_four Go.Proofs.YtlgiibchnnaceaaW.Own.u16_all   -- for this text's walks alone
set_option linter.unusedVariables false
set_option linter.unusedSimpArgs false

/-! ### tag_Check: function 36 -/
def tag_Check.f (a0_0 : Int) (a0_1 : Int) (a0_2 : Int) : Option (Int) := if a0_0 > 7 then (some 60) else (if a0_1 > 4095 then (some 60) else (some 0))
set_option maxHeartbeats 8000000 in
set_option maxRecDepth 100000 in
theorem tag_Check.calls (a0_0 : Int) (a0_1 : Int) (a0_2 : Int) (r : Int) (w : World) (h : tag_Check.f a0_0 a0_1 a0_2 = some r) :
    Calls Try.prog 36 #[.agg #[.int .u8 a0_0, .int .u16 a0_1, .int .u16 a0_2]] w fun e w' => e = .returned (.int .i64 r) ∧ Below w.heap.size w w' := by
  have hu42 := Try.underlying42
  have HB := Aside0.mk (Below.refl w.heap.size w)
  have H : (if a0_0 > 7 then (some 60) else (if a0_1 > 4095 then (some 60) else (some 0))) = some r := h
  clear h
  by_cases c2 : a0_0 > 7
  · rw [if_pos c2] at H
    have c2b0 : decide (7 < a0_0) = true := decide_eq_true c2
    clear c2
    obtain rfl := Option.some.inj H
    go_enter Try.func36, Try.ntmps36
    go_wp2_with (first | ((with_reducible refine gate_dst (N := 1) rfl ?_); refine box_event ?hg (N := 1) ?hd (cs := #[.int .u8 a0_0, .int .u16 a0_1, .int .u16 a0_2]) (t := 42) ?hr ?_; (case hd => rfl); (case hg => rfl); (case hr => first | (go_simp; done) | (go_simp; rfl)); intro gb296 hg w3 hbox hb; have n0_ := Aside0.mk (below_step (by repeat (first | (with_reducible first | exact HB.out | apply below_alloc | apply pw_below_drewN | apply below_drew1) | exact HB.out)) hb); have n1_ := Aside0.mk (hbox); have n2_ := Aside0.mk ((by rw [hg]; exact (below_size (by repeat (first | (with_reducible first | exact HB.out | apply below_alloc | apply pw_below_drewN | apply below_drew1) | exact HB.out))) : w.heap.size ≤ gb296)); have n3_ := Aside0.mk ((by rw [hg]; exact (below_size (by repeat (first | (with_reducible first | exact HB.out | apply below_alloc | apply pw_below_drewN | apply below_drew1) | exact HB.out))) : w.heap.size ≤ gb296)); clear HB; have HB := n0_; have BK296 := n1_; have GW296 := n2_; have GE296 := n3_; clear n0_ n1_ n2_ n3_; clear hb hbox hg; have hcz4_0 : w3.cell? ⟨gb296, 0, none⟩ = some (.int .u8 a0_0) := (blk_cell BK296.out 0).trans rfl; have hcz4_1 : w3.cell? ⟨gb296, 1, none⟩ = some (.int .u16 a0_1) := (blk_cell BK296.out 1).trans rfl; have hcz4_2 : w3.cell? ⟨gb296, 2, none⟩ = some (.int .u16 a0_2) := (blk_cell BK296.out 2).trans rfl; have hfz4_0 := blk_frozen BK296.out 0; have hfz4_1 := blk_frozen BK296.out 1; have hfz4_2 := blk_frozen BK296.out 2))
    go_ret
    exact ⟨by first | rfl | (simp [errW_none, errW_some] <;> rfl) | (simp [*, errW_none, errW_some] <;> rfl), by repeat (first | (with_reducible first | exact HB.out | apply below_alloc | apply pw_below_drewN | apply below_drew1 | refine below_set ?_ GE296.out) | exact HB.out)⟩
  · rw [if_neg c2] at H
    have c2b0 : decide (7 < a0_0) = false := decide_eq_false c2
    clear c2
    by_cases c5 : a0_1 > 4095
    · rw [if_pos c5] at H
      have c5b0 : decide (4095 < a0_1) = true := decide_eq_true c5
      clear c5
      obtain rfl := Option.some.inj H
      go_enter Try.func36, Try.ntmps36
      go_wp2_with (first | ((with_reducible refine gate_dst (N := 1) rfl ?_); refine box_event ?hg (N := 1) ?hd (cs := #[.int .u8 a0_0, .int .u16 a0_1, .int .u16 a0_2]) (t := 42) ?hr ?_; (case hd => rfl); (case hg => rfl); (case hr => first | (go_simp; done) | (go_simp; rfl)); intro gb296 hg w6 hbox hb; have n0_ := Aside0.mk (below_step (by repeat (first | (with_reducible first | exact HB.out | apply below_alloc | apply pw_below_drewN | apply below_drew1) | exact HB.out)) hb); have n1_ := Aside0.mk (hbox); have n2_ := Aside0.mk ((by rw [hg]; exact (below_size (by repeat (first | (with_reducible first | exact HB.out | apply below_alloc | apply pw_below_drewN | apply below_drew1) | exact HB.out))) : w.heap.size ≤ gb296)); have n3_ := Aside0.mk ((by rw [hg]; exact (below_size (by repeat (first | (with_reducible first | exact HB.out | apply below_alloc | apply pw_below_drewN | apply below_drew1) | exact HB.out))) : w.heap.size ≤ gb296)); clear HB; have HB := n0_; have BK296 := n1_; have GW296 := n2_; have GE296 := n3_; clear n0_ n1_ n2_ n3_; clear hb hbox hg; have hcz7_0 : w6.cell? ⟨gb296, 0, none⟩ = some (.int .u8 a0_0) := (blk_cell BK296.out 0).trans rfl; have hcz7_1 : w6.cell? ⟨gb296, 1, none⟩ = some (.int .u16 a0_1) := (blk_cell BK296.out 1).trans rfl; have hcz7_2 : w6.cell? ⟨gb296, 2, none⟩ = some (.int .u16 a0_2) := (blk_cell BK296.out 2).trans rfl; have hfz7_0 := blk_frozen BK296.out 0; have hfz7_1 := blk_frozen BK296.out 1; have hfz7_2 := blk_frozen BK296.out 2))
      go_ret
      exact ⟨by first | rfl | (simp [errW_none, errW_some] <;> rfl) | (simp [*, errW_none, errW_some] <;> rfl), by repeat (first | (with_reducible first | exact HB.out | apply below_alloc | apply pw_below_drewN | apply below_drew1 | refine below_set ?_ GE296.out) | exact HB.out)⟩
    · rw [if_neg c5] at H
      have c5b0 : decide (4095 < a0_1) = false := decide_eq_false c5
      clear c5
      obtain rfl := Option.some.inj H
      go_enter Try.func36, Try.ntmps36
      go_wp2_with (first | ((with_reducible refine gate_dst (N := 1) rfl ?_); refine box_event ?hg (N := 1) ?hd (cs := #[.int .u8 a0_0, .int .u16 a0_1, .int .u16 a0_2]) (t := 42) ?hr ?_; (case hd => rfl); (case hg => rfl); (case hr => first | (go_simp; done) | (go_simp; rfl)); intro gb296 hg w8 hbox hb; have n0_ := Aside0.mk (below_step (by repeat (first | (with_reducible first | exact HB.out | apply below_alloc | apply pw_below_drewN | apply below_drew1) | exact HB.out)) hb); have n1_ := Aside0.mk (hbox); have n2_ := Aside0.mk ((by rw [hg]; exact (below_size (by repeat (first | (with_reducible first | exact HB.out | apply below_alloc | apply pw_below_drewN | apply below_drew1) | exact HB.out))) : w.heap.size ≤ gb296)); have n3_ := Aside0.mk ((by rw [hg]; exact (below_size (by repeat (first | (with_reducible first | exact HB.out | apply below_alloc | apply pw_below_drewN | apply below_drew1) | exact HB.out))) : w.heap.size ≤ gb296)); clear HB; have HB := n0_; have BK296 := n1_; have GW296 := n2_; have GE296 := n3_; clear n0_ n1_ n2_ n3_; clear hb hbox hg; have hcz9_0 : w8.cell? ⟨gb296, 0, none⟩ = some (.int .u8 a0_0) := (blk_cell BK296.out 0).trans rfl; have hcz9_1 : w8.cell? ⟨gb296, 1, none⟩ = some (.int .u16 a0_1) := (blk_cell BK296.out 1).trans rfl; have hcz9_2 : w8.cell? ⟨gb296, 2, none⟩ = some (.int .u16 a0_2) := (blk_cell BK296.out 2).trans rfl; have hfz9_0 := blk_frozen BK296.out 0; have hfz9_1 := blk_frozen BK296.out 1; have hfz9_2 := blk_frozen BK296.out 2))
      go_ret
      exact ⟨by first | rfl | (simp [errW_none, errW_some] <;> rfl) | (simp [*, errW_none, errW_some] <;> rfl), by repeat (first | (with_reducible first | exact HB.out | apply below_alloc | apply pw_below_drewN | apply below_drew1 | refine below_set ?_ GE296.out) | exact HB.out)⟩

/-! ### tag_binary: function 46 -/
def tag_binary.f (l0 : List Int) (a1 : Int) : Option (List Int) := if 0 < (l0.length : Int) then (if 1 < (l0.length : Int) then (some ((l0.set (0 : Int).toNat ((a1 / 256) % 256)).set (1 : Int).toNat ((a1) % 256))) else (none)) else (none)
set_option maxHeartbeats 8000000 in
set_option maxRecDepth 100000 in
theorem tag_binary.calls (P0_ : Nat → Prop) (u9000_ : Value) (l0 : List Int) (a1 : Int) (r : List Int) (w0 w : World) (hB : Below w0.heap.size w0 w) (ho0 : Kd.R (Kd.int .u8) 5 w w0.heap.size P0_ u9000_ l0) (h : tag_binary.f l0 a1 = some r) :
    Calls Try.prog 46 #[u9000_, .int .u16 a1] w fun e w' => e = .returned (.tuple #[]) ∧ Kd.R (Kd.int .u8) 5 w' w0.heap.size (fun k_ => (P0_ k_ ∨ w.heap.size ≤ k_)) u9000_ r ∧ Below w0.heap.size w0 w' ∧ Kept w w' (fun k_ => P0_ k_) := by
  have HO0 := Aside0.mk (show Kd.R (Kd.int .u8) 5 w w0.heap.size (fun k_ => (P0_ k_ ∨ w.heap.size ≤ k_)) u9000_ l0 from Kd.R_mono ho0 (fun k_ hk => (.inl hk)))
  have HK := Aside0.mk (Kept.refl w (fun k_ => P0_ k_))
  have HW0 := Aside0.mk hB.size
  have HB := Aside0.mk hB
  clear hB
  have H : (if 0 < (l0.length : Int) then (if 1 < (l0.length : Int) then (some ((l0.set (0 : Int).toNat ((a1 / 256) % 256)).set (1 : Int).toNat ((a1) % 256))) else (none)) else (none)) = some r := h
  clear h
  by_cases c3 : 0 < (l0.length : Int)
  · rw [if_pos c3] at H
    have c3b0 : decide (0 < (l0.length : Int)) = true := decide_eq_true c3
    have c3b1 : decide (0 < l0.length) = true := decide_eq_true (by omega)
    clear c3
    obtain ⟨y297, hy297⟩ : ∃ y_ : List Int, y_ = (l0.set (0 : Int).toNat ((a1 / 256) % 256)) := ⟨_, rfl⟩
    replace H : (if 1 < (l0.length : Int) then (some (y297.set (1 : Int).toNat ((a1) % 256))) else (none)) = some r := by first | (rw [hy297]; with_reducible exact H) | (have H2_ := (Option.bind_some _ _).symm.trans H; rw [hy297]; with_reducible exact H2_) | (have H2_ := (Option.bind_some _ _).symm.trans H; with_reducible exact H2_) | with_reducible exact H | (rw [hy297]; exact H) | exact H
    have Ny297 := Aside0.mk hy297
    clear hy297
    by_cases c5 : 1 < (l0.length : Int)
    · rw [if_pos c5] at H
      have c5b0 : decide (1 < (l0.length : Int)) = true := decide_eq_true c5
      have c5b1 : decide (1 < l0.length) = true := decide_eq_true (by omega)
      clear c5
      obtain ⟨y298, hy298⟩ : ∃ y_ : List Int, y_ = (y297.set (1 : Int).toNat ((a1) % 256)) := ⟨_, rfl⟩
      replace H : (some y298) = some r := by first | (rw [hy298]; with_reducible exact H) | (have H2_ := (Option.bind_some _ _).symm.trans H; rw [hy298]; with_reducible exact H2_) | (have H2_ := (Option.bind_some _ _).symm.trans H; with_reducible exact H2_) | with_reducible exact H | (rw [hy298]; exact H) | exact H
      have Ny298 := Aside0.mk hy298
      clear hy298
      obtain rfl := Option.some.inj H
      have p4 : 0 ≤ (0 : Int) := (by omega)
      have q4 : (0 : Int) < ((l0.length : Int) : Int) := of_decide_eq_true (by first | (with_reducible assumption) | assumption)
      have qi4 : (0 < l0.length) = True := eq_true (by omega)
      obtain ⟨go4, co4, eo4, gb4, gl4, cl4, HG4⟩ := Kd.R_form HO0.out (by omega)
      (first | cases eo4 | (injection eo4 with ea_ en_ ec_; (first | subst ea_ | (injection ea_ with ea_; subst ea_)); subst ec_; clear en_))
      have GB4 := Aside0.mk gb4
      have GG4 := Aside0.mk HG4
      clear gb4 gl4 HG4
      have HMgo4 := Aside0.mk (show (P0_ go4 ∨ w.heap.size ≤ go4) from (HO0.out.1 _ rfl))
      obtain ⟨hx4_0, hf4_0⟩ := Kd.R_celln 0 HO0.out (0 : Int) p4 q4
      (try rw [show ((0 : Int)).toNat = 0 from rfl] at hx4_0)
      (try simp only [Nat.reduceMul, Nat.zero_mul, Nat.zero_add, Nat.reduceAdd] at hx4_0)
      (try rw [show ((0 : Int)).toNat = 0 from rfl] at hf4_0)
      (try simp only [Nat.reduceMul, Nat.zero_mul, Nat.zero_add, Nat.reduceAdd] at hf4_0)
      replace p4 := eq_true p4
      replace q4 := eq_true q4
      have HP7 := Kd.R_putg HO0.out (0 : Int) ((a1 / 256) % 256)
      go_enter Try.func46, Try.ntmps46
      go_wp2_with (first | ((with_reducible refine gate_store (t := 5) (p := 11) rfl ?_); refine store_event (t := 5) (p := 11) (v := ?vo_w8) (w1 := (w.setCell ⟨go4, (0 : Int).toNat, none⟩ (.int .u8 ((a1 / 256) % 256)))) ?hg ?ho ?hn ?hr ?_; (case ho => rfl); (case hg => rfl); (case hn => rfl); (case hr => first | (go_simp; done) | (go_simp; rfl)); intro w8 hw; have hg : w.grownBy w8 (some go4) := (by rw [hw]; exact HP7.2); have hp_ : Kd.R (Kd.int .u8) 5 w8 w0.heap.size (fun k_ => (P0_ k_ ∨ w.heap.size ≤ k_)) (.slice (some ⟨go4, 0, none⟩) l0.length co4) y297 := (by rw [hw, Ny297.out]; exact HP7.1); clear HP7; have n0_ := Aside0.mk (hp_); have n1_ := Aside0.mk ((by rw [hw]; exact below_set (HB.out) GB4.out : Below w0.heap.size w0 w8)); have n2_ := Aside0.mk (Kept.of_grown (S := (fun k_ => P0_ k_)) hg (by repeat (first | (with_reducible first | exact HK.out | apply Kept.alloc | apply Kept.drewN | apply Kept.drew) | exact HK.out)) (fun k_ e_ => (HO0.out.1 k_ e_))); clear HO0; clear HB; clear HK; have HO0 := n0_; have HB := n1_; have HK := n2_; clear n0_ n1_ n2_; clear hg hw hp_; have p6 : 0 ≤ (1 : Int) := (by omega); have q6 : (1 : Int) < ((l0.length : Int) : Int) := of_decide_eq_true (by first | (with_reducible assumption) | assumption); have qi6 : (1 < l0.length) = True := eq_true (by omega); obtain ⟨hx6_0, hf6_0⟩ := Kd.R_celln 0 HO0.out (1 : Int) p6 q6; (try rw [show ((1 : Int)).toNat = 1 from rfl] at hx6_0); (try simp only [Nat.reduceMul, Nat.zero_mul, Nat.zero_add, Nat.reduceAdd] at hx6_0); (try rw [show ((1 : Int)).toNat = 1 from rfl] at hf6_0); (try simp only [Nat.reduceMul, Nat.zero_mul, Nat.zero_add, Nat.reduceAdd] at hf6_0); replace p6 := eq_true p6; replace q6 := eq_true q6; obtain ⟨hy9_, hz9_⟩ := Kd.R_celln 0 HO0.out (1 : Int) (by omega) (of_decide_eq_true (by first | (with_reducible assumption) | assumption)); (try simp only [Int.reduceToNat, Int.toNat_zero, Int.toNat_ofNat, Nat.reduceMul, Nat.zero_mul, Nat.zero_add] at hy9_ hz9_); (try rw [show ((1 : Int)).toNat = 1 from rfl] at hy9_); (try rw [show ((1 : Int)).toNat = 1 from rfl] at hz9_); have HP9 := Kd.R_putg HO0.out (1 : Int) ((a1) % 256)) | ((with_reducible refine gate_store (t := 5) (p := 12) rfl ?_); refine store_event (t := 5) (p := 12) (v := ?vo_w10) (w1 := (w8.setCell ⟨go4, (1 : Int).toNat, none⟩ (.int .u8 ((a1) % 256)))) ?hg ?ho ?hn ?hr ?_; (case ho => rfl); (case hg => rfl); (case hn => rfl); (case hr => first | (go_simp; done) | (go_simp; rfl)); intro w10 hw; have hg : w8.grownBy w10 (some go4) := (by rw [hw]; exact HP9.2); have hp_ : Kd.R (Kd.int .u8) 5 w10 w0.heap.size (fun k_ => (P0_ k_ ∨ w.heap.size ≤ k_)) (.slice (some ⟨go4, 0, none⟩) l0.length co4) y298 := (by rw [hw, Ny298.out]; exact HP9.1); clear HP9; have n0_ := Aside0.mk (hp_); have n1_ := Aside0.mk ((by rw [hw]; exact below_set (HB.out) GB4.out : Below w0.heap.size w0 w10)); have n2_ := Aside0.mk (Kept.of_grown (S := (fun k_ => P0_ k_)) hg (by repeat (first | (with_reducible first | exact HK.out | apply Kept.alloc | apply Kept.drewN | apply Kept.drew) | exact HK.out)) (fun k_ e_ => (HO0.out.1 k_ e_))); clear HO0; clear HB; clear HK; have HO0 := n0_; have HB := n1_; have HK := n2_; clear n0_ n1_ n2_; clear hg hw hp_))
      first | go_end0 | ((try simp only [Exit.inBlock, Exit.then]); refine bodyPost_ret (results_none rfl _ _ _) rfl ?_)
      exact ⟨by first | rfl | (simp [errW_none, errW_some] <;> rfl) | (simp [*, errW_none, errW_some] <;> rfl), by (with_reducible repeat (first | apply Kd.R_alloc | apply Kd.R_drewN | apply Kd.R_drew)); exact HO0.out, by repeat (first | (with_reducible first | exact HB.out | apply below_alloc | apply pw_below_drewN | apply below_drew1) | exact HB.out), by repeat (first | (with_reducible first | exact HK.out | apply Kept.alloc | apply Kept.drewN | apply Kept.drew) | exact HK.out)⟩
    · rw [if_neg c5] at H
      exact absurd H (by simp)
  · rw [if_neg c3] at H
    exact absurd H (by simp)

/-! ### tag_Bytes: function 34 -/
open Go.Proofs.YtlgiibchnnaceaaW.Own in
theorem tag_binary.at (g o len cap : Nat) (v : Int) (w : World) (cs : Array Value) (x y : Value) (hg : w.heap[g]? = some (.cells cs 5 (0, 0))) (hx : cs[o]? = some x) (hy : cs[o + 1]? = some y) (hl : 1 < len) :
    Calls Try.prog 46 #[.slice (some ⟨g, o, none⟩) len cap, .int .u16 v] w fun e w' => e = .returned (.tuple #[]) ∧ w.grownBy w' (some g) ∧ w'.heap[g]? = some (.cells ((cs.setIfInBounds o (.int .u8 (v / 256 % 256))).setIfInBounds (o + 1) (.int .u8 (v % 256))) 5 (0, 0)) := by
  have b1 : 0 < len := by omega
  have h0 : w.cell? ⟨g, o, none⟩ = some x := (blk_cell hg o).trans hx
  have h1 : w.cell? ⟨g, o + 1, none⟩ = some y := (blk_cell hg (o + 1)).trans hy
  have f0 := blk_frozen hg o
  have f1 := blk_frozen hg (o + 1)
  obtain ⟨y', hy'⟩ := cell?_setCell_some (w := w) (p := ⟨g, o, none⟩) (x := .int .u8 (v / 256 % 256)) (q := ⟨g, o + 1, none⟩) (v := y) h1
  have HG := Aside0.mk hg
  clear hg hx hy
  go_enter Try.func46, Try.ntmps46
  go_wp2
  go_end0
  exact ⟨rfl, grown_trans (grown_set _) (grown_set _), blk_set (blk_set HG.out o _) (o + 1) _⟩
def tag_Bytes.bytes (a b c : Int) : List Int := [Go.bits .or .u16 (IntKind.u16.wrap (IntKind.u16.wrap a * 8192)) b / 256 % 256, Go.bits .or .u16 (IntKind.u16.wrap (IntKind.u16.wrap a * 8192)) b % 256, c / 256 % 256, c % 256]
def tag_Bytes.f (a0_0 : Int) (a0_1 : Int) (a0_2 : Int) (l1 : List Int) : Option (List Int × Int) := (tag_Check.f a0_0 a0_1 a0_2).bind fun t => if t = 0 then (if l1.length ≤ 2044 then some (tag_Bytes.bytes a0_0 a0_1 a0_2, 0) else some ([], 5)) else some ([], t)
open Go.Proofs.YtlgiibchnnaceaaW.Own in
set_option maxHeartbeats 2000000 in
set_option maxRecDepth 100000 in
theorem tag_Bytes.calls (a0_0 : Int) (a0_1 : Int) (a0_2 : Int) (A1 : Option Addr) (c1 : Nat) (l1 : List Int) (r1 : List Int) (r2 : Int) (w : World) (hr1 : Kd.C (Kd.int .u8) w A1 l1.length l1) (hc1 : l1.length ≤ c1) (h : tag_Bytes.f a0_0 a0_1 a0_2 l1 = some (r1, r2)) :
    Calls Try.prog 34 #[.agg #[.int .u8 a0_0, .int .u16 a0_1, .int .u16 a0_2], .slice A1 l1.length c1] w fun e w' => ∃ v0_ : Value, e = .returned (.tuple #[v0_, .int .i64 r2]) ∧ Kd.R (Kd.int .u8) 5 w' w.heap.size (fun _ => True) v0_ r1 ∧ Below w.heap.size w w' := by
  clear hr1 hc1
  unfold tag_Bytes.f at h
  obtain ⟨t, hc, h⟩ := Option.bind_eq_some_iff.mp h
  generalize l1.length = n at h ⊢
  have HC := Aside0.mk hc
  clear hc
  have step : ∀ w2 : World, Below (w.alloc (.cells #[.int .u8 a0_0, .int .u16 a0_1, .int .u16 a0_2] 42)).heap.size (w.alloc (.cells #[.int .u8 a0_0, .int .u16 a0_1, .int .u16 a0_2] 42)) w2 → Below w.heap.size w w2 ∧ w2.heap[w.heap.size]? = some (.cells #[.int .u8 a0_0, .int .u16 a0_1, .int .u16 a0_2] 42 (0, 0)) := fun w2 hb =>
    ⟨below_step ((Below.refl _ _).alloc (Nat.le_refl _) _) hb, blk_below (blk_new _ _) hb⟩
  by_cases ht : t = 0
  · rw [if_pos ht] at h
    subst ht
    by_cases hn : n ≤ 2044
    · rw [if_pos hn] at h
      injection h with h
      injection h with e1 e2
      subst e1 e2
      have hn' : decide (n ≤ 2044) = true := decide_eq_true hn
      have hn2 : decide (2044 < (n : Int)) = false := decide_eq_false (by omega)
      have hmk : ∀ w, (Instr.makeSlice 22 (.int .i64 4) (.int .i64 4)).run Try.prog w = .ok (.slice (some ⟨w.heap.size, 0, none⟩) 4 4) (w.alloc (.cells #[.int .u8 0, .int .u8 0, .int .u8 0, .int .u8 0] 5)) := fun _ => by kernel_rfl
      go_enter Try.func34, Try.ntmps34
      go_wp2_with fail
      refine (tag_Check.calls a0_0 a0_1 a0_2 0 _ HC.out).mono ?_
      rintro e w2 ⟨rfl, hb⟩
      obtain ⟨hb1, hb2⟩ := step w2 hb
      have ST := Aside0.mk (St.made (cs := #[.int .u8 0, .int .u8 0, .int .u8 0, .int .u8 0]) (te := 5) hb1 hb2 (Nat.le_refl _))
      clear hb hb1 hb2 step
      go_wp2_with fail
      generalize w2.heap.size = g at ST ⊢
      generalize w2.alloc (.cells #[.int .u8 0, .int .u8 0, .int .u8 0, .int .u8 0] 5) = w3 at ST ⊢
      have k0 := blk_cell ST.out.box 0
      have k1 := blk_cell ST.out.box 1
      go_still_tail 9, (by kernel_rfl)
      change wpList _ _ _ _ _ w3.drew
      have ST := Aside0.mk ST.out.drew
      generalize w3.drew = w4 at ST ⊢
      clear k0 k1
      go_wp2_with fail
      refine (tag_binary.at g 0 4 4 _ _ _ _ _ ST.out.row rfl rfl (by omega)).mono ?_
      rintro e w5 ⟨rfl, hg, hr⟩
      have ST := Aside0.mk (ST.out.grown hg hr)
      clear hg hr
      go_wp2_with fail
      have k2 := blk_cell ST.out.box 2
      go_still_tail 4, (by kernel_rfl)
      change wpList _ _ _ _ _ w5.drew
      have ST := Aside0.mk ST.out.drew
      generalize w5.drew = w6 at ST ⊢
      clear k2
      go_wp2_with fail
      refine (tag_binary.at g 2 2 2 _ _ _ _ _ ST.out.row rfl rfl (by omega)).mono ?_
      rintro e w7 ⟨rfl, hg, hr⟩
      have ST := Aside0.mk (ST.out.grown hg hr)
      clear hg hr
      go_wp2_with fail
      go_ret2
      exact ⟨_, rfl, row_own (xs := tag_Bytes.bytes a0_0 a0_1 a0_2) ST.out.row rfl ST.out.ge (by unfold maxLen; simp [tag_Bytes.bytes]), ST.out.below⟩
    · rw [if_neg hn] at h
      injection h with h
      injection h with e1 e2
      subst e1 e2
      have hn' : decide (n ≤ 2044) = false := decide_eq_false hn
      have hn2 : decide (2044 < (n : Int)) = true := decide_eq_true (by omega)
      go_enter Try.func34, Try.ntmps34
      go_wp2_with fail
      refine (tag_Check.calls a0_0 a0_1 a0_2 0 _ HC.out).mono ?_
      rintro e w2 ⟨rfl, hb⟩
      have HB := Aside0.mk (step w2 hb).1
      clear hb step
      go_wp2_with fail
      go_ret2
      exact ⟨_, rfl, Kd.R_nil _ _ _ _ _, HB.out⟩
  · rw [if_neg ht] at h
    injection h with h
    injection h with e1 e2
    subst e1 e2
    have hc : (t == 0) = false := by simpa using ht
    have hc' : (t != 0) = true := by simpa using ht
    go_enter Try.func34, Try.ntmps34
    go_wp2_with fail
    refine (tag_Check.calls a0_0 a0_1 a0_2 t _ HC.out).mono ?_
    rintro e w2 ⟨rfl, hb⟩
    have HB := Aside0.mk (step w2 hb).1
    clear hb step
    go_wp2_with fail
    go_ret2
    exact ⟨_, rfl, Kd.R_nil _ _ _ _ _, HB.out⟩

end Go.Proofs.Ytlgiibchnnaceaa.P
