/- Contracts of the functions that the statements reach, and the statements: written by a program of this repo (wip/patch_print.py); Lean checks every line; no conditions. -/
import Derived.Test.YtaklgacadjipjaaPx0
import Derived.Test.YtaklgacadjipjaaPx2
namespace Go.Proofs.Ytaklgacadjipjaa.P
open Go.RowKit Go.Proofs.YtaklgacadjipjaaW.PrintWords Go.Proofs.YtaklgacadjipjaaW.PrintLast Go.Proofs.YtaklgacadjipjaaW.PrintMore
attribute [local go_sem] max2_int min2_int max_two min_two max_three min_three max_four min_four Go.Proofs.YtaklgacadjipjaaW.Own.u16_all   -- for this text's walks alone
set_option linter.unusedVariables false
set_option linter.unusedSimpArgs false

/-! ### link_Bytes: function 14 -/
open Go.Proofs.YtaklgacadjipjaaW.Own in
theorem link_binary.at (g o len cap : Nat) (v : Int) (w : World) (cs : Array Value) (x y : Value) (hg : w.heap[g]? = some (.cells cs 5 (0, 0))) (hx : cs[o]? = some x) (hy : cs[o + 1]? = some y) (hl : 1 < len) :
    Calls Try.prog 37 #[.slice (some ⟨g, o, none⟩) len cap, .int .u16 v] w fun e w' => e = .returned (.tuple #[]) ∧ w.grownBy w' (some g) ∧ w'.heap[g]? = some (.cells ((cs.setIfInBounds o (.int .u8 (v / 256 % 256))).setIfInBounds (o + 1) (.int .u8 (v % 256))) 5 (0, 0)) := by
  have b1 : 0 < len := by omega
  have h0 : w.cell? ⟨g, o, none⟩ = some x := (blk_cell hg o).trans hx
  have h1 : w.cell? ⟨g, o + 1, none⟩ = some y := (blk_cell hg (o + 1)).trans hy
  have f0 := blk_frozen hg o
  have f1 := blk_frozen hg (o + 1)
  obtain ⟨y', hy'⟩ := cell?_setCell_some (w := w) (p := ⟨g, o, none⟩) (x := .int .u8 (v / 256 % 256)) (q := ⟨g, o + 1, none⟩) (v := y) h1
  have HG := Aside0.mk hg
  clear hg hx hy
  go_enter Try.func37, Try.ntmps37
  go_wp2
  go_end0
  exact ⟨rfl, grown_trans (grown_set _) (grown_set _), blk_set (blk_set HG.out o _) (o + 1) _⟩
def link_Bytes.bytes (a0_0 : Int) (a0_1 : Int) (a0_2 : Int) (a0_3 : Int) (a0_4 : Int) (a0_5 : Int) (a0_6 : Int) (a0_7 : Int) (a0_8 : Int) (a0_9 : Int) (a0_10 : Int) (a0_11 : Int) (a0_12 : Int) (n : Nat) : List Int := [a0_0, a0_1, a0_2, a0_3, a0_4, a0_5, a0_6, a0_7, a0_8, a0_9, a0_10, a0_11, (a0_12) / 256 % 256, (a0_12) % 256]
def link_Bytes.f (a0_0 : Int) (a0_1 : Int) (a0_2 : Int) (a0_3 : Int) (a0_4 : Int) (a0_5 : Int) (a0_6 : Int) (a0_7 : Int) (a0_8 : Int) (a0_9 : Int) (a0_10 : Int) (a0_11 : Int) (a0_12 : Int) (l1 : List Int) : Option (List Int × Int) := (link_Check.f a0_0 a0_1 a0_2 a0_3 a0_4 a0_5 a0_6 a0_7 a0_8 a0_9 a0_10 a0_11 a0_12).bind fun t => if t = 0 then (if l1.length ≤ 2034 then some (link_Bytes.bytes a0_0 a0_1 a0_2 a0_3 a0_4 a0_5 a0_6 a0_7 a0_8 a0_9 a0_10 a0_11 a0_12 l1.length, 0) else some ([], 5)) else some ([], t)
open Go.Proofs.YtaklgacadjipjaaW.Own in
set_option maxHeartbeats 4000000 in
set_option maxRecDepth 100000 in
theorem link_Bytes.calls (a0_0 : Int) (a0_1 : Int) (a0_2 : Int) (a0_3 : Int) (a0_4 : Int) (a0_5 : Int) (a0_6 : Int) (a0_7 : Int) (a0_8 : Int) (a0_9 : Int) (a0_10 : Int) (a0_11 : Int) (a0_12 : Int) (A1 : Option Addr) (c1 : Nat) (l1 : List Int) (r1 : List Int) (r2 : Int) (w : World) (hr1 : Kd.C (Kd.int .u8) w A1 l1.length l1) (hc1 : l1.length ≤ c1) (h : link_Bytes.f a0_0 a0_1 a0_2 a0_3 a0_4 a0_5 a0_6 a0_7 a0_8 a0_9 a0_10 a0_11 a0_12 l1 = some (r1, r2)) :
    Calls Try.prog 14 #[.agg #[.int .u8 a0_0, .int .u8 a0_1, .int .u8 a0_2, .int .u8 a0_3, .int .u8 a0_4, .int .u8 a0_5, .int .u8 a0_6, .int .u8 a0_7, .int .u8 a0_8, .int .u8 a0_9, .int .u8 a0_10, .int .u8 a0_11, .int .u16 a0_12], .slice A1 l1.length c1] w fun e w' => ∃ v0_ : Value, e = .returned (.tuple #[v0_, .int .i64 r2]) ∧ Kd.R (Kd.int .u8) 5 w' w.heap.size (fun _ => True) v0_ r1 ∧ Below w.heap.size w w' := by
  clear hr1 hc1
  unfold link_Bytes.f at h
  obtain ⟨t, hc, h⟩ := Option.bind_eq_some_iff.mp h
  generalize l1.length = n at h ⊢
  have HC := Aside0.mk hc
  clear hc
  have step : ∀ w2 : World, Below (w.alloc (.cells #[.int .u8 a0_0, .int .u8 a0_1, .int .u8 a0_2, .int .u8 a0_3, .int .u8 a0_4, .int .u8 a0_5, .int .u8 a0_6, .int .u8 a0_7, .int .u8 a0_8, .int .u8 a0_9, .int .u8 a0_10, .int .u8 a0_11, .int .u16 a0_12] 25)).heap.size (w.alloc (.cells #[.int .u8 a0_0, .int .u8 a0_1, .int .u8 a0_2, .int .u8 a0_3, .int .u8 a0_4, .int .u8 a0_5, .int .u8 a0_6, .int .u8 a0_7, .int .u8 a0_8, .int .u8 a0_9, .int .u8 a0_10, .int .u8 a0_11, .int .u16 a0_12] 25)) w2 → Below w.heap.size w w2 ∧ w2.heap[w.heap.size]? = some (.cells #[.int .u8 a0_0, .int .u8 a0_1, .int .u8 a0_2, .int .u8 a0_3, .int .u8 a0_4, .int .u8 a0_5, .int .u8 a0_6, .int .u8 a0_7, .int .u8 a0_8, .int .u8 a0_9, .int .u8 a0_10, .int .u8 a0_11, .int .u16 a0_12] 25 (0, 0)) := fun w2 hb =>
    ⟨below_step ((Below.refl _ _).alloc (Nat.le_refl _) _) hb, blk_below (blk_new _ _) hb⟩
  by_cases ht : t = 0
  · rw [if_pos ht] at h
    subst ht
    by_cases hn : n ≤ 2034
    · rw [if_pos hn] at h
      injection h with h
      injection h with e1 e2
      subst e1 e2
      have hn' : decide (n ≤ 2034) = true := decide_eq_true hn
      have hn2 : decide (2034 < (n : Int)) = false := decide_eq_false (by omega)
      have hmk : ∀ w, (Instr.makeSlice 26 (.int .i64 14) (.int .i64 14)).run Try.prog w = .ok (.slice (some ⟨w.heap.size, 0, none⟩) 14 14) (w.alloc (.cells #[.int .u8 0, .int .u8 0, .int .u8 0, .int .u8 0, .int .u8 0, .int .u8 0, .int .u8 0, .int .u8 0, .int .u8 0, .int .u8 0, .int .u8 0, .int .u8 0, .int .u8 0, .int .u8 0] 5)) := fun _ => by kernel_rfl
      go_enter Try.func14, Try.ntmps14
      go_wp2_with fail
      refine (link_Check.calls a0_0 a0_1 a0_2 a0_3 a0_4 a0_5 a0_6 a0_7 a0_8 a0_9 a0_10 a0_11 a0_12 0 _ HC.out).mono ?_
      rintro e w2 ⟨rfl, hb⟩
      obtain ⟨hb1, hb2⟩ := step w2 hb
      have ST := Aside0.mk (St.made (cs := #[.int .u8 0, .int .u8 0, .int .u8 0, .int .u8 0, .int .u8 0, .int .u8 0, .int .u8 0, .int .u8 0, .int .u8 0, .int .u8 0, .int .u8 0, .int .u8 0, .int .u8 0, .int .u8 0]) (te := 5) hb1 hb2 (Nat.le_refl _))
      clear hb hb1 hb2 step
      go_wp2_with fail
      generalize w2.heap.size = g at ST ⊢
      generalize w2.alloc (.cells #[.int .u8 0, .int .u8 0, .int .u8 0, .int .u8 0, .int .u8 0, .int .u8 0, .int .u8 0, .int .u8 0, .int .u8 0, .int .u8 0, .int .u8 0, .int .u8 0, .int .u8 0, .int .u8 0] 5) = w3 at ST ⊢
      go_still_tail 4, (by kernel_rfl)
      change wpList _ _ _ _ _ w3.drew
      have ST := Aside0.mk ST.out.drew
      generalize w3.drew = w4 at ST ⊢
      have hcopy := copy_run (P := Try.prog) (w := w4) (dT := 26) (sT := 26) (ty := 3) (elem := 5) (o := 0) (dLen := 14) (dCap := 14) (so := 0) (sLen := 6) (sCap := 6) [.int .u8 a0_0, .int .u8 a0_1, .int .u8 a0_2, .int .u8 a0_3, .int .u8 a0_4, .int .u8 a0_5] Try.underlying26 (by kernel_rfl) rfl ST.out.row ST.out.box (by simp) (by intro j v hj; rcases j with _ | (_ | (_ | (_ | (_ | (_ | j))))); all_goals first | (simp at hj; done) | exact hj) (by simp [Value.oneCell'])
      have HG := Aside0.mk (setCells_grown (g := g) [.int .u8 a0_0, .int .u8 a0_1, .int .u8 a0_2, .int .u8 a0_3, .int .u8 a0_4, .int .u8 a0_5] 0 w4)
      have hr := setCells_blk [.int .u8 a0_0, .int .u8 a0_1, .int .u8 a0_2, .int .u8 a0_3, .int .u8 a0_4, .int .u8 a0_5] 0 ST.out.row
      simp only [lay, List.setIfInBounds_toArray, List.set_cons_zero, List.set_cons_succ, Nat.reduceAdd] at hr
      have HR := Aside0.mk hr
      clear hr
      generalize w4.setCells g 0 [.int .u8 a0_0, .int .u8 a0_1, .int .u8 a0_2, .int .u8 a0_3, .int .u8 a0_4, .int .u8 a0_5] = w5 at hcopy HG HR
      go_wp2_with fail
      have ST := Aside0.mk (ST.out.grown HG.out HR.out)
      clear hcopy HG HR
      go_still_tail 4, (by kernel_rfl)
      change wpList _ _ _ _ _ w5.drew
      have ST := Aside0.mk ST.out.drew
      generalize w5.drew = w6 at ST ⊢
      have hcopy := copy_run (P := Try.prog) (w := w6) (dT := 26) (sT := 26) (ty := 3) (elem := 5) (o := 6) (dLen := 8) (dCap := 8) (so := 6) (sLen := 6) (sCap := 6) [.int .u8 a0_6, .int .u8 a0_7, .int .u8 a0_8, .int .u8 a0_9, .int .u8 a0_10, .int .u8 a0_11] Try.underlying26 (by kernel_rfl) rfl ST.out.row ST.out.box (by simp) (by intro j v hj; rcases j with _ | (_ | (_ | (_ | (_ | (_ | j))))); all_goals first | (simp at hj; done) | exact hj) (by simp [Value.oneCell'])
      have HG := Aside0.mk (setCells_grown (g := g) [.int .u8 a0_6, .int .u8 a0_7, .int .u8 a0_8, .int .u8 a0_9, .int .u8 a0_10, .int .u8 a0_11] 6 w6)
      have hr := setCells_blk [.int .u8 a0_6, .int .u8 a0_7, .int .u8 a0_8, .int .u8 a0_9, .int .u8 a0_10, .int .u8 a0_11] 6 ST.out.row
      simp only [lay, List.setIfInBounds_toArray, List.set_cons_zero, List.set_cons_succ, Nat.reduceAdd] at hr
      have HR := Aside0.mk hr
      clear hr
      generalize w6.setCells g 6 [.int .u8 a0_6, .int .u8 a0_7, .int .u8 a0_8, .int .u8 a0_9, .int .u8 a0_10, .int .u8 a0_11] = w7 at hcopy HG HR
      go_wp2_with fail
      have ST := Aside0.mk (ST.out.grown HG.out HR.out)
      clear hcopy HG HR
      have k12 := blk_cell ST.out.box 12
      go_still_tail 4, (by kernel_rfl)
      change wpList _ _ _ _ _ w7.drew
      have ST := Aside0.mk ST.out.drew
      generalize w7.drew = w8 at ST ⊢
      clear k12
      go_wp2_with fail
      refine (link_binary.at g 12 2 2 _ _ _ _ _ ST.out.row rfl rfl (by omega)).mono ?_
      rintro e w9 ⟨rfl, hg, hr⟩
      simp only [List.setIfInBounds_toArray, List.set_cons_zero, List.set_cons_succ, Nat.reduceAdd] at hr
      have ST := Aside0.mk (ST.out.grown hg hr)
      clear hg hr
      go_wp2_with fail
      go_ret2
      exact ⟨_, rfl, row_own (xs := link_Bytes.bytes a0_0 a0_1 a0_2 a0_3 a0_4 a0_5 a0_6 a0_7 a0_8 a0_9 a0_10 a0_11 a0_12 n) ST.out.row rfl ST.out.ge (by unfold maxLen; simp [link_Bytes.bytes]), ST.out.below⟩
    · rw [if_neg hn] at h
      injection h with h
      injection h with e1 e2
      subst e1 e2
      have hn' : decide (n ≤ 2034) = false := decide_eq_false hn
      have hn2 : decide (2034 < (n : Int)) = true := decide_eq_true (by omega)
      go_enter Try.func14, Try.ntmps14
      go_wp2_with fail
      refine (link_Check.calls a0_0 a0_1 a0_2 a0_3 a0_4 a0_5 a0_6 a0_7 a0_8 a0_9 a0_10 a0_11 a0_12 0 _ HC.out).mono ?_
      rintro e w2 ⟨rfl, hb⟩
      have HB := Aside0.mk (step w2 hb).1
      clear hb step
      go_wp2_with fail
      go_ret2
      exact ⟨_, rfl, Kd.R_nil _ _ _ _ _, HB.out⟩
  · rw [if_neg ht] at h
    injection h with h
    injection h with e1 e2
    subst e1 e2
    have hc : (t == 0) = false := by simpa using ht
    have hc' : (t != 0) = true := by simpa using ht
    go_enter Try.func14, Try.ntmps14
    go_wp2_with fail
    refine (link_Check.calls a0_0 a0_1 a0_2 a0_3 a0_4 a0_5 a0_6 a0_7 a0_8 a0_9 a0_10 a0_11 a0_12 t _ HC.out).mono ?_
    rintro e w2 ⟨rfl, hb⟩
    have HB := Aside0.mk (step w2 hb).1
    clear hb step
    go_wp2_with fail
    go_ret2
    exact ⟨_, rfl, Kd.R_nil _ _ _ _ _, HB.out⟩

/-! ### sallyportref05_Check: function 17 -/
def sallyportref05_Check.f (a0_0 : Int) (a0_1 : Int) (a0_2 : Int) (a0_3 : Int) (a0_4 : Int) (a0_5 : Int) (a0_6 : Int) (a0_7 : Int) (a0_8 : Int) (a0_9 : Int) (a0_10 : Int) (a0_11 : Int) (a0_12 : Int) : Option (Int) := some 0
set_option maxHeartbeats 8000000 in
set_option maxRecDepth 100000 in
theorem sallyportref05_Check.calls (a0_0 : Int) (a0_1 : Int) (a0_2 : Int) (a0_3 : Int) (a0_4 : Int) (a0_5 : Int) (a0_6 : Int) (a0_7 : Int) (a0_8 : Int) (a0_9 : Int) (a0_10 : Int) (a0_11 : Int) (a0_12 : Int) (r : Int) (w : World) (h : sallyportref05_Check.f a0_0 a0_1 a0_2 a0_3 a0_4 a0_5 a0_6 a0_7 a0_8 a0_9 a0_10 a0_11 a0_12 = some r) :
    Calls Try.prog 17 #[.agg #[.int .u8 a0_0, .int .u8 a0_1, .int .u8 a0_2, .int .u8 a0_3, .int .u8 a0_4, .int .u8 a0_5, .int .u8 a0_6, .int .u8 a0_7, .int .u8 a0_8, .int .u8 a0_9, .int .u8 a0_10, .int .u8 a0_11, .int .u16 a0_12]] w fun e w' => e = .returned (.int .i64 r) ∧ Below w.heap.size w w' := by
  have hu25 := Try.underlying25
  have HB := Aside0.mk (Below.refl w.heap.size w)
  have H : (some 0) = some r := h
  clear h
  obtain rfl := Option.some.inj H
  go_enter Try.func17, Try.ntmps17
  go_wp2_with (first | ((with_reducible refine gate_dst (N := 1) rfl ?_); refine box_event ?hg (N := 1) ?hd (cs := #[.int .u8 a0_0, .int .u8 a0_1, .int .u8 a0_2, .int .u8 a0_3, .int .u8 a0_4, .int .u8 a0_5, .int .u8 a0_6, .int .u8 a0_7, .int .u8 a0_8, .int .u8 a0_9, .int .u8 a0_10, .int .u8 a0_11, .int .u16 a0_12]) (t := 25) ?hr ?_; (case hd => rfl); (case hg => rfl); (case hr => first | (go_simp; done) | (go_simp; rfl)); intro gb107 hg w2 hbox hb; have n0_ := Aside0.mk (below_step (by repeat (first | (with_reducible first | exact HB.out | apply below_alloc | apply pw_below_drewN | apply below_drew1) | exact HB.out)) hb); have n1_ := Aside0.mk (hbox); have n2_ := Aside0.mk ((by rw [hg]; exact (below_size (by repeat (first | (with_reducible first | exact HB.out | apply below_alloc | apply pw_below_drewN | apply below_drew1) | exact HB.out))) : w.heap.size ≤ gb107)); have n3_ := Aside0.mk ((by rw [hg]; exact (below_size (by repeat (first | (with_reducible first | exact HB.out | apply below_alloc | apply pw_below_drewN | apply below_drew1) | exact HB.out))) : w.heap.size ≤ gb107)); clear HB; have HB := n0_; have BK107 := n1_; have GW107 := n2_; have GE107 := n3_; clear n0_ n1_ n2_ n3_; clear hb hbox hg))
  go_ret
  exact ⟨by first | rfl | (simp [errW_none, errW_some] <;> rfl) | (simp [*, errW_none, errW_some] <;> rfl), by repeat (first | (with_reducible first | exact HB.out | apply below_alloc | apply pw_below_drewN | apply below_drew1 | refine below_set ?_ GE107.out) | exact HB.out)⟩

end Go.Proofs.Ytaklgacadjipjaa.P
