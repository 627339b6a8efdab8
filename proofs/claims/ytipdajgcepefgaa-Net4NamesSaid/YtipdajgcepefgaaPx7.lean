/- Contracts of the functions that the statements reach, and the statements: written by a program of this repo (wip/patch_print.py); Lean checks every line; no conditions. -/
import Derived.Test.YtipdajgcepefgaaPx0
import Derived.Test.YtipdajgcepefgaaPx5
import Derived.Test.YtipdajgcepefgaaPx6
namespace Go.Proofs.Ytipdajgcepefgaa.P
open Go.RowKit Go.Proofs.YtipdajgcepefgaaW.PrintWords Go.Proofs.YtipdajgcepefgaaW.PrintLast Go.Proofs.YtipdajgcepefgaaW.PrintMore
attribute [local go_sem] max2_int min2_int max_two min_two max_three min_three max_four min_four Go.Proofs.YtipdajgcepefgaaW.Own.u16_all   -- for this text's walks alone
set_option linter.unusedVariables false
set_option linter.unusedSimpArgs false

/-! ### sallyportref07_Bytes: function 20 -/
def sallyportref07_Bytes.f (k : Nat) (a0_0 : Int) (a0_1 : Int) (a0_2 : Int) (a0_3 : Int) (a0_4 : Int) (a0_5 : Int) (a0_6 : Int) (a0_7 : Int) (a0_8 : Int) (a0_9 : Int) (a0_10 : Int) (a0_11 : Int) (l1 : List Int) : Option (List Int × Int) := (sallyportref07_Check.f a0_0 a0_1 a0_2 a0_3 a0_4 a0_5 a0_6 a0_7 a0_8 a0_9 a0_10 a0_11).bind fun t => if t = 0 then (if l1.length ≤ 2028 then (sallyportref07_number.f k (20 + (l1.length : Int)) 2).bind fun t2 => if ((([] : List Int) ++ [69, a0_0])).length + t2.length < 140737488355328 then (sallyportref07_number.f k (wrap64 a0_3) 2).bind fun t3 => if (((([] : List Int) ++ [69, a0_0]) ++ t2)).length + t3.length < 140737488355328 then (if (((((((([] : List Int) ++ [69, a0_0]) ++ t2) ++ t3) ++ [0, 0, a0_1, a0_2, 0, 0]) ++ [a0_4, a0_5, a0_6, a0_7]) ++ [a0_8, a0_9, a0_10, a0_11])).length = 20 then ((sallyportref01_Field.f k (((((((([] : List Int) ++ [69, a0_0]) ++ t2) ++ t3) ++ [0, 0, a0_1, a0_2, 0, 0]) ++ [a0_4, a0_5, a0_6, a0_7]) ++ [a0_8, a0_9, a0_10, a0_11]))).bind fun s => some (((((((((([] : List Int) ++ [69, a0_0]) ++ t2) ++ t3) ++ [0, 0, a0_1, a0_2, 0, 0]) ++ [a0_4, a0_5, a0_6, a0_7]) ++ [a0_8, a0_9, a0_10, a0_11])).set 10 ((wrap64 (Int.tdiv (wrap64 s) 256)) % 256)).set 11 ((Int.tmod (wrap64 s) 256) % 256), 0)) else none) else none else none else some ([], 5)) else some ([], t)
theorem sallyportref07_Bytes.mono : ∀ b0 b1 b2 b3 b4 b5 b6 b7 b8 b9 b10 b11 b12 k, LeO (sallyportref07_Bytes.f k b0 b1 b2 b3 b4 b5 b6 b7 b8 b9 b10 b11 b12) (sallyportref07_Bytes.f (k + 1) b0 b1 b2 b3 b4 b5 b6 b7 b8 b9 b10 b11 b12) := by
  intro b0 b1 b2 b3 b4 b5 b6 b7 b8 b9 b10 b11 b12 k
  unfold sallyportref07_Bytes.f
  repeat' first
    | (with_reducible exact sallyportref07_number.mono _ _ _)
    | (with_reducible exact sallyportref01_Field.mono _ _)
    | (with_reducible exact LeO.refl _)
    | (with_reducible exact LeO.none _)
    | (with_reducible refine LeO.ite ?_ ?_)
    | (with_reducible refine LeO.bind ?_ (fun _ => ?_))
open Go.Proofs.YtipdajgcepefgaaW.Own in
set_option maxHeartbeats 4000000 in
set_option maxRecDepth 100000 in
theorem sallyportref07_Bytes.calls (k : Nat) (a0_0 : Int) (a0_1 : Int) (a0_2 : Int) (a0_3 : Int) (a0_4 : Int) (a0_5 : Int) (a0_6 : Int) (a0_7 : Int) (a0_8 : Int) (a0_9 : Int) (a0_10 : Int) (a0_11 : Int) (A1 : Option Addr) (c1 : Nat) (l1 : List Int) (r1 : List Int) (r2 : Int) (w : World) (hr1 : Kd.C (Kd.int .u8) w A1 l1.length l1) (hc1 : l1.length ≤ c1) (h : sallyportref07_Bytes.f k a0_0 a0_1 a0_2 a0_3 a0_4 a0_5 a0_6 a0_7 a0_8 a0_9 a0_10 a0_11 l1 = some (r1, r2)) :
    Calls Try.prog 20 #[.agg #[.int .u8 a0_0, .int .u8 a0_1, .int .u8 a0_2, .int .u16 a0_3, .int .u8 a0_4, .int .u8 a0_5, .int .u8 a0_6, .int .u8 a0_7, .int .u8 a0_8, .int .u8 a0_9, .int .u8 a0_10, .int .u8 a0_11], .slice A1 l1.length c1] w fun e w' => ∃ v0_ : Value, e = .returned (.tuple #[v0_, .int .i64 r2]) ∧ Kd.R (Kd.int .u8) 5 w' w.heap.size (fun _ => True) v0_ r1 ∧ Below w.heap.size w w' := by
  clear hr1 hc1
  unfold sallyportref07_Bytes.f at h
  obtain ⟨t, hc, h⟩ := Option.bind_eq_some_iff.mp h
  generalize l1.length = n at h ⊢
  have HC := Aside0.mk hc
  clear hc
  have H0 := Aside0.mk ((Below.refl _ _).alloc (Nat.le_refl _) _ : Below w.heap.size w (w.alloc (.cells #[.int .u8 a0_0, .int .u8 a0_1, .int .u8 a0_2, .int .u16 a0_3, .int .u8 a0_4, .int .u8 a0_5, .int .u8 a0_6, .int .u8 a0_7, .int .u8 a0_8, .int .u8 a0_9, .int .u8 a0_10, .int .u8 a0_11] 25)))
  have HX := Aside0.mk (blk_new w (.cells #[.int .u8 a0_0, .int .u8 a0_1, .int .u8 a0_2, .int .u16 a0_3, .int .u8 a0_4, .int .u8 a0_5, .int .u8 a0_6, .int .u8 a0_7, .int .u8 a0_8, .int .u8 a0_9, .int .u8 a0_10, .int .u8 a0_11] 25))
  have HS := Aside0.mk (show w.heap.size ≤ (w.alloc (.cells #[.int .u8 a0_0, .int .u8 a0_1, .int .u8 a0_2, .int .u16 a0_3, .int .u8 a0_4, .int .u8 a0_5, .int .u8 a0_6, .int .u8 a0_7, .int .u8 a0_8, .int .u8 a0_9, .int .u8 a0_10, .int .u8 a0_11] 25)).heap.size by simp)
  by_cases ht : t = 0
  · rw [if_pos ht] at h
    subst ht
    by_cases hn : n ≤ 2028
    · rw [if_pos hn] at h
      obtain ⟨t2, e2, h⟩ := Option.bind_eq_some_iff.mp h
      by_cases m2 : ((([] : List Int) ++ [69, a0_0])).length + t2.length < 140737488355328
      case neg => rw [if_neg m2] at h; cases h
      rw [if_pos m2] at h
      have E2 := Aside0.mk e2
      have M2 := Aside0.mk m2
      clear e2 m2
      obtain ⟨t3, e3, h⟩ := Option.bind_eq_some_iff.mp h
      by_cases m3 : (((([] : List Int) ++ [69, a0_0]) ++ t2)).length + t3.length < 140737488355328
      case neg => rw [if_neg m3] at h; cases h
      rw [if_pos m3] at h
      have E3 := Aside0.mk e3
      have M3 := Aside0.mk m3
      clear e3 m3
      by_cases hlen : (((((((([] : List Int) ++ [69, a0_0]) ++ t2) ++ t3) ++ [0, 0, a0_1, a0_2, 0, 0]) ++ [a0_4, a0_5, a0_6, a0_7]) ++ [a0_8, a0_9, a0_10, a0_11])).length = 20
      case neg => rw [if_neg hlen] at h; cases h
      rw [if_pos hlen] at h
      have HLEN := Aside0.mk hlen
      clear hlen
      obtain ⟨s, es, h⟩ := Option.bind_eq_some_iff.mp h
      have ES := Aside0.mk es
      clear es
      injection h with h
      injection h with f1 f2
      subst f1 f2
      have hn' : decide (n ≤ 2028) = true := decide_eq_true hn
      have hn2 : decide (2028 < (n : Int)) = false := decide_eq_false (by omega)
      go_enter Try.func20, Try.ntmps20
      go_wp2_with fail
      generalize w.alloc (.cells #[.int .u8 a0_0, .int .u8 a0_1, .int .u8 a0_2, .int .u16 a0_3, .int .u8 a0_4, .int .u8 a0_5, .int .u8 a0_6, .int .u8 a0_7, .int .u8 a0_8, .int .u8 a0_9, .int .u8 a0_10, .int .u8 a0_11] 25) = w1 at H0 HX HS ⊢
      refine (sallyportref07_Check.calls a0_0 a0_1 a0_2 a0_3 a0_4 a0_5 a0_6 a0_7 a0_8 a0_9 a0_10 a0_11 0 _ HC.out).mono ?_
      rintro e w2 ⟨rfl, hb⟩
      have HB := Aside0.mk hb
      clear hb
      have HO := Aside0.mk (Kd.R_nil (Kd.int .u8) 5 w2 w1.heap.size (fun _ => True))
      have b0 := blk_cell (blk_below HX.out HB.out) 0
      go_wp2_with (first | ((with_reducible refine gate_dst (N := 20) rfl ?_); refine Kd.R_lit (Kd.int .u8) _ 5 ?hg (N := 20) ?hd (xs := ([69, a0_0] : List Int)) (inner := [.int .u8 69, .int .u8 a0_0]) (ok := fun _ => True) (okp := fun _ => True) ?hr ?hp (fun _ hk => hk) trivial (Below.refl _ _) (Nat.le_refl _) (by simp) ?_; (case hd => rfl); (case hg => rfl); (case hr => first | (go_simp; done) | (go_simp; rfl)); (case hp => exact (Reps.one (show Kd.M (Kd.int .u8) _ _ _ 69 [.int .u8 69] from rfl) (Reps.one (show Kd.M (Kd.int .u8) _ _ _ a0_0 [.int .u8 a0_0] from rfl) (Reps.none _ _)))); intro vn0 wn0 ho hb hg_ hnew_; have HO' := Aside0.mk (Kd.R_below HO.out hb); have HB' := Aside0.mk (below_step HB.out hb); have HN := Aside0.mk ho; clear ho hb hg_ hnew_ HO HB b0; have HO := HO'; have HB := HB'; clear HO' HB'; obtain ⟨An0, cn0, en0⟩ := Kd.R_slice HN.out; subst en0) | ((with_reducible refine gate_builtin (b := .append) (xs := #[.tmp 17, .tmp 20]) rfl ?_); at_builtin; refine Kd.R_append_rows (Kd.int .u8) (w0 := w1) w1.heap.size rfl (.tmp 17) (.tmp 20) 26 5 (.int .u8 0) 1 rfl Try.underlying26 info5 rfl (by decide) (by omega) (.slice none 0 0) ([] : List Int) ([69, a0_0] : List Int) _ _ _ (fun _ => True) (fun _ => False) rfl rfl ?aO ?aR (fun _ _ h => h) (fun _ h => h.elim) ?aF ?aB ?aS ?aL ?_; (case aO => exact HO.out); (case aR => exact (Kd.R_reads' HN.out).2.2); (case aF => exact (fun _ _ => trivial)); (case aB => exact HB.out); (case aS => exact HB.out.size); (case aL => exact (by simp only [Nat.mul_one]; have := HLEN.out; simp only [List.length_append, List.length_cons, List.length_nil] at this ⊢; omega)); intro va0 wa0 ho hb hg hat; have HO' := Aside0.mk ho; have HB' := Aside0.mk hb; clear HO HB ho hb hg hat; have HO := HO'; have HB := HB'; clear HO' HB'; generalize hy_ : ([] : List Int) ++ [69, a0_0] = y1 at HO; have NY1 := Aside0.mk (show (([] : List Int) ++ [69, a0_0]) = y1 by rw [← hy_]); clear hy_; obtain ⟨Ao1, co1, eo1⟩ := Kd.R_slice HO.out; subst eo1) | (go_at_call 56; (with_reducible refine (sallyportref07_number.calls k (20 + (n : Int)) 2 t2 _ E2.out).mono ?_); rintro e_ wn1 ⟨vn1, rfl, ho, hb⟩; have HO' := Aside0.mk (Kd.R_below HO.out hb); have HB' := Aside0.mk (below_step HB.out hb); have HN := Aside0.mk ho; clear ho hb HO HB; have HO := HO'; have HB := HB'; clear HO' HB'; obtain ⟨An1, cn1, en1⟩ := Kd.R_slice HN.out; subst en1) | ((with_reducible refine gate_builtin (b := .append) (xs := #[.tmp 22, .tmp 26]) rfl ?_); at_builtin; refine Kd.R_append_rows (Kd.int .u8) (w0 := w1) w1.heap.size rfl (.tmp 22) (.tmp 26) 26 5 (.int .u8 0) 1 rfl Try.underlying26 info5 rfl (by decide) (by omega) (.slice Ao1 y1.length co1) y1 t2 _ _ _ (fun _ => True) (fun _ => False) rfl rfl ?aO ?aR (fun _ _ h => h) (fun _ h => h.elim) ?aF ?aB ?aS ?aL ?_; (case aO => exact HO.out); (case aR => exact (Kd.R_reads' HN.out).2.2); (case aF => exact (fun _ _ => trivial)); (case aB => exact HB.out); (case aS => exact HB.out.size); (case aL => exact (by simp only [Nat.mul_one]; rw [← NY1.out]; have := HLEN.out; simp only [List.length_append, List.length_cons, List.length_nil] at this ⊢; omega)); intro va1 wa1 ho hb hg hat; have HO' := Aside0.mk ho; have HB' := Aside0.mk hb; clear HO HB ho hb hg hat; have HO := HO'; have HB := HB'; clear HO' HB'; generalize hy_ : y1 ++ t2 = y2 at HO; have NY2 := Aside0.mk (show ((([] : List Int) ++ [69, a0_0]) ++ t2) = y2 by rw [← hy_, ← NY1.out]); clear hy_; obtain ⟨Ao2, co2, eo2⟩ := Kd.R_slice HO.out; subst eo2; have b3 := blk_cell (blk_below HX.out HB.out) 3) | (go_at_call 56; (with_reducible refine (sallyportref07_number.calls k (wrap64 a0_3) 2 t3 _ E3.out).mono ?_); rintro e_ wn2 ⟨vn2, rfl, ho, hb⟩; have HO' := Aside0.mk (Kd.R_below HO.out hb); have HB' := Aside0.mk (below_step HB.out hb); have HN := Aside0.mk ho; clear ho hb HO HB b3; have HO := HO'; have HB := HB'; clear HO' HB'; obtain ⟨An2, cn2, en2⟩ := Kd.R_slice HN.out; subst en2) | ((with_reducible refine gate_builtin (b := .append) (xs := #[.tmp 28, .tmp 32]) rfl ?_); at_builtin; refine Kd.R_append_rows (Kd.int .u8) (w0 := w1) w1.heap.size rfl (.tmp 28) (.tmp 32) 26 5 (.int .u8 0) 1 rfl Try.underlying26 info5 rfl (by decide) (by omega) (.slice Ao2 y2.length co2) y2 t3 _ _ _ (fun _ => True) (fun _ => False) rfl rfl ?aO ?aR (fun _ _ h => h) (fun _ h => h.elim) ?aF ?aB ?aS ?aL ?_; (case aO => exact HO.out); (case aR => exact (Kd.R_reads' HN.out).2.2); (case aF => exact (fun _ _ => trivial)); (case aB => exact HB.out); (case aS => exact HB.out.size); (case aL => exact (by simp only [Nat.mul_one]; rw [← NY2.out]; have := HLEN.out; simp only [List.length_append, List.length_cons, List.length_nil] at this ⊢; omega)); intro va2 wa2 ho hb hg hat; have HO' := Aside0.mk ho; have HB' := Aside0.mk hb; clear HO HB ho hb hg hat; have HO := HO'; have HB := HB'; clear HO' HB'; generalize hy_ : y2 ++ t3 = y3 at HO; have NY3 := Aside0.mk (show (((([] : List Int) ++ [69, a0_0]) ++ t2) ++ t3) = y3 by rw [← hy_, ← NY2.out]); clear hy_; obtain ⟨Ao3, co3, eo3⟩ := Kd.R_slice HO.out; subst eo3; have b1 := blk_cell (blk_below HX.out HB.out) 1; have b2 := blk_cell (blk_below HX.out HB.out) 2) | ((with_reducible refine gate_dst (N := 39) rfl ?_); refine Kd.R_lit (Kd.int .u8) _ 5 ?hg (N := 39) ?hd (xs := ([0, 0, a0_1, a0_2, 0, 0] : List Int)) (inner := [.int .u8 0, .int .u8 0, .int .u8 a0_1, .int .u8 a0_2, .int .u8 0, .int .u8 0]) (ok := fun _ => True) (okp := fun _ => True) ?hr ?hp (fun _ hk => hk) trivial (Below.refl _ _) (Nat.le_refl _) (by simp) ?_; (case hd => rfl); (case hg => rfl); (case hr => first | (go_simp; done) | (go_simp; rfl)); (case hp => exact (Reps.one (show Kd.M (Kd.int .u8) _ _ _ 0 [.int .u8 0] from rfl) (Reps.one (show Kd.M (Kd.int .u8) _ _ _ 0 [.int .u8 0] from rfl) (Reps.one (show Kd.M (Kd.int .u8) _ _ _ a0_1 [.int .u8 a0_1] from rfl) (Reps.one (show Kd.M (Kd.int .u8) _ _ _ a0_2 [.int .u8 a0_2] from rfl) (Reps.one (show Kd.M (Kd.int .u8) _ _ _ 0 [.int .u8 0] from rfl) (Reps.one (show Kd.M (Kd.int .u8) _ _ _ 0 [.int .u8 0] from rfl) (Reps.none _ _)))))))); intro vn3 wn3 ho hb hg_ hnew_; have HO' := Aside0.mk (Kd.R_below HO.out hb); have HB' := Aside0.mk (below_step HB.out hb); have HN := Aside0.mk ho; clear ho hb hg_ hnew_ HO HB b1 b2; have HO := HO'; have HB := HB'; clear HO' HB'; obtain ⟨An3, cn3, en3⟩ := Kd.R_slice HN.out; subst en3) | ((with_reducible refine gate_builtin (b := .append) (xs := #[.tmp 34, .tmp 39]) rfl ?_); at_builtin; refine Kd.R_append_rows (Kd.int .u8) (w0 := w1) w1.heap.size rfl (.tmp 34) (.tmp 39) 26 5 (.int .u8 0) 1 rfl Try.underlying26 info5 rfl (by decide) (by omega) (.slice Ao3 y3.length co3) y3 ([0, 0, a0_1, a0_2, 0, 0] : List Int) _ _ _ (fun _ => True) (fun _ => False) rfl rfl ?aO ?aR (fun _ _ h => h) (fun _ h => h.elim) ?aF ?aB ?aS ?aL ?_; (case aO => exact HO.out); (case aR => exact (Kd.R_reads' HN.out).2.2); (case aF => exact (fun _ _ => trivial)); (case aB => exact HB.out); (case aS => exact HB.out.size); (case aL => exact (by simp only [Nat.mul_one]; rw [← NY3.out]; have := HLEN.out; simp only [List.length_append, List.length_cons, List.length_nil] at this ⊢; omega)); intro va3 wa3 ho hb hg hat; have HO' := Aside0.mk ho; have HB' := Aside0.mk hb; clear HO HB ho hb hg hat; have HO := HO'; have HB := HB'; clear HO' HB'; generalize hy_ : y3 ++ [0, 0, a0_1, a0_2, 0, 0] = y4 at HO; have NY4 := Aside0.mk (show ((((([] : List Int) ++ [69, a0_0]) ++ t2) ++ t3) ++ [0, 0, a0_1, a0_2, 0, 0]) = y4 by rw [← hy_, ← NY3.out]); clear hy_; obtain ⟨Ao4, co4, eo4⟩ := Kd.R_slice HO.out; subst eo4) | ((with_reducible refine gate_builtin (b := .append) (xs := #[.tmp 41, .tmp 43]) rfl ?_); at_builtin; have HR := Aside0.mk (C_blk (k := .u8) (o := 4) (xs := [a0_4, a0_5, a0_6, a0_7]) (blk_below HX.out HB.out) (by intro i_ hi_; rcases i_ with _ | (_ | (_ | (_ | i_))); all_goals first | rfl | (exfalso; simp only [List.length_cons, List.length_nil] at hi_; omega)) (by simp)); refine Kd.R_append_rows (Kd.int .u8) (w0 := w1) w1.heap.size rfl (.tmp 41) (.tmp 43) 26 5 (.int .u8 0) 1 rfl Try.underlying26 info5 rfl (by decide) (by omega) (.slice Ao4 y4.length co4) y4 [a0_4, a0_5, a0_6, a0_7] _ _ _ (fun _ => True) (fun _ => False) rfl rfl ?aO ?aR (fun _ _ h => h) (fun _ h => h.elim) ?aF ?aB ?aS ?aL ?_; (case aO => exact HO.out); (case aR => exact HR.out); (case aF => exact (fun _ _ => trivial)); (case aB => exact HB.out); (case aS => exact HB.out.size); (case aL => exact (by simp only [Nat.mul_one]; rw [← NY4.out]; have := HLEN.out; simp only [List.length_append, List.length_cons, List.length_nil] at this ⊢; omega)); intro va4 wa4 ho hb hg hat; have HO' := Aside0.mk ho; have HB' := Aside0.mk hb; clear HO HB ho hb hg hat; have HO := HO'; have HB := HB'; clear HO' HB'; generalize hy_ : y4 ++ [a0_4, a0_5, a0_6, a0_7] = y5 at HO; have NY5 := Aside0.mk (show (((((([] : List Int) ++ [69, a0_0]) ++ t2) ++ t3) ++ [0, 0, a0_1, a0_2, 0, 0]) ++ [a0_4, a0_5, a0_6, a0_7]) = y5 by rw [← hy_, ← NY4.out]); clear hy_; obtain ⟨Ao5, co5, eo5⟩ := Kd.R_slice HO.out; subst eo5) | ((with_reducible refine gate_builtin (b := .append) (xs := #[.tmp 45, .tmp 47]) rfl ?_); at_builtin; have HR := Aside0.mk (C_blk (k := .u8) (o := 8) (xs := [a0_8, a0_9, a0_10, a0_11]) (blk_below HX.out HB.out) (by intro i_ hi_; rcases i_ with _ | (_ | (_ | (_ | i_))); all_goals first | rfl | (exfalso; simp only [List.length_cons, List.length_nil] at hi_; omega)) (by simp)); refine Kd.R_append_rows (Kd.int .u8) (w0 := w1) w1.heap.size rfl (.tmp 45) (.tmp 47) 26 5 (.int .u8 0) 1 rfl Try.underlying26 info5 rfl (by decide) (by omega) (.slice Ao5 y5.length co5) y5 [a0_8, a0_9, a0_10, a0_11] _ _ _ (fun _ => True) (fun _ => False) rfl rfl ?aO ?aR (fun _ _ h => h) (fun _ h => h.elim) ?aF ?aB ?aS ?aL ?_; (case aO => exact HO.out); (case aR => exact HR.out); (case aF => exact (fun _ _ => trivial)); (case aB => exact HB.out); (case aS => exact HB.out.size); (case aL => exact (by simp only [Nat.mul_one]; rw [← NY5.out]; have := HLEN.out; simp only [List.length_append, List.length_cons, List.length_nil] at this ⊢; omega)); intro va5 wa5 ho hb hg hat; have HO' := Aside0.mk ho; have HB' := Aside0.mk hb; clear HO HB ho hb hg hat; have HO := HO'; have HB := HB'; clear HO' HB'; generalize hy_ : y5 ++ [a0_8, a0_9, a0_10, a0_11] = y6 at HO; have NY6 := Aside0.mk (show ((((((([] : List Int) ++ [69, a0_0]) ++ t2) ++ t3) ++ [0, 0, a0_1, a0_2, 0, 0]) ++ [a0_4, a0_5, a0_6, a0_7]) ++ [a0_8, a0_9, a0_10, a0_11]) = y6 by rw [← hy_, ← NY5.out]); clear hy_; obtain ⟨Ao6, co6, eo6⟩ := Kd.R_slice HO.out; subst eo6))
      rw [NY6.out] at ES HLEN
      have e20 := HLEN.out
      obtain ⟨rl, rc, rC⟩ := Kd.R_reads' HO.out
      refine (sallyportref01_Field.calls k _ _ y6 s _ rC rc ES.out).mono ?_
      clear rl rc rC
      rintro e_ w_ ⟨rfl, ⟨nd, rfl⟩⟩
      have ho := Kd.R_drewN HO.out nd
      have hB3 := pw_below_drewN HB.out nd
      clear HO HB
      generalize World.drewN _ nd = w3 at ho hB3 ⊢
      obtain ⟨g, cap, hv, hgb, hgl, cells, hg⟩ := Kd.R_form ho (by rw [e20]; omega)
      injection hv with hv1 hv2 hv3
      subst hv1 hv3
      rw [e20] at ho ⊢
      clear hg hv2
      obtain ⟨hc10, hf10⟩ := Kd.R_celln 0 ho (10 : Int) (by omega) (by omega)
      obtain ⟨ho1, hgr1⟩ := Kd.R_putg ho (10 : Int) ((wrap64 (Int.tdiv (wrap64 s) 256)) % 256)
      obtain ⟨hc11, hf11⟩ := Kd.R_celln 0 ho1 (11 : Int) (by omega) (by omega)
      obtain ⟨ho2, hgr2⟩ := Kd.R_putg ho1 (11 : Int) ((Int.tmod (wrap64 s) 256) % 256)
      simp only [Int.reduceToNat] at hc10 hf10 ho1 hgr1 hc11 hf11 ho2 hgr2
      have HO := Aside0.mk ho2
      have HB : Aside0 (Below w1.heap.size w1 ((w3.setCell ⟨g, 10, none⟩ (.int .u8 ((wrap64 (Int.tdiv (wrap64 s) 256)) % 256))).setCell ⟨g, 11, none⟩ (.int .u8 ((Int.tmod (wrap64 s) 256) % 256)))) := ⟨below_set (below_set hB3 hgb) hgb⟩
      have HLX := Aside0.mk (show ((y6.set 10 ((wrap64 (Int.tdiv (wrap64 s) 256)) % 256)).set 11 ((Int.tmod (wrap64 s) 256) % 256)).length = 20 by rw [List.length_set, List.length_set, e20])
      clear ho ho1 ho2 hgr1 hgr2 hB3 e20
      go_wp2_with fail
      go_ret2
      refine ⟨_, rfl, ?_, below_step H0.out HB.out⟩
      have hR := Kd.R_lower HO.out HS.out
      rw [← NY6.out] at hR
      exact hR
    · rw [if_neg hn] at h
      injection h with h
      injection h with e1 e2
      subst e1 e2
      have hn' : decide (n ≤ 2028) = false := decide_eq_false hn
      have hn2 : decide (2028 < (n : Int)) = true := decide_eq_true (by omega)
      go_enter Try.func20, Try.ntmps20
      go_wp2_with fail
      generalize w.alloc (.cells #[.int .u8 a0_0, .int .u8 a0_1, .int .u8 a0_2, .int .u16 a0_3, .int .u8 a0_4, .int .u8 a0_5, .int .u8 a0_6, .int .u8 a0_7, .int .u8 a0_8, .int .u8 a0_9, .int .u8 a0_10, .int .u8 a0_11] 25) = w1 at H0 HX HS ⊢
      refine (sallyportref07_Check.calls a0_0 a0_1 a0_2 a0_3 a0_4 a0_5 a0_6 a0_7 a0_8 a0_9 a0_10 a0_11 0 _ HC.out).mono ?_
      rintro e w2 ⟨rfl, hb⟩
      have HB := Aside0.mk hb
      clear hb
      go_wp2_with fail
      go_ret2
      exact ⟨_, rfl, Kd.R_nil _ _ _ _ _, below_step H0.out HB.out⟩
  · rw [if_neg ht] at h
    injection h with h
    injection h with e1 e2
    subst e1 e2
    have hc : (t == 0) = false := by simpa using ht
    have hc' : (t != 0) = true := by simpa using ht
    go_enter Try.func20, Try.ntmps20
    go_wp2_with fail
    generalize w.alloc (.cells #[.int .u8 a0_0, .int .u8 a0_1, .int .u8 a0_2, .int .u16 a0_3, .int .u8 a0_4, .int .u8 a0_5, .int .u8 a0_6, .int .u8 a0_7, .int .u8 a0_8, .int .u8 a0_9, .int .u8 a0_10, .int .u8 a0_11] 25) = w1 at H0 HX HS ⊢
    refine (sallyportref07_Check.calls a0_0 a0_1 a0_2 a0_3 a0_4 a0_5 a0_6 a0_7 a0_8 a0_9 a0_10 a0_11 t _ HC.out).mono ?_
    rintro e w2 ⟨rfl, hb⟩
    have HB := Aside0.mk hb
    clear hb
    go_wp2_with fail
    go_ret2
    exact ⟨_, rfl, Kd.R_nil _ _ _ _ _, below_step H0.out HB.out⟩

/-! ### net4_Size: function 23 -/
def net4_Size.f  : Option (Int) := some 20
set_option maxHeartbeats 8000000 in
set_option maxRecDepth 100000 in
theorem net4_Size.calls  (r : Int) (w : World) (h : net4_Size.f  = some r) :
    Calls Try.prog 23 #[] w fun e w' => e = .returned (.int .i64 r) ∧ Drawn0 w w' := by
  have H : (some 20) = some r := h
  clear h
  obtain rfl := Option.some.inj H
  go_enter Try.func23, Try.ntmps23
  go_wp2
  go_ret
  exact ⟨by first | rfl | (simp; done) | (simp [*]; done), by repeat (first | exact Drawn0.refl _ | apply Drawn0.step)⟩

/-! ### sallyportref07_Size: function 24 -/
def sallyportref07_Size.f  : Option (Int) := some 20
set_option maxHeartbeats 8000000 in
set_option maxRecDepth 100000 in
theorem sallyportref07_Size.calls  (r : Int) (w : World) (h : sallyportref07_Size.f  = some r) :
    Calls Try.prog 24 #[] w fun e w' => e = .returned (.int .i64 r) ∧ Drawn0 w w' := by
  have H : (some 20) = some r := h
  clear h
  obtain rfl := Option.some.inj H
  go_enter Try.func24, Try.ntmps24
  go_wp2
  go_ret
  exact ⟨by first | rfl | (simp; done) | (simp [*]; done), by repeat (first | exact Drawn0.refl _ | apply Drawn0.step)⟩

end Go.Proofs.Ytipdajgcepefgaa.P
