/- Contracts of the functions that the statements reach, and the statements: written by a program of this repo (wip/patch_print.py); Lean checks every line; no conditions. -/
import Derived.Test.YtipdajgcepefgaaPx0
import Derived.Test.YtipdajgcepefgaaPx2
import Derived.Test.YtipdajgcepefgaaPx4
namespace Go.Proofs.Ytipdajgcepefgaa.P
open Go.RowKit Go.Proofs.YtipdajgcepefgaaW.PrintWords Go.Proofs.YtipdajgcepefgaaW.PrintLast Go.Proofs.YtipdajgcepefgaaW.PrintMore
attribute [local go_sem] max2_int min2_int max_two min_two max_three min_three max_four min_four Go.Proofs.YtipdajgcepefgaaW.Own.u16_all   -- for this text's walks alone
set_option linter.unusedVariables false
set_option linter.unusedSimpArgs false

/-! ### seg_Bytes: function 43 -/
open Go.Proofs.YtipdajgcepefgaaW.Own in
theorem seg_binary.at (g o len cap : Nat) (v : Int) (w : World) (cs : Array Value) (x y : Value) (hg : w.heap[g]? = some (.cells cs 5 (0, 0))) (hx : cs[o]? = some x) (hy : cs[o + 1]? = some y) (hl : 1 < len) :
    Calls Try.prog 67 #[.slice (some ⟨g, o, none⟩) len cap, .int .u16 v] w fun e w' => e = .returned (.tuple #[]) ∧ w.grownBy w' (some g) ∧ w'.heap[g]? = some (.cells ((cs.setIfInBounds o (.int .u8 (v / 256 % 256))).setIfInBounds (o + 1) (.int .u8 (v % 256))) 5 (0, 0)) := by
  have b1 : 0 < len := by omega
  have h0 : w.cell? ⟨g, o, none⟩ = some x := (blk_cell hg o).trans hx
  have h1 : w.cell? ⟨g, o + 1, none⟩ = some y := (blk_cell hg (o + 1)).trans hy
  have f0 := blk_frozen hg o
  have f1 := blk_frozen hg (o + 1)
  obtain ⟨y', hy'⟩ := cell?_setCell_some (w := w) (p := ⟨g, o, none⟩) (x := .int .u8 (v / 256 % 256)) (q := ⟨g, o + 1, none⟩) (v := y) h1
  have HG := Aside0.mk hg
  clear hg hx hy
  go_enter Try.func67, Try.ntmps67
  go_wp2
  go_end0
  exact ⟨rfl, grown_trans (grown_set _) (grown_set _), blk_set (blk_set HG.out o _) (o + 1) _⟩
def seg_Bytes.ahead (a0_0 : Int) (a0_1 : Int) (a0_2 : Int) (a0_3 : Int) (a0_4 : Int) (a0_5 : Int) (n : Nat) : List Int := [(a0_0) / 256 % 256, (a0_0) % 256, (a0_1) / 256 % 256, (a0_1) % 256, (IntKind.u16.wrap (a0_2 / 65536)) / 256 % 256, (IntKind.u16.wrap (a0_2 / 65536)) % 256, (IntKind.u16.wrap a0_2) / 256 % 256, (IntKind.u16.wrap a0_2) % 256, (IntKind.u16.wrap (a0_3 / 65536)) / 256 % 256, (IntKind.u16.wrap (a0_3 / 65536)) % 256, (IntKind.u16.wrap a0_3) / 256 % 256, (IntKind.u16.wrap a0_3) % 256, (Go.bits .or .u16 20480 (IntKind.u16.wrap a0_4)) / 256 % 256, (Go.bits .or .u16 20480 (IntKind.u16.wrap a0_4)) % 256, (a0_5) / 256 % 256, (a0_5) % 256, 0, 0, 0, 0]
def seg_Bytes.bytes (a0_0 : Int) (a0_1 : Int) (a0_2 : Int) (a0_3 : Int) (a0_4 : Int) (a0_5 : Int) (n : Nat) (s : Int) : List Int := [(a0_0) / 256 % 256, (a0_0) % 256, (a0_1) / 256 % 256, (a0_1) % 256, (IntKind.u16.wrap (a0_2 / 65536)) / 256 % 256, (IntKind.u16.wrap (a0_2 / 65536)) % 256, (IntKind.u16.wrap a0_2) / 256 % 256, (IntKind.u16.wrap a0_2) % 256, (IntKind.u16.wrap (a0_3 / 65536)) / 256 % 256, (IntKind.u16.wrap (a0_3 / 65536)) % 256, (IntKind.u16.wrap a0_3) / 256 % 256, (IntKind.u16.wrap a0_3) % 256, (Go.bits .or .u16 20480 (IntKind.u16.wrap a0_4)) / 256 % 256, (Go.bits .or .u16 20480 (IntKind.u16.wrap a0_4)) % 256, (a0_5) / 256 % 256, (a0_5) % 256, s / 256 % 256, s % 256, 0, 0]
def seg_Bytes.f (k : Nat) (a0_0 : Int) (a0_1 : Int) (a0_2 : Int) (a0_3 : Int) (a0_4 : Int) (a0_5 : Int) (l1 : List Int) : Option (List Int × Int) := (seg_Check.f a0_0 a0_1 a0_2 a0_3 a0_4 a0_5).bind fun t => if t = 0 then (if l1.length ≤ 2028 then ((seg_field.f k (seg_Bytes.ahead a0_0 a0_1 a0_2 a0_3 a0_4 a0_5 l1.length) l1).bind fun s => some (seg_Bytes.bytes a0_0 a0_1 a0_2 a0_3 a0_4 a0_5 l1.length s, 0)) else some ([], 5)) else some ([], t)
theorem seg_Bytes.mono : ∀ a0_0 a0_1 a0_2 a0_3 a0_4 a0_5 b k, LeO (seg_Bytes.f k a0_0 a0_1 a0_2 a0_3 a0_4 a0_5 b) (seg_Bytes.f (k + 1) a0_0 a0_1 a0_2 a0_3 a0_4 a0_5 b) := by
  intro a0_0 a0_1 a0_2 a0_3 a0_4 a0_5 b k
  unfold seg_Bytes.f
  repeat' first
    | (with_reducible exact seg_field.mono _ _ _)
    | (with_reducible exact LeO.refl _)
    | (with_reducible refine LeO.ite ?_ ?_)
    | (with_reducible refine LeO.bind ?_ (fun _ => ?_))
open Go.Proofs.YtipdajgcepefgaaW.Own in
set_option maxHeartbeats 4000000 in
set_option maxRecDepth 100000 in
theorem seg_Bytes.calls (k : Nat) (a0_0 : Int) (a0_1 : Int) (a0_2 : Int) (a0_3 : Int) (a0_4 : Int) (a0_5 : Int) (A1 : Option Addr) (c1 : Nat) (l1 : List Int) (r1 : List Int) (r2 : Int) (w : World) (hr1 : Kd.C (Kd.int .u8) w A1 l1.length l1) (hc1 : l1.length ≤ c1) (h : seg_Bytes.f k a0_0 a0_1 a0_2 a0_3 a0_4 a0_5 l1 = some (r1, r2)) :
    Calls Try.prog 43 #[.agg #[.int .u16 a0_0, .int .u16 a0_1, .int .u32 a0_2, .int .u32 a0_3, .int .u8 a0_4, .int .u16 a0_5], .slice A1 l1.length c1] w fun e w' => ∃ v0_ : Value, e = .returned (.tuple #[v0_, .int .i64 r2]) ∧ Kd.R (Kd.int .u8) 5 w' w.heap.size (fun _ => True) v0_ r1 ∧ Below w.heap.size w w' := by
  unfold seg_Bytes.f at h
  obtain ⟨t, hc, h⟩ := Option.bind_eq_some_iff.mp h
  have HC := Aside0.mk hc
  have HR1 := Aside0.mk hr1
  have HC1 := Aside0.mk hc1
  clear hc hr1 hc1
  have step : ∀ w2 : World, Below (w.alloc (.cells #[.int .u16 a0_0, .int .u16 a0_1, .int .u32 a0_2, .int .u32 a0_3, .int .u8 a0_4, .int .u16 a0_5] 59)).heap.size (w.alloc (.cells #[.int .u16 a0_0, .int .u16 a0_1, .int .u32 a0_2, .int .u32 a0_3, .int .u8 a0_4, .int .u16 a0_5] 59)) w2 → Below w.heap.size w w2 ∧ w2.heap[w.heap.size]? = some (.cells #[.int .u16 a0_0, .int .u16 a0_1, .int .u32 a0_2, .int .u32 a0_3, .int .u8 a0_4, .int .u16 a0_5] 59 (0, 0)) := fun w2 hb =>
    ⟨below_step ((Below.refl _ _).alloc (Nat.le_refl _) _) hb, blk_below (blk_new _ _) hb⟩
  by_cases ht : t = 0
  · rw [if_pos ht] at h
    subst ht
    by_cases hn : l1.length ≤ 2028
    · rw [if_pos hn] at h
      obtain ⟨s, hfs, h⟩ := Option.bind_eq_some_iff.mp h
      have E1 := Aside0.mk hfs
      clear hfs
      injection h with h
      injection h with e1 e2
      subst e1 e2
      have hn' : decide (l1.length ≤ 2028) = true := decide_eq_true hn
      have hn2 : decide (2028 < (l1.length : Int)) = false := decide_eq_false (by omega)
      have hmk : ∀ w, (Instr.makeSlice 26 (.int .i64 20) (.int .i64 20)).run Try.prog w = .ok (.slice (some ⟨w.heap.size, 0, none⟩) 20 20) (w.alloc (.cells #[.int .u8 0, .int .u8 0, .int .u8 0, .int .u8 0, .int .u8 0, .int .u8 0, .int .u8 0, .int .u8 0, .int .u8 0, .int .u8 0, .int .u8 0, .int .u8 0, .int .u8 0, .int .u8 0, .int .u8 0, .int .u8 0, .int .u8 0, .int .u8 0, .int .u8 0, .int .u8 0] 5)) := fun _ => by kernel_rfl
      go_enter Try.func43, Try.ntmps43
      go_wp2_with fail
      refine (seg_Check.calls a0_0 a0_1 a0_2 a0_3 a0_4 a0_5 0 _ HC.out).mono ?_
      rintro e w2 ⟨rfl, hb⟩
      obtain ⟨hb1, hb2⟩ := step w2 hb
      have ST := Aside0.mk (St.made (cs := #[.int .u8 0, .int .u8 0, .int .u8 0, .int .u8 0, .int .u8 0, .int .u8 0, .int .u8 0, .int .u8 0, .int .u8 0, .int .u8 0, .int .u8 0, .int .u8 0, .int .u8 0, .int .u8 0, .int .u8 0, .int .u8 0, .int .u8 0, .int .u8 0, .int .u8 0, .int .u8 0]) (te := 5) hb1 hb2 (Nat.le_refl _))
      clear hb hb1 hb2 step
      go_wp2_with fail
      generalize w2.heap.size = g at ST ⊢
      generalize w2.alloc (.cells #[.int .u8 0, .int .u8 0, .int .u8 0, .int .u8 0, .int .u8 0, .int .u8 0, .int .u8 0, .int .u8 0, .int .u8 0, .int .u8 0, .int .u8 0, .int .u8 0, .int .u8 0, .int .u8 0, .int .u8 0, .int .u8 0, .int .u8 0, .int .u8 0, .int .u8 0, .int .u8 0] 5) = w3 at ST ⊢
      have k0 := blk_cell ST.out.box 0
      go_still_tail 4, (by kernel_rfl)
      change wpList _ _ _ _ _ w3.drew
      have ST := Aside0.mk ST.out.drew
      generalize w3.drew = w4 at ST ⊢
      clear k0
      go_wp2_with fail
      refine (seg_binary.at g 0 20 20 _ _ _ _ _ ST.out.row rfl rfl (by omega)).mono ?_
      rintro e w5 ⟨rfl, hg, hr⟩
      simp only [List.setIfInBounds_toArray, List.set_cons_zero, List.set_cons_succ, Nat.reduceAdd] at hr
      have ST := Aside0.mk (ST.out.grown hg hr)
      clear hg hr
      go_wp2_with fail
      have k1 := blk_cell ST.out.box 1
      go_still_tail 4, (by kernel_rfl)
      change wpList _ _ _ _ _ w5.drew
      have ST := Aside0.mk ST.out.drew
      generalize w5.drew = w6 at ST ⊢
      clear k1
      go_wp2_with fail
      refine (seg_binary.at g 2 18 18 _ _ _ _ _ ST.out.row rfl rfl (by omega)).mono ?_
      rintro e w7 ⟨rfl, hg, hr⟩
      simp only [List.setIfInBounds_toArray, List.set_cons_zero, List.set_cons_succ, Nat.reduceAdd] at hr
      have ST := Aside0.mk (ST.out.grown hg hr)
      clear hg hr
      go_wp2_with fail
      have k2 := blk_cell ST.out.box 2
      go_still_tail 6, (by kernel_rfl)
      change wpList _ _ _ _ _ w7.drew
      have ST := Aside0.mk ST.out.drew
      generalize w7.drew = w8 at ST ⊢
      clear k2
      go_wp2_with fail
      refine (seg_binary.at g 4 16 16 _ _ _ _ _ ST.out.row rfl rfl (by omega)).mono ?_
      rintro e w9 ⟨rfl, hg, hr⟩
      simp only [List.setIfInBounds_toArray, List.set_cons_zero, List.set_cons_succ, Nat.reduceAdd] at hr
      have ST := Aside0.mk (ST.out.grown hg hr)
      clear hg hr
      go_wp2_with fail
      have k2 := blk_cell ST.out.box 2
      go_still_tail 5, (by kernel_rfl)
      change wpList _ _ _ _ _ w9.drew
      have ST := Aside0.mk ST.out.drew
      generalize w9.drew = w10 at ST ⊢
      clear k2
      go_wp2_with fail
      refine (seg_binary.at g 6 14 14 _ _ _ _ _ ST.out.row rfl rfl (by omega)).mono ?_
      rintro e w11 ⟨rfl, hg, hr⟩
      simp only [List.setIfInBounds_toArray, List.set_cons_zero, List.set_cons_succ, Nat.reduceAdd] at hr
      have ST := Aside0.mk (ST.out.grown hg hr)
      clear hg hr
      go_wp2_with fail
      have k3 := blk_cell ST.out.box 3
      go_still_tail 6, (by kernel_rfl)
      change wpList _ _ _ _ _ w11.drew
      have ST := Aside0.mk ST.out.drew
      generalize w11.drew = w12 at ST ⊢
      clear k3
      go_wp2_with fail
      refine (seg_binary.at g 8 12 12 _ _ _ _ _ ST.out.row rfl rfl (by omega)).mono ?_
      rintro e w13 ⟨rfl, hg, hr⟩
      simp only [List.setIfInBounds_toArray, List.set_cons_zero, List.set_cons_succ, Nat.reduceAdd] at hr
      have ST := Aside0.mk (ST.out.grown hg hr)
      clear hg hr
      go_wp2_with fail
      have k3 := blk_cell ST.out.box 3
      go_still_tail 5, (by kernel_rfl)
      change wpList _ _ _ _ _ w13.drew
      have ST := Aside0.mk ST.out.drew
      generalize w13.drew = w14 at ST ⊢
      clear k3
      go_wp2_with fail
      refine (seg_binary.at g 10 10 10 _ _ _ _ _ ST.out.row rfl rfl (by omega)).mono ?_
      rintro e w15 ⟨rfl, hg, hr⟩
      simp only [List.setIfInBounds_toArray, List.set_cons_zero, List.set_cons_succ, Nat.reduceAdd] at hr
      have ST := Aside0.mk (ST.out.grown hg hr)
      clear hg hr
      go_wp2_with fail
      have k4 := blk_cell ST.out.box 4
      go_still_tail 6, (by kernel_rfl)
      change wpList _ _ _ _ _ w15.drew
      have ST := Aside0.mk ST.out.drew
      generalize w15.drew = w16 at ST ⊢
      clear k4
      go_wp2_with fail
      refine (seg_binary.at g 12 8 8 _ _ _ _ _ ST.out.row rfl rfl (by omega)).mono ?_
      rintro e w17 ⟨rfl, hg, hr⟩
      simp only [List.setIfInBounds_toArray, List.set_cons_zero, List.set_cons_succ, Nat.reduceAdd] at hr
      have ST := Aside0.mk (ST.out.grown hg hr)
      clear hg hr
      go_wp2_with fail
      have k5 := blk_cell ST.out.box 5
      go_still_tail 4, (by kernel_rfl)
      change wpList _ _ _ _ _ w17.drew
      have ST := Aside0.mk ST.out.drew
      generalize w17.drew = w18 at ST ⊢
      clear k5
      go_wp2_with fail
      refine (seg_binary.at g 14 6 6 _ _ _ _ _ ST.out.row rfl rfl (by omega)).mono ?_
      rintro e w19 ⟨rfl, hg, hr⟩
      simp only [List.setIfInBounds_toArray, List.set_cons_zero, List.set_cons_succ, Nat.reduceAdd] at hr
      have ST := Aside0.mk (ST.out.grown hg hr)
      clear hg hr
      go_wp2_with fail
      generalize hFA : Act.mk _ _ = FA
      obtain ⟨V, hV⟩ : ∃ V : List (Option Tmp × Value), V = [(some 65, .slice (some ⟨g, 0, none⟩) 20 20), (some 66, .slice (some ⟨g, 16, none⟩) 4 4), (some 67, .slice (some ⟨g, 0, none⟩) 20 20), (some 68, .slice A1 l1.length c1), (some 69, .int .u16 s), (some 70, .tuple #[])] := ⟨_, rfl⟩
      have hs : slotsOk V := by rw [hV]; simp [slotsOk]
      have hltF : ∀ t, t < 72 → t < FA.tmps.size := fun t h => by rw [← hFA]; exact h
      have v0 : V[0]? = some (some 65, .slice (some ⟨g, 0, none⟩) 20 20) := by rw [hV]; rfl
      have v1 : V[1]? = some (some 66, .slice (some ⟨g, 16, none⟩) 4 4) := by rw [hV]; rfl
      have v2 : V[2]? = some (some 67, .slice (some ⟨g, 0, none⟩) 20 20) := by rw [hV]; rfl
      have v3 : V[3]? = some (some 68, .slice A1 l1.length c1) := by rw [hV]; rfl
      have v4 : V[4]? = some (some 69, .int .u16 s) := by rw [hV]; rfl
      have v5 : V[5]? = some (some 70, .tuple #[]) := by rw [hV]; rfl
      refine region_inv (by kernel_rfl) V (by rw [hV]; rfl) hs (by kernel_rfl) (Wrt w w.heap.size #[.int .u16 a0_0, .int .u16 a0_1, .int .u32 a0_2, .int .u32 a0_3, .int .u8 a0_4, .int .u16 a0_5] 59 g #[.int .u8 ((a0_0) / 256 % 256), .int .u8 ((a0_0) % 256), .int .u8 ((a0_1) / 256 % 256), .int .u8 ((a0_1) % 256), .int .u8 ((IntKind.u16.wrap (a0_2 / 65536)) / 256 % 256), .int .u8 ((IntKind.u16.wrap (a0_2 / 65536)) % 256), .int .u8 ((IntKind.u16.wrap a0_2) / 256 % 256), .int .u8 ((IntKind.u16.wrap a0_2) % 256), .int .u8 ((IntKind.u16.wrap (a0_3 / 65536)) / 256 % 256), .int .u8 ((IntKind.u16.wrap (a0_3 / 65536)) % 256), .int .u8 ((IntKind.u16.wrap a0_3) / 256 % 256), .int .u8 ((IntKind.u16.wrap a0_3) % 256), .int .u8 ((Go.bits .or .u16 20480 (IntKind.u16.wrap a0_4)) / 256 % 256), .int .u8 ((Go.bits .or .u16 20480 (IntKind.u16.wrap a0_4)) % 256), .int .u8 ((a0_5) / 256 % 256), .int .u8 ((a0_5) % 256), .int .u8 (0), .int .u8 (0), .int .u8 (0), .int .u8 (0)] #[.int .u8 ((a0_0) / 256 % 256), .int .u8 ((a0_0) % 256), .int .u8 ((a0_1) / 256 % 256), .int .u8 ((a0_1) % 256), .int .u8 ((IntKind.u16.wrap (a0_2 / 65536)) / 256 % 256), .int .u8 ((IntKind.u16.wrap (a0_2 / 65536)) % 256), .int .u8 ((IntKind.u16.wrap a0_2) / 256 % 256), .int .u8 ((IntKind.u16.wrap a0_2) % 256), .int .u8 ((IntKind.u16.wrap (a0_3 / 65536)) / 256 % 256), .int .u8 ((IntKind.u16.wrap (a0_3 / 65536)) % 256), .int .u8 ((IntKind.u16.wrap a0_3) / 256 % 256), .int .u8 ((IntKind.u16.wrap a0_3) % 256), .int .u8 ((Go.bits .or .u16 20480 (IntKind.u16.wrap a0_4)) / 256 % 256), .int .u8 ((Go.bits .or .u16 20480 (IntKind.u16.wrap a0_4)) % 256), .int .u8 ((a0_5) / 256 % 256), .int .u8 ((a0_5) % 256), .int .u8 (s / 256 % 256), .int .u8 (s % 256), .int .u8 (0), .int .u8 (0)] 5 4 5) (fun dn dn' w_ h_ hw_ => hw_.ext (h_ 4 (by simp)) (h_ 5 (by simp))) (Wrt.start ST.out) ?_ ?_
      · intro i_ hi_ dn w' hW hdn hdep
        match i_, hi_ with
        | 0, _ =>
          have e7 := puts_other V 0 dn FA 7 (by rw [hV]; simp)
          rw [show FA.eval (.tmp 7) = .slice (some ⟨g, 0, none⟩) 20 20 from by rw [← hFA]; rfl] at e7
          refine op_run rfl rfl ?_ ⟨⟨_, _, v0, rfl⟩, hW.same (by decide) (by decide)⟩
          generalize (puts V 0 dn FA).eval = ev at e7 ⊢
          clear hdep v0 v1 v2 v3 v4 v5 hs hltF
          go_simp
          first | done | rfl
        | 1, _ =>
          have hd := hdep _ rfl
          simp [Region.binds] at hd
          have hj0 : dn 0 = true := by first | exact hd | simp [hd]
          have e65 := done0 0 65 hs v0 (hltF _ (by decide)) hj0
          have hc : ∀ c, (puts V 0 dn FA).eval (.const c) = c := fun _ => rfl
          refine op_run rfl rfl ?_ ⟨⟨_, _, v1, rfl⟩, hW.same (by decide) (by decide)⟩
          generalize (puts V 0 dn FA).eval = ev at e65 hc ⊢
          clear hdep v0 v1 v2 v3 v4 v5 hs hltF
          go_simp
          first | done | rfl
        | 2, _ =>
          have e7 := puts_other V 0 dn FA 7 (by rw [hV]; simp)
          rw [show FA.eval (.tmp 7) = .slice (some ⟨g, 0, none⟩) 20 20 from by rw [← hFA]; rfl] at e7
          refine op_run rfl rfl ?_ ⟨⟨_, _, v2, rfl⟩, hW.same (by decide) (by decide)⟩
          generalize (puts V 0 dn FA).eval = ev at e7 ⊢
          clear hdep v0 v1 v2 v3 v4 v5 hs hltF
          go_simp
          first | done | rfl
        | 3, _ =>
          have e1 := puts_other V 0 dn FA 1 (by rw [hV]; simp)
          rw [show FA.eval (.tmp 1) = .slice A1 l1.length c1 from by rw [← hFA]; rfl] at e1
          refine op_run rfl rfl ?_ ⟨⟨_, _, v3, rfl⟩, hW.same (by decide) (by decide)⟩
          generalize (puts V 0 dn FA).eval = ev at e1 ⊢
          clear hdep v0 v1 v2 v3 v4 v5 hs hltF
          go_simp
          first | done | rfl
        | 4, _ =>
          have hd := hdep _ rfl
          simp [Region.binds] at hd
          have hj2 : dn 2 = true := by first | exact hd | simp [hd]
          have e67 := done0 2 67 hs v2 (hltF _ (by decide)) hj2
          have hj3 : dn 3 = true := by first | exact hd | simp [hd]
          have e68 := done0 3 68 hs v3 (hltF _ (by decide)) hj3
          have hf : ∀ f, (puts V 0 dn FA).eval (.func f) = .func (.func f) #[] #[] := fun _ => rfl
          refine op_call rfl rfl (w1 := w') (f := 68) (args := #[.slice (some ⟨g, 0, none⟩) 20 20, .slice A1 l1.length c1]) (v := .int .u16 s) ?_ ?_
          · generalize (puts V 0 dn FA).eval = ev at e67 e68 hf ⊢
            clear hdep v0 v1 v2 v3 v4 v5 hs hltF
            go_simp
            first | done | rfl
          · have hSt := hW.before (hW.yet hdn)
            refine (seg_field.calls k (some ⟨g, 0, none⟩) 20 (seg_Bytes.ahead a0_0 a0_1 a0_2 a0_3 a0_4 a0_5 l1.length) A1 c1 l1 s _ (C_blk (k := .u8) (o := 0) (xs := seg_Bytes.ahead a0_0 a0_1 a0_2 a0_3 a0_4 a0_5 l1.length) hSt.row (by intro i_ hi_; rcases i_ with _ | (_ | (_ | (_ | (_ | (_ | (_ | (_ | (_ | (_ | (_ | (_ | (_ | (_ | (_ | (_ | (_ | (_ | (_ | (_ | i_))))))))))))))))))); all_goals first | rfl | (exfalso; simp only [seg_Bytes.ahead, List.length_cons, List.length_nil] at hi_; omega)) (by simp [seg_Bytes.ahead])) (by simp [seg_Bytes.ahead]) (Kd.C_below HR1.out hSt.below) HC1.out E1.out).mono ?_
            rintro e_ w_ ⟨rfl, ⟨nd, rfl⟩⟩
            exact ⟨rfl, ⟨_, _, v4, rfl⟩, hW.call hdn (by decide)⟩
        | 5, _ =>
          have hd := hdep _ rfl
          simp [Region.binds] at hd
          have hj1 : dn 1 = true := by first | exact hd | simp [hd]
          have e66 := done0 1 66 hs v1 (hltF _ (by decide)) hj1
          have hj4 : dn 4 = true := by first | exact hd | simp [hd]
          have e69 := done0 4 69 hs v4 (hltF _ (by decide)) hj4
          have hf : ∀ f, (puts V 0 dn FA).eval (.func f) = .func (.func f) #[] #[] := fun _ => rfl
          refine op_call rfl rfl (w1 := w') (f := 67) (args := #[.slice (some ⟨g, 16, none⟩) 4 4, .int .u16 s]) (v := .tuple #[]) ?_ ?_
          · generalize (puts V 0 dn FA).eval = ev at e66 e69 hf ⊢
            clear hdep v0 v1 v2 v3 v4 v5 hs hltF
            go_simp
            first | done | rfl
          · refine (seg_binary.at g 16 4 4 _ _ _ _ _ (hW.before hdn).row rfl rfl (by omega)).mono ?_
            rintro e_ w_ ⟨rfl, hg, hr⟩
            simp only [List.setIfInBounds_toArray, List.set_cons_zero, List.set_cons_succ, Nat.reduceAdd] at hr
            exact ⟨rfl, ⟨_, _, v5, rfl⟩, hW.write hj4 hdn (by decide) hg hr⟩
        | n_ + 6, hi_ => exact absurd hi_ (by simp)
      clear hs hltF v0 v1 v2 v3 v4 v5 ST
      intro w' hW
      have ST := Aside0.mk hW.all
      clear hW
      rw [hV]
      simp only [putAll', Act.put, ← hFA, List.setIfInBounds_toArray, List.set_cons_zero, List.set_cons_succ]
      go_wp2_with fail
      go_ret2
      exact ⟨_, rfl, row_own (xs := seg_Bytes.bytes a0_0 a0_1 a0_2 a0_3 a0_4 a0_5 l1.length s) ST.out.row rfl ST.out.ge (by unfold maxLen; simp [seg_Bytes.bytes]), ST.out.below⟩
    · rw [if_neg hn] at h
      injection h with h
      injection h with e1 e2
      subst e1 e2
      have hn' : decide (l1.length ≤ 2028) = false := decide_eq_false hn
      have hn2 : decide (2028 < (l1.length : Int)) = true := decide_eq_true (by omega)
      go_enter Try.func43, Try.ntmps43
      go_wp2_with fail
      refine (seg_Check.calls a0_0 a0_1 a0_2 a0_3 a0_4 a0_5 0 _ HC.out).mono ?_
      rintro e w2 ⟨rfl, hb⟩
      have HB := Aside0.mk (step w2 hb).1
      clear hb step
      go_wp2_with fail
      go_ret2
      exact ⟨_, rfl, Kd.R_nil _ _ _ _ _, HB.out⟩
  · rw [if_neg ht] at h
    injection h with h
    injection h with e1 e2
    subst e1 e2
    have hc : (t == 0) = false := by simpa using ht
    have hc' : (t != 0) = true := by simpa using ht
    go_enter Try.func43, Try.ntmps43
    go_wp2_with fail
    refine (seg_Check.calls a0_0 a0_1 a0_2 a0_3 a0_4 a0_5 t _ HC.out).mono ?_
    rintro e w2 ⟨rfl, hb⟩
    have HB := Aside0.mk (step w2 hb).1
    clear hb step
    go_wp2_with fail
    go_ret2
    exact ⟨_, rfl, Kd.R_nil _ _ _ _ _, HB.out⟩

end Go.Proofs.Ytipdajgcepefgaa.P
