/- Contracts of the functions that the statements reach, and the statements: written by a program of this repo (wip/patch_print.py); Lean checks every line; no conditions. -/
import Derived.Test.YtlgiibchnnaceaaPx0
import Derived.Test.YtlgiibchnnaceaaPx18
namespace Go.Proofs.Ytlgiibchnnaceaa.P
open Go.RowKit Go.Proofs.YtlgiibchnnaceaaW.PrintWords Go.Proofs.YtlgiibchnnaceaaW.PrintLast Go.Proofs.YtlgiibchnnaceaaW.PrintMore
attribute [local go_sem] max2_int min2_int max_two min_two max_three min_three max_four min_four Go.Proofs.YtlgiibchnnaceaaW.Own.u16_all   -- for this text's walks alone
set_option linter.unusedVariables false
set_option linter.unusedSimpArgs false

/-! ### sallyportref06_Read: function 42 -/
def sallyportref06_Read.f (k : Nat) (l0 : List Int) : Option (Int × Int × Int × Int) := if (l0.length : Int) < 4 then (some (0, 0, 0, 6)) else (if (((Int.tdiv (rd l0 0) 16) % 256) % 2) = 0 then ((sallyportref06_value.f k l0 0 2).bind fun t407 => ((sallyportref06_value.f k l0 2 2).bind fun t408 => (some ((Int.tdiv (rd l0 0) 32) % 256, IntKind.u16.wrap (Int.tmod t407 4096), IntKind.u16.wrap (t408), 0)))) else (some (0, 0, 0, 60)))
theorem sallyportref06_Read.mono : ∀ a0 k, LeO (sallyportref06_Read.f k a0) (sallyportref06_Read.f (k + 1) a0) := by
  intro a0 k
  unfold sallyportref06_Read.f
  repeat' first
      | (with_reducible exact sallyportref06_value.mono _ _ _ _)
      | (with_reducible exact LeO.refl _)
      | (with_reducible exact LeO.none _)
      | (with_reducible refine LeO.ite ?_ ?_)
      | (with_reducible refine LeO.bind ?_ (fun _ => ?_))
open Go.Proofs.YtlgiibchnnaceaaW.Own in
set_option maxHeartbeats 4000000 in
set_option maxRecDepth 100000 in
theorem sallyportref06_Read.calls (k : Nat) (A0 : Option Addr) (c0 : Nat) (l0 : List Int) (r1 : Int) (r2 : Int) (r3 : Int) (r4 : Int) (w : World) (hr0 : Kd.C (Kd.int .u8) w A0 l0.length l0) (hc0 : l0.length ≤ c0) (h : sallyportref06_Read.f k l0 = some (r1, r2, r3, r4)) :
    Calls Try.prog 42 #[.slice A0 l0.length c0] w fun e w' => e = .returned (.tuple #[.agg #[.int .u8 r1, .int .u16 r2, .int .u16 r3], .int .i64 r4]) ∧ Below w.heap.size w w' := by
  have hu := Try.underlying42
  unfold sallyportref06_Read.f at h
  have HR := Aside0.mk hr0
  have HC := Aside0.mk hc0
  clear hr0 hc0
  by_cases h4 : (l0.length : Int) < 4
  · rw [if_pos h4] at h
    simp only [Option.some.injEq, Prod.mk.injEq] at h
    obtain ⟨rfl, rfl, rfl, rfl⟩ := h
    have d4 : decide ((l0.length : Int) < 4) = true := decide_eq_true h4
    have d4' : decide (l0.length < 4) = true := decide_eq_true (by omega)
    clear h4
    go_enter Try.func42, Try.ntmps42
    go_wp2
    refine bodyPost_ret (results_ct rfl _ _ w.heap.size 42 #[.int .u8 0, .int .u16 0, .int .u16 0] (0, 0) _ rfl ?_ hu rfl (by kernel_rfl)) rfl ?_
    · exact blk_alloc (blk_new _ _) _
    · exact ⟨rfl, below_alloc ((Below.refl _ _).alloc (Nat.le_refl _) _) _⟩
  · rw [if_neg h4] at h
    have d4 : decide ((l0.length : Int) < 4) = false := decide_eq_false h4
    have d4' : decide (l0.length < 4) = false := decide_eq_false (by omega)
    have d0 : decide (0 < (l0.length : Int)) = true := decide_eq_true (by omega)
    have d0' : decide (0 < l0.length) = true := decide_eq_true (by omega)
    obtain ⟨ad, rfl, hx⟩ := Kd.at_int HR.out 0 (by omega) (by omega)
    rw [show (0 : Int).toNat = 0 from rfl, Addr.add_zero'] at hx
    have hlt := World.block_lt_of_cell? w _ hx
    have q0 : (0 < l0.length) = True := eq_true (by omega)
    have q1 : (0 < (l0.length : Int)) = True := eq_true (by omega)
    clear h4
    by_cases h5 : (((Int.tdiv (rd l0 0) 16) % 256) % 2) = 0
    · rw [if_pos h5] at h
      obtain ⟨t1, e1, h⟩ := Option.bind_eq_some_iff.mp h
      obtain ⟨t2, e2, h⟩ := Option.bind_eq_some_iff.mp h
      simp only [Option.some.injEq, Prod.mk.injEq] at h
      obtain ⟨rfl, rfl, rfl, rfl⟩ := h
      have E1 := Aside0.mk e1
      have E2 := Aside0.mk e2
      clear e1 e2
      have d5 : ((Int.tdiv (rd l0 0) 16) % 256 % 2 == 0) = true := by simpa using h5
      have d5' : ((Int.tdiv (rd l0 0) 16) % 256 % 2 != 0) = false := by simpa using h5
      clear h5
      go_enter Try.func42, Try.ntmps42
      go_wp2_with fail
      have hb : Below w.heap.size w ((w.alloc (.cells #[.int .u8 0, .int .u16 0, .int .u16 0] 42)).alloc (.cells #[.int .u8 0, .int .u16 0, .int .u16 0] 42)) := below_alloc ((Below.refl _ _).alloc (Nat.le_refl _) _) _
      have hx1 : ((w.alloc (.cells #[.int .u8 0, .int .u16 0, .int .u16 0] 42)).alloc (.cells #[.int .u8 0, .int .u16 0, .int .u16 0] 42)).heap[w.heap.size]? = some (.cells #[.int .u8 0, .int .u16 0, .int .u16 0] 42 (0, 0)) := blk_alloc (blk_new _ _) _
      generalize (w.alloc (.cells #[.int .u8 0, .int .u16 0, .int .u16 0] 42)).alloc (.cells #[.int .u8 0, .int .u16 0, .int .u16 0] 42) = w1 at hb hx1 ⊢
      have hx2 : w1.cell? ad = some (.int .u8 (rd l0 0)) := (hb.cell hlt).trans hx
      have HR1 := Aside0.mk (Kd.C_below HR.out hb)
      have HB := Aside0.mk hb
      have HX1 := Aside0.mk hx1
      clear hb hx1 hx
      have hlt1 : ad.block < w1.heap.size := World.block_lt_of_cell? w1 _ hx2
      generalize hFA : Act.mk _ _ = FA
      obtain ⟨V, hV⟩ : ∃ V : List (Option Tmp × Value), V = [(some 17, .slice (some ad) l0.length c0), (some 18, .pointer (some ad)), (some 19, .int .u8 (rd l0 0)), (some 20, .int .u8 (Int.tdiv (rd l0 0) 32 % 256)), (some 21, .slice (some ad) l0.length c0), (some 22, .int .i64 t1), (some 23, .int .i64 (Int.tmod t1 4096)), (some 24, .int .u16 (IntKind.u16.wrap (Int.tmod t1 4096))), (some 25, .slice (some ad) l0.length c0), (some 26, .int .i64 t2), (some 27, .int .u16 (IntKind.u16.wrap t2)), (some 28, .agg #[.int .u8 (Int.tdiv (rd l0 0) 32 % 256), .int .u16 (IntKind.u16.wrap (Int.tmod t1 4096)), .int .u16 (IntKind.u16.wrap t2)]), (some 5, .pointer (some ⟨w1.heap.size, 0, none⟩)), (none, undef)] := ⟨_, rfl⟩
      have hs : slotsOk V := by rw [hV]; simp [slotsOk]
      have hltF : ∀ t, t < 30 → t < FA.tmps.size := fun t h => by rw [← hFA]; exact h
      have v0 : V[0]? = some (some 17, .slice (some ad) l0.length c0) := by rw [hV]; rfl
      have v1 : V[1]? = some (some 18, .pointer (some ad)) := by rw [hV]; rfl
      have v2 : V[2]? = some (some 19, .int .u8 (rd l0 0)) := by rw [hV]; rfl
      have v3 : V[3]? = some (some 20, .int .u8 (Int.tdiv (rd l0 0) 32 % 256)) := by rw [hV]; rfl
      have v4 : V[4]? = some (some 21, .slice (some ad) l0.length c0) := by rw [hV]; rfl
      have v5 : V[5]? = some (some 22, .int .i64 t1) := by rw [hV]; rfl
      have v6 : V[6]? = some (some 23, .int .i64 (Int.tmod t1 4096)) := by rw [hV]; rfl
      have v7 : V[7]? = some (some 24, .int .u16 (IntKind.u16.wrap (Int.tmod t1 4096))) := by rw [hV]; rfl
      have v8 : V[8]? = some (some 25, .slice (some ad) l0.length c0) := by rw [hV]; rfl
      have v9 : V[9]? = some (some 26, .int .i64 t2) := by rw [hV]; rfl
      have v10 : V[10]? = some (some 27, .int .u16 (IntKind.u16.wrap t2)) := by rw [hV]; rfl
      have v11 : V[11]? = some (some 28, .agg #[.int .u8 (Int.tdiv (rd l0 0) 32 % 256), .int .u16 (IntKind.u16.wrap (Int.tmod t1 4096)), .int .u16 (IntKind.u16.wrap t2)]) := by rw [hV]; rfl
      have v12 : V[12]? = some (some 5, .pointer (some ⟨w1.heap.size, 0, none⟩)) := by rw [hV]; rfl
      have v13 : V[13]? = some (none, undef) := by rw [hV]; rfl
      refine region_inv (by kernel_rfl) V (by rw [hV]; rfl) hs (by kernel_rfl) (Bld w1 #[.int .u8 0, .int .u16 0, .int .u16 0] #[.int .u8 (Int.tdiv (rd l0 0) 32 % 256), .int .u16 (IntKind.u16.wrap (Int.tmod t1 4096)), .int .u16 (IntKind.u16.wrap t2)] 42 12 13) (fun dn dn' w_ h_ hw_ => hw_.ext (h_ 12 (by simp)) (h_ 13 (by simp))) (Bld.start w1) ?_ ?_
      · intro i_ hi_ dn w' hW hdn hdep
        match i_, hi_ with
        | 0, _ =>
          have e0 := puts_other V 0 dn FA 0 (by rw [hV]; simp)
          rw [show FA.eval (.tmp 0) = .slice (some ad) l0.length c0 from by rw [← hFA]; rfl] at e0
          refine op_run rfl rfl ?_ ⟨⟨_, _, v0, rfl⟩, hW.same (by decide) (by decide)⟩
          generalize (puts V 0 dn FA).eval = ev at e0 ⊢
          clear hdep v0 v1 v2 v3 v4 v5 v6 v7 v8 v9 v10 v11 v12 v13 hs hltF
          go_simp
          first | done | rfl
        | 1, _ =>
          have hd := hdep _ rfl
          simp [Region.binds] at hd
          have hj0 : dn 0 = true := by first | exact hd | simp [hd]
          have e17 := done0 0 17 hs v0 (hltF _ (by decide)) hj0
          have hc : ∀ c, (puts V 0 dn FA).eval (.const c) = c := fun _ => rfl
          refine op_run rfl rfl ?_ ⟨⟨_, _, v1, rfl⟩, hW.same (by decide) (by decide)⟩
          generalize (puts V 0 dn FA).eval = ev at e17 hc ⊢
          clear hdep v0 v1 v2 v3 v4 v5 v6 v7 v8 v9 v10 v11 v12 v13 hs hltF
          go_simp
          first | done | rfl
        | 2, _ =>
          have hd := hdep _ rfl
          simp [Region.binds] at hd
          have hj1 : dn 1 = true := by first | exact hd | simp [hd]
          have e18 := done0 1 18 hs v1 (hltF _ (by decide)) hj1
          have hc1 := (hW.below.cell hlt1).trans hx2
          refine op_run rfl rfl ?_ ⟨⟨_, _, v2, rfl⟩, hW.same (by decide) (by decide)⟩
          generalize (puts V 0 dn FA).eval = ev at e18 ⊢
          clear hdep v0 v1 v2 v3 v4 v5 v6 v7 v8 v9 v10 v11 v12 v13 hs hltF
          go_simp
          first | done | rfl
        | 3, _ =>
          have hd := hdep _ rfl
          simp [Region.binds] at hd
          have hj2 : dn 2 = true := by first | exact hd | simp [hd]
          have e19 := done0 2 19 hs v2 (hltF _ (by decide)) hj2
          have hc : ∀ c, (puts V 0 dn FA).eval (.const c) = c := fun _ => rfl
          refine op_run rfl rfl ?_ ⟨⟨_, _, v3, rfl⟩, hW.same (by decide) (by decide)⟩
          generalize (puts V 0 dn FA).eval = ev at e19 hc ⊢
          clear hdep v0 v1 v2 v3 v4 v5 v6 v7 v8 v9 v10 v11 v12 v13 hs hltF
          go_simp
          first | done | rfl
        | 4, _ =>
          have e0 := puts_other V 0 dn FA 0 (by rw [hV]; simp)
          rw [show FA.eval (.tmp 0) = .slice (some ad) l0.length c0 from by rw [← hFA]; rfl] at e0
          refine op_run rfl rfl ?_ ⟨⟨_, _, v4, rfl⟩, hW.same (by decide) (by decide)⟩
          generalize (puts V 0 dn FA).eval = ev at e0 ⊢
          clear hdep v0 v1 v2 v3 v4 v5 v6 v7 v8 v9 v10 v11 v12 v13 hs hltF
          go_simp
          first | done | rfl
        | 5, _ =>
          have hd := hdep _ rfl
          simp [Region.binds] at hd
          have hj4 : dn 4 = true := by first | exact hd | simp [hd]
          have e21 := done0 4 21 hs v4 (hltF _ (by decide)) hj4
          have hc : ∀ c, (puts V 0 dn FA).eval (.const c) = c := fun _ => rfl
          have hf : ∀ f, (puts V 0 dn FA).eval (.func f) = .func (.func f) #[] #[] := fun _ => rfl
          refine op_call rfl rfl (w1 := w') (f := 49) (args := #[.slice (some ad) l0.length c0, .int .i64 0, .int .i64 2]) (v := .int .i64 t1) ?_ ?_
          · generalize (puts V 0 dn FA).eval = ev at e21 hc hf ⊢
            clear hdep v0 v1 v2 v3 v4 v5 v6 v7 v8 v9 v10 v11 v12 v13 hs hltF
            go_simp
            first | done | rfl
          · refine (sallyportref06_value.calls k (some ad) c0 l0 0 2 t1 _ (Kd.C_below HR1.out hW.below) HC.out E1.out).mono ?_
            rintro e_ w_ ⟨rfl, ⟨nd, rfl⟩⟩
            exact ⟨rfl, ⟨_, _, v5, rfl⟩, hW.quiet (by decide) (by decide)⟩
        | 6, _ =>
          have hd := hdep _ rfl
          simp [Region.binds] at hd
          have hj5 : dn 5 = true := by first | exact hd | simp [hd]
          have e22 := done0 5 22 hs v5 (hltF _ (by decide)) hj5
          have hc : ∀ c, (puts V 0 dn FA).eval (.const c) = c := fun _ => rfl
          refine op_run rfl rfl ?_ ⟨⟨_, _, v6, rfl⟩, hW.same (by decide) (by decide)⟩
          generalize (puts V 0 dn FA).eval = ev at e22 hc ⊢
          clear hdep v0 v1 v2 v3 v4 v5 v6 v7 v8 v9 v10 v11 v12 v13 hs hltF
          go_simp
          first | done | rfl
        | 7, _ =>
          have hd := hdep _ rfl
          simp [Region.binds] at hd
          have hj6 : dn 6 = true := by first | exact hd | simp [hd]
          have e23 := done0 6 23 hs v6 (hltF _ (by decide)) hj6
          refine op_run rfl rfl ?_ ⟨⟨_, _, v7, rfl⟩, hW.same (by decide) (by decide)⟩
          generalize (puts V 0 dn FA).eval = ev at e23 ⊢
          clear hdep v0 v1 v2 v3 v4 v5 v6 v7 v8 v9 v10 v11 v12 v13 hs hltF
          go_simp
          first | done | rfl
        | 8, _ =>
          have e0 := puts_other V 0 dn FA 0 (by rw [hV]; simp)
          rw [show FA.eval (.tmp 0) = .slice (some ad) l0.length c0 from by rw [← hFA]; rfl] at e0
          refine op_run rfl rfl ?_ ⟨⟨_, _, v8, rfl⟩, hW.same (by decide) (by decide)⟩
          generalize (puts V 0 dn FA).eval = ev at e0 ⊢
          clear hdep v0 v1 v2 v3 v4 v5 v6 v7 v8 v9 v10 v11 v12 v13 hs hltF
          go_simp
          first | done | rfl
        | 9, _ =>
          have hd := hdep _ rfl
          simp [Region.binds] at hd
          have hj8 : dn 8 = true := by first | exact hd | simp [hd]
          have e25 := done0 8 25 hs v8 (hltF _ (by decide)) hj8
          have hc : ∀ c, (puts V 0 dn FA).eval (.const c) = c := fun _ => rfl
          have hf : ∀ f, (puts V 0 dn FA).eval (.func f) = .func (.func f) #[] #[] := fun _ => rfl
          refine op_call rfl rfl (w1 := w') (f := 49) (args := #[.slice (some ad) l0.length c0, .int .i64 2, .int .i64 2]) (v := .int .i64 t2) ?_ ?_
          · generalize (puts V 0 dn FA).eval = ev at e25 hc hf ⊢
            clear hdep v0 v1 v2 v3 v4 v5 v6 v7 v8 v9 v10 v11 v12 v13 hs hltF
            go_simp
            first | done | rfl
          · refine (sallyportref06_value.calls k (some ad) c0 l0 2 2 t2 _ (Kd.C_below HR1.out hW.below) HC.out E2.out).mono ?_
            rintro e_ w_ ⟨rfl, ⟨nd, rfl⟩⟩
            exact ⟨rfl, ⟨_, _, v9, rfl⟩, hW.quiet (by decide) (by decide)⟩
        | 10, _ =>
          have hd := hdep _ rfl
          simp [Region.binds] at hd
          have hj9 : dn 9 = true := by first | exact hd | simp [hd]
          have e26 := done0 9 26 hs v9 (hltF _ (by decide)) hj9
          refine op_run rfl rfl ?_ ⟨⟨_, _, v10, rfl⟩, hW.same (by decide) (by decide)⟩
          generalize (puts V 0 dn FA).eval = ev at e26 ⊢
          clear hdep v0 v1 v2 v3 v4 v5 v6 v7 v8 v9 v10 v11 v12 v13 hs hltF
          go_simp
          first | done | rfl
        | 11, _ =>
          have hd := hdep _ rfl
          simp [Region.binds] at hd
          have hj3 : dn 3 = true := by first | exact hd | simp [hd]
          have e20 := done0 3 20 hs v3 (hltF _ (by decide)) hj3
          have hj7 : dn 7 = true := by first | exact hd | simp [hd]
          have e24 := done0 7 24 hs v7 (hltF _ (by decide)) hj7
          have hj10 : dn 10 = true := by first | exact hd | simp [hd]
          have e27 := done0 10 27 hs v10 (hltF _ (by decide)) hj10
          refine op_run rfl rfl ?_ ⟨⟨_, _, v11, rfl⟩, hW.same (by decide) (by decide)⟩
          generalize (puts V 0 dn FA).eval = ev at e20 e24 e27 ⊢
          clear hdep v0 v1 v2 v3 v4 v5 v6 v7 v8 v9 v10 v11 v12 v13 hs hltF
          go_simp
          first | done | rfl
        | 12, _ =>
          have hz := hW.size hdn
          refine op_run (w' := w'.alloc (.cells #[.int .u8 0, .int .u16 0, .int .u16 0] 42)) rfl rfl ?_ ⟨⟨_, _, v12, rfl⟩, hW.alloc hdn (by decide)⟩
          generalize (puts V 0 dn FA).eval = ev
          clear hdep v0 v1 v2 v3 v4 v5 v6 v7 v8 v9 v10 v11 v12 v13 hs hltF
          go_simp
          first | done | rfl | (simp only [hz]; done) | (rw [hz])
        | 13, _ =>
          have hd := hdep _ rfl
          simp [Region.binds] at hd
          have hj12 : dn 12 = true := by first | exact hd | simp [hd]
          have e5 := done0 12 5 hs v12 (hltF _ (by decide)) hj12
          have hj11 : dn 11 = true := by first | exact hd | simp [hd]
          have e28 := done0 11 28 hs v11 (hltF _ (by decide)) hj11
          have hz := hW.zero hj12 hdn
          have hk0 := blk_cell hz 0
          have hf0 := blk_frozen hz 0
          have hk1 := blk_cell hz 1
          have hf1 := blk_frozen hz 1
          have hk2 := blk_cell hz 2
          have hf2 := blk_frozen hz 2
          have HW := Aside0.mk hW
          have HZ := Aside0.mk hz
          clear hz
          have hlay : lay #[.int .u8 0, .int .u16 0, .int .u16 0] 0 [.int .u8 (Int.tdiv (rd l0 0) 32 % 256), .int .u16 (IntKind.u16.wrap (Int.tmod t1 4096)), .int .u16 (IntKind.u16.wrap t2)] = #[.int .u8 (Int.tdiv (rd l0 0) 32 % 256), .int .u16 (IntKind.u16.wrap (Int.tmod t1 4096)), .int .u16 (IntKind.u16.wrap t2)] := by simp only [lay, List.setIfInBounds_toArray, List.set_cons_zero, List.set_cons_succ, Nat.reduceAdd]
          refine op_skip (w' := w'.setCells w1.heap.size 0 [.int .u8 (Int.tdiv (rd l0 0) 32 % 256), .int .u16 (IntKind.u16.wrap (Int.tmod t1 4096)), .int .u16 (IntKind.u16.wrap t2)]) rfl rfl ?_ ⟨⟨_, _, v13, rfl⟩, hW.store hj12 (by decide) (setCells_grown _ _ _) (setCells_blk' hlay HZ.out)⟩
          clear hlay
          generalize (puts V 0 dn FA).eval = ev at e5 e28 ⊢
          clear hdep v0 v1 v2 v3 v4 v5 v6 v7 v8 v9 v10 v11 v12 v13 hs hltF hW
          go_simp
          first | done | rfl
        | n_ + 14, hi_ => exact absurd hi_ (by simp)
      clear hs hltF v0 v1 v2 v3 v4 v5 v6 v7 v8 v9 v10 v11 v12 v13
      intro w' hW
      rw [hV]
      simp only [putAll', Act.put, ← hFA, List.setIfInBounds_toArray, List.set_cons_zero, List.set_cons_succ]
      have hr := hW.row
      have hx := blk_below HX1.out hW.below
      have hbw := below_step HB.out hW.below
      have hlw : w.heap.size < w1.heap.size := blk_lt HX1.out
      generalize w1.heap.size = g at hr hlw ⊢
      have k0 := blk_cell hr 0
      have k1 := blk_cell hr 1
      have k2 := blk_cell hr 2
      have m0 := blk_cell hx 0
      have m1 := blk_cell hx 1
      have m2 := blk_cell hx 2
      have f0 := blk_frozen hx 0
      have f1 := blk_frozen hx 1
      have f2 := blk_frozen hx 2
      have HX := Aside0.mk hx
      have HBW := Aside0.mk hbw
      clear hr hx hbw hW hlw
      go_wp2
      refine bodyPost_ret (results_ct rfl _ _ w.heap.size 42 _ (0, 0) _ rfl (blk_set (blk_set (blk_set HX.out 0 _) 1 _) 2 _) hu rfl (by kernel_rfl)) rfl ?_
      exact ⟨rfl, below_set (below_set (below_set HBW.out (Nat.le_refl _)) (Nat.le_refl _)) (Nat.le_refl _)⟩
    · rw [if_neg h5] at h
      simp only [Option.some.injEq, Prod.mk.injEq] at h
      obtain ⟨rfl, rfl, rfl, rfl⟩ := h
      have d5 : ((Int.tdiv (rd l0 0) 16) % 256 % 2 == 0) = false := by simpa using h5
      have d5' : ((Int.tdiv (rd l0 0) 16) % 256 % 2 != 0) = true := by simpa using h5
      have d6 : ((Int.tdiv (rd l0 0) 16) % 2 != 0) = true := by simp only [bne_iff_ne, ne_eq]; omega
      clear h5
      go_enter Try.func42, Try.ntmps42
      go_wp2
      refine bodyPost_ret (results_ct rfl _ _ w.heap.size 42 #[.int .u8 0, .int .u16 0, .int .u16 0] (0, 0) _ rfl (blk_alloc (blk_new _ _) _) hu rfl (by kernel_rfl)) rfl ?_
      exact ⟨rfl, below_alloc ((Below.refl _ _).alloc (Nat.le_refl _) _) _⟩

end Go.Proofs.Ytlgiibchnnaceaa.P
