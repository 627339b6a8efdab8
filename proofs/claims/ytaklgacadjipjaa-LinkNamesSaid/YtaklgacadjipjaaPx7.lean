/- Contracts of the functions that the statements reach, and the statements: written by a program of this repo (wip/patch_print.py); Lean checks every line; no conditions. -/
import Derived.Test.YtaklgacadjipjaaPx0
import Derived.Test.YtaklgacadjipjaaPx6
namespace Go.Proofs.Ytaklgacadjipjaa.P
open Go.RowKit Go.Proofs.YtaklgacadjipjaaW.PrintWords Go.Proofs.YtaklgacadjipjaaW.PrintLast Go.Proofs.YtaklgacadjipjaaW.PrintMore
attribute [local go_sem] max2_int min2_int max_two min_two max_three min_three max_four min_four Go.Proofs.YtaklgacadjipjaaW.Own.u16_all   -- for this text's walks alone
set_option linter.unusedVariables false
set_option linter.unusedSimpArgs false

/-! ### link_Read: function 22 -/
def link_Read.f (l0 : List Int) : Option (Int × Int × Int × Int × Int × Int × Int × Int × Int × Int × Int × Int × Int × Int) := if (l0.length : Int) < 14 then (some (0, 0, 0, 0, 0, 0, 0, 0, 0, 0, 0, 0, 0, 6)) else ((link_word.f (l0.drop 12)).bind fun t => some (rd l0 0, rd l0 1, rd l0 2, rd l0 3, rd l0 4, rd l0 5, rd l0 6, rd l0 7, rd l0 8, rd l0 9, rd l0 10, rd l0 11, t, 0))
open Go.Proofs.YtaklgacadjipjaaW.Own in
set_option maxHeartbeats 4000000 in
set_option maxRecDepth 100000 in
theorem link_Read.calls (A0 : Option Addr) (c0 : Nat) (l0 : List Int) (r1 : Int) (r2 : Int) (r3 : Int) (r4 : Int) (r5 : Int) (r6 : Int) (r7 : Int) (r8 : Int) (r9 : Int) (r10 : Int) (r11 : Int) (r12 : Int) (r13 : Int) (r14 : Int) (w : World) (hr0 : Kd.C (Kd.int .u8) w A0 l0.length l0) (hc0 : l0.length ≤ c0) (h : link_Read.f l0 = some (r1, r2, r3, r4, r5, r6, r7, r8, r9, r10, r11, r12, r13, r14)) :
    Calls Try.prog 22 #[.slice A0 l0.length c0] w fun e w' => e = .returned (.tuple #[.agg #[.int .u8 r1, .int .u8 r2, .int .u8 r3, .int .u8 r4, .int .u8 r5, .int .u8 r6, .int .u8 r7, .int .u8 r8, .int .u8 r9, .int .u8 r10, .int .u8 r11, .int .u8 r12, .int .u16 r13], .int .i64 r14]) ∧ Below w.heap.size w w' := by
  have hu := Try.underlying25
  unfold link_Read.f at h
  by_cases h4 : (l0.length : Int) < 14
  · rw [if_pos h4] at h
    simp only [Option.some.injEq, Prod.mk.injEq] at h
    obtain ⟨rfl, rfl, rfl, rfl, rfl, rfl, rfl, rfl, rfl, rfl, rfl, rfl, rfl, rfl⟩ := h
    have d4 : decide ((l0.length : Int) < 14) = true := decide_eq_true h4
    have d4' : decide (l0.length < 14) = true := decide_eq_true (by omega)
    clear h4 hr0 hc0
    go_enter Try.func22, Try.ntmps22
    go_wp2
    refine bodyPost_ret (results_ct rfl _ _ w.heap.size 25 #[.int .u8 0, .int .u8 0, .int .u8 0, .int .u8 0, .int .u8 0, .int .u8 0, .int .u8 0, .int .u8 0, .int .u8 0, .int .u8 0, .int .u8 0, .int .u8 0, .int .u16 0] (0, 0) _ rfl ?_ hu rfl (by kernel_rfl)) rfl ?_
    · exact blk_new _ _
    · exact ⟨rfl, (Below.refl _ _).alloc (Nat.le_refl _) _⟩
  · rw [if_neg h4] at h
    obtain ⟨t1, e1, h⟩ := Option.bind_eq_some_iff.mp h
    simp only [Option.some.injEq, Prod.mk.injEq] at h
    obtain ⟨rfl, rfl, rfl, rfl, rfl, rfl, rfl, rfl, rfl, rfl, rfl, rfl, rfl, rfl⟩ := h
    have d4 : decide ((l0.length : Int) < 14) = false := decide_eq_false h4
    have d4' : decide (l0.length < 14) = false := decide_eq_false (by omega)
    have hlen : 14 ≤ l0.length := by omega
    have E1 := Aside0.mk e1
    clear h4 e1
    obtain ⟨i5, hi5, _, hsz5, _⟩ := info_parts info5
    go_enter Try.func22, Try.ntmps22
    go_wp2_with fail
    have hb : Below w.heap.size w (w.alloc (.cells #[.int .u8 0, .int .u8 0, .int .u8 0, .int .u8 0, .int .u8 0, .int .u8 0, .int .u8 0, .int .u8 0, .int .u8 0, .int .u8 0, .int .u8 0, .int .u8 0, .int .u16 0] 25)) := (Below.refl _ _).alloc (Nat.le_refl _) _
    have hx1 := blk_new w (.cells #[.int .u8 0, .int .u8 0, .int .u8 0, .int .u8 0, .int .u8 0, .int .u8 0, .int .u8 0, .int .u8 0, .int .u8 0, .int .u8 0, .int .u8 0, .int .u8 0, .int .u16 0] 25)
    generalize w.alloc (.cells #[.int .u8 0, .int .u8 0, .int .u8 0, .int .u8 0, .int .u8 0, .int .u8 0, .int .u8 0, .int .u8 0, .int .u8 0, .int .u8 0, .int .u8 0, .int .u8 0, .int .u16 0] 25) = w1 at hb hx1 ⊢
    have hr1 := Kd.C_below hr0 hb
    obtain ⟨ad, rfl, g0, gS⟩ := whole_of hr1 (by omega)
    obtain ⟨a6, d6, c6, q6⟩ := part_of (P := Try.prog) Try.underlying26 hi5 hsz5 hr1 hc0 6 (by omega)
    obtain ⟨a12, d12, c12, q12⟩ := part_of (P := Try.prog) Try.underlying26 hi5 hsz5 hr1 hc0 12 (by omega)
    have HB := Aside0.mk hb
    have HX1 := Aside0.mk hx1
    have G0 := Aside0.mk g0
    have GS := Aside0.mk gS
    have hltA := World.block_lt_of_cell? w1 _ g0
    have HLA := Aside0.mk hltA
    clear hb hx1 hr0 hr1 hi5 hsz5 g0 gS hltA
    have ar0 := array_at (P := Try.prog) (arr := 22) (a := some ad) (len := l0.length) (cap := c0) Try.underlying22 (by omega)
    have cut6 := q6.cut
    simp only [Int.cast_ofNat_Int] at cut6
    have ln6 := q6.len
    have Q6 := Aside0.mk q6
    clear q6
    have cut12 := q12.cut
    simp only [Int.cast_ofNat_Int] at cut12
    have ln12 := q12.len
    have Q12 := Aside0.mk q12
    clear q12
    have ar6 := array_at (P := Try.prog) (arr := 22) (a := some a6) (len := d6.length) (cap := c6) Try.underlying22 (by omega)
    have HL := Aside0.mk (And.intro hlen (And.intro ln6 ln12))
    clear hlen ln6 ln12
    generalize hFA : Act.mk _ _ = FA
    obtain ⟨V, hV⟩ : ∃ V : List (Option Tmp × Value), V = [(some 9, .slice (some ad) l0.length c0), (some 10, .slice (some ad) l0.length c0), (some 11, .pointer (some ad)), (some 12, .agg #[.int .u8 (rd l0 0), .int .u8 (rd l0 1), .int .u8 (rd l0 2), .int .u8 (rd l0 3), .int .u8 (rd l0 4), .int .u8 (rd l0 5)]), (some 13, .slice (some ad) l0.length c0), (some 14, .slice (some a6) d6.length c6), (some 15, .pointer (some a6)), (some 16, .agg #[.int .u8 (rd l0 6), .int .u8 (rd l0 7), .int .u8 (rd l0 8), .int .u8 (rd l0 9), .int .u8 (rd l0 10), .int .u8 (rd l0 11)]), (some 17, .slice (some ad) l0.length c0), (some 18, .slice (some a12) d12.length c12), (some 19, .int .u16 t1), (some 20, .agg #[.int .u8 (rd l0 0), .int .u8 (rd l0 1), .int .u8 (rd l0 2), .int .u8 (rd l0 3), .int .u8 (rd l0 4), .int .u8 (rd l0 5), .int .u8 (rd l0 6), .int .u8 (rd l0 7), .int .u8 (rd l0 8), .int .u8 (rd l0 9), .int .u8 (rd l0 10), .int .u8 (rd l0 11), .int .u16 t1]), (some 4, .pointer (some ⟨w1.heap.size, 0, none⟩)), (none, undef)] := ⟨_, rfl⟩
    have hs : slotsOk V := by rw [hV]; simp [slotsOk]
    have hltF : ∀ t, t < 22 → t < FA.tmps.size := fun t h => by rw [← hFA]; exact h
    have v0 : V[0]? = some (some 9, .slice (some ad) l0.length c0) := by rw [hV]; rfl
    have v1 : V[1]? = some (some 10, .slice (some ad) l0.length c0) := by rw [hV]; rfl
    have v2 : V[2]? = some (some 11, .pointer (some ad)) := by rw [hV]; rfl
    have v3 : V[3]? = some (some 12, .agg #[.int .u8 (rd l0 0), .int .u8 (rd l0 1), .int .u8 (rd l0 2), .int .u8 (rd l0 3), .int .u8 (rd l0 4), .int .u8 (rd l0 5)]) := by rw [hV]; rfl
    have v4 : V[4]? = some (some 13, .slice (some ad) l0.length c0) := by rw [hV]; rfl
    have v5 : V[5]? = some (some 14, .slice (some a6) d6.length c6) := by rw [hV]; rfl
    have v6 : V[6]? = some (some 15, .pointer (some a6)) := by rw [hV]; rfl
    have v7 : V[7]? = some (some 16, .agg #[.int .u8 (rd l0 6), .int .u8 (rd l0 7), .int .u8 (rd l0 8), .int .u8 (rd l0 9), .int .u8 (rd l0 10), .int .u8 (rd l0 11)]) := by rw [hV]; rfl
    have v8 : V[8]? = some (some 17, .slice (some ad) l0.length c0) := by rw [hV]; rfl
    have v9 : V[9]? = some (some 18, .slice (some a12) d12.length c12) := by rw [hV]; rfl
    have v10 : V[10]? = some (some 19, .int .u16 t1) := by rw [hV]; rfl
    have v11 : V[11]? = some (some 20, .agg #[.int .u8 (rd l0 0), .int .u8 (rd l0 1), .int .u8 (rd l0 2), .int .u8 (rd l0 3), .int .u8 (rd l0 4), .int .u8 (rd l0 5), .int .u8 (rd l0 6), .int .u8 (rd l0 7), .int .u8 (rd l0 8), .int .u8 (rd l0 9), .int .u8 (rd l0 10), .int .u8 (rd l0 11), .int .u16 t1]) := by rw [hV]; rfl
    have v12 : V[12]? = some (some 4, .pointer (some ⟨w1.heap.size, 0, none⟩)) := by rw [hV]; rfl
    have v13 : V[13]? = some (none, undef) := by rw [hV]; rfl
    refine region_inv (by kernel_rfl) V (by rw [hV]; rfl) hs (by kernel_rfl) (Bld w1 #[.int .u8 0, .int .u8 0, .int .u8 0, .int .u8 0, .int .u8 0, .int .u8 0, .int .u8 0, .int .u8 0, .int .u8 0, .int .u8 0, .int .u8 0, .int .u8 0, .int .u16 0] #[.int .u8 (rd l0 0), .int .u8 (rd l0 1), .int .u8 (rd l0 2), .int .u8 (rd l0 3), .int .u8 (rd l0 4), .int .u8 (rd l0 5), .int .u8 (rd l0 6), .int .u8 (rd l0 7), .int .u8 (rd l0 8), .int .u8 (rd l0 9), .int .u8 (rd l0 10), .int .u8 (rd l0 11), .int .u16 t1] 25 12 13) (fun dn dn' w_ h_ hw_ => hw_.ext (h_ 12 (by simp)) (h_ 13 (by simp))) (Bld.start w1) ?_ ?_
    · intro i_ hi_ dn w' hW hdn hdep
      match i_, hi_ with
      | 0, _ =>
        have e0 := puts_other V 0 dn FA 0 (by rw [hV]; simp)
        rw [show FA.eval (.tmp 0) = .slice (some ad) l0.length c0 from by rw [← hFA]; rfl] at e0
        refine op_run rfl rfl ?_ ⟨⟨_, _, v0, rfl⟩, hW.same (by decide) (by decide)⟩
        generalize (puts V 0 dn FA).eval = ev at e0 ⊢
        clear hdep v0 v1 v2 v3 v4 v5 v6 v7 v8 v9 v10 v11 v12 v13 hs hltF
        go_simp
        first | done | rfl
      | 1, _ =>
        have hd := hdep _ rfl
        simp [Region.binds] at hd
        have hj0 : dn 0 = true := by first | exact hd | simp [hd]
        have e9 := done0 0 9 hs v0 (hltF _ (by decide)) hj0
        have hc : ∀ c, (puts V 0 dn FA).eval (.const c) = c := fun _ => rfl
        refine op_run rfl rfl ?_ ⟨⟨_, _, v1, rfl⟩, hW.same (by decide) (by decide)⟩
        generalize (puts V 0 dn FA).eval = ev at e9 hc ⊢
        clear hdep v0 v1 v2 v3 v4 v5 v6 v7 v8 v9 v10 v11 v12 v13 hs hltF
        go_simp
        first | done | rfl
      | 2, _ =>
        have hd := hdep _ rfl
        simp [Region.binds] at hd
        have hj1 : dn 1 = true := by first | exact hd | simp [hd]
        have e10 := done0 1 10 hs v1 (hltF _ (by decide)) hj1
        refine op_run rfl rfl ?_ ⟨⟨_, _, v2, rfl⟩, hW.same (by decide) (by decide)⟩
        generalize (puts V 0 dn FA).eval = ev at e10 ⊢
        clear hdep v0 v1 v2 v3 v4 v5 v6 v7 v8 v9 v10 v11 v12 v13 hs hltF
        go_simp
        first | done | rfl
      | 3, _ =>
        have hd := hdep _ rfl
        simp [Region.binds] at hd
        have hj2 : dn 2 = true := by first | exact hd | simp [hd]
        have e11 := done0 2 11 hs v2 (hltF _ (by decide)) hj2
        have u0 := G0.out
        have u1 := GS.out 1 (by decide) (by have := HL.out; omega)
        have u2 := GS.out 2 (by decide) (by have := HL.out; omega)
        have u3 := GS.out 3 (by decide) (by have := HL.out; omega)
        have u4 := GS.out 4 (by decide) (by have := HL.out; omega)
        have u5 := GS.out 5 (by decide) (by have := HL.out; omega)
        have lt_ := World.block_lt_of_cell? w1 _ u0
        replace u0 := (hW.below.cell (by exact lt_)).trans u0
        replace u1 := (hW.below.cell (by exact lt_)).trans u1
        replace u2 := (hW.below.cell (by exact lt_)).trans u2
        replace u3 := (hW.below.cell (by exact lt_)).trans u3
        replace u4 := (hW.below.cell (by exact lt_)).trans u4
        replace u5 := (hW.below.cell (by exact lt_)).trans u5
        clear lt_
        simp only [Nat.reduceAdd, Int.cast_ofNat_Int] at u1 u2 u3 u4 u5
        refine op_run rfl rfl ?_ ⟨⟨_, _, v3, rfl⟩, hW.same (by decide) (by decide)⟩
        generalize (puts V 0 dn FA).eval = ev at e11 ⊢
        clear hdep v0 v1 v2 v3 v4 v5 v6 v7 v8 v9 v10 v11 v12 v13 hs hltF
        go_simp
        first | done | rfl
      | 4, _ =>
        have e0 := puts_other V 0 dn FA 0 (by rw [hV]; simp)
        rw [show FA.eval (.tmp 0) = .slice (some ad) l0.length c0 from by rw [← hFA]; rfl] at e0
        refine op_run rfl rfl ?_ ⟨⟨_, _, v4, rfl⟩, hW.same (by decide) (by decide)⟩
        generalize (puts V 0 dn FA).eval = ev at e0 ⊢
        clear hdep v0 v1 v2 v3 v4 v5 v6 v7 v8 v9 v10 v11 v12 v13 hs hltF
        go_simp
        first | done | rfl
      | 5, _ =>
        have hd := hdep _ rfl
        simp [Region.binds] at hd
        have hj4 : dn 4 = true := by first | exact hd | simp [hd]
        have e13 := done0 4 13 hs v4 (hltF _ (by decide)) hj4
        have hc : ∀ c, (puts V 0 dn FA).eval (.const c) = c := fun _ => rfl
        refine op_run rfl rfl ?_ ⟨⟨_, _, v5, rfl⟩, hW.same (by decide) (by decide)⟩
        generalize (puts V 0 dn FA).eval = ev at e13 hc ⊢
        clear hdep v0 v1 v2 v3 v4 v5 v6 v7 v8 v9 v10 v11 v12 v13 hs hltF
        go_simp
        first | done | rfl
      | 6, _ =>
        have hd := hdep _ rfl
        simp [Region.binds] at hd
        have hj5 : dn 5 = true := by first | exact hd | simp [hd]
        have e14 := done0 5 14 hs v5 (hltF _ (by decide)) hj5
        refine op_run rfl rfl ?_ ⟨⟨_, _, v6, rfl⟩, hW.same (by decide) (by decide)⟩
        generalize (puts V 0 dn FA).eval = ev at e14 ⊢
        clear hdep v0 v1 v2 v3 v4 v5 v6 v7 v8 v9 v10 v11 v12 v13 hs hltF
        go_simp
        first | done | rfl
      | 7, _ =>
        have hd := hdep _ rfl
        simp [Region.binds] at hd
        have hj6 : dn 6 = true := by first | exact hd | simp [hd]
        have e15 := done0 6 15 hs v6 (hltF _ (by decide)) hj6
        have u0 := Q6.out.at0 (by have := HL.out; omega)
        have u1 := Q6.out.atS 1 (by decide) (by have := HL.out; omega)
        have u2 := Q6.out.atS 2 (by decide) (by have := HL.out; omega)
        have u3 := Q6.out.atS 3 (by decide) (by have := HL.out; omega)
        have u4 := Q6.out.atS 4 (by decide) (by have := HL.out; omega)
        have u5 := Q6.out.atS 5 (by decide) (by have := HL.out; omega)
        have lt_ := World.block_lt_of_cell? w1 _ u0
        replace u0 := (hW.below.cell (by exact lt_)).trans u0
        replace u1 := (hW.below.cell (by exact lt_)).trans u1
        replace u2 := (hW.below.cell (by exact lt_)).trans u2
        replace u3 := (hW.below.cell (by exact lt_)).trans u3
        replace u4 := (hW.below.cell (by exact lt_)).trans u4
        replace u5 := (hW.below.cell (by exact lt_)).trans u5
        clear lt_
        simp only [Nat.reduceAdd, Int.cast_ofNat_Int] at u0 u1 u2 u3 u4 u5
        refine op_run rfl rfl ?_ ⟨⟨_, _, v7, rfl⟩, hW.same (by decide) (by decide)⟩
        generalize (puts V 0 dn FA).eval = ev at e15 ⊢
        clear hdep v0 v1 v2 v3 v4 v5 v6 v7 v8 v9 v10 v11 v12 v13 hs hltF
        go_simp
        first | done | rfl
      | 8, _ =>
        have e0 := puts_other V 0 dn FA 0 (by rw [hV]; simp)
        rw [show FA.eval (.tmp 0) = .slice (some ad) l0.length c0 from by rw [← hFA]; rfl] at e0
        refine op_run rfl rfl ?_ ⟨⟨_, _, v8, rfl⟩, hW.same (by decide) (by decide)⟩
        generalize (puts V 0 dn FA).eval = ev at e0 ⊢
        clear hdep v0 v1 v2 v3 v4 v5 v6 v7 v8 v9 v10 v11 v12 v13 hs hltF
        go_simp
        first | done | rfl
      | 9, _ =>
        have hd := hdep _ rfl
        simp [Region.binds] at hd
        have hj8 : dn 8 = true := by first | exact hd | simp [hd]
        have e17 := done0 8 17 hs v8 (hltF _ (by decide)) hj8
        have hc : ∀ c, (puts V 0 dn FA).eval (.const c) = c := fun _ => rfl
        refine op_run rfl rfl ?_ ⟨⟨_, _, v9, rfl⟩, hW.same (by decide) (by decide)⟩
        generalize (puts V 0 dn FA).eval = ev at e17 hc ⊢
        clear hdep v0 v1 v2 v3 v4 v5 v6 v7 v8 v9 v10 v11 v12 v13 hs hltF
        go_simp
        first | done | rfl
      | 10, _ =>
        have hd := hdep _ rfl
        simp [Region.binds] at hd
        have hj9 : dn 9 = true := by first | exact hd | simp [hd]
        have e18 := done0 9 18 hs v9 (hltF _ (by decide)) hj9
        have hf : ∀ f, (puts V 0 dn FA).eval (.func f) = .func (.func f) #[] #[] := fun _ => rfl
        refine op_call rfl rfl (w1 := w') (f := 39) (args := #[.slice (some a12) d12.length c12]) (v := .int .u16 t1) ?_ ?_
        · generalize (puts V 0 dn FA).eval = ev at e18 hf ⊢
          clear hdep v0 v1 v2 v3 v4 v5 v6 v7 v8 v9 v10 v11 v12 v13 hs hltF
          go_simp
          first | done | rfl
        · refine (link_word.calls (some a12) c12 d12 t1 _ (Kd.C_below Q12.out.C hW.below) Q12.out.cap (by rw [Q12.out.drop]; exact E1.out)).mono ?_
          rintro e_ w_ ⟨rfl, ⟨nd, rfl⟩⟩
          exact ⟨rfl, ⟨_, _, v10, rfl⟩, hW.quiet (by decide) (by decide)⟩
      | 11, _ =>
        have hd := hdep _ rfl
        simp [Region.binds] at hd
        have hj3 : dn 3 = true := by first | exact hd | simp [hd]
        have e12 := done0 3 12 hs v3 (hltF _ (by decide)) hj3
        have hj7 : dn 7 = true := by first | exact hd | simp [hd]
        have e16 := done0 7 16 hs v7 (hltF _ (by decide)) hj7
        have hj10 : dn 10 = true := by first | exact hd | simp [hd]
        have e19 := done0 10 19 hs v10 (hltF _ (by decide)) hj10
        refine op_run rfl rfl ?_ ⟨⟨_, _, v11, rfl⟩, hW.same (by decide) (by decide)⟩
        generalize (puts V 0 dn FA).eval = ev at e12 e16 e19 ⊢
        clear hdep v0 v1 v2 v3 v4 v5 v6 v7 v8 v9 v10 v11 v12 v13 hs hltF
        go_simp
        first | done | rfl
      | 12, _ =>
        have hz := hW.size hdn
        refine op_run (w' := w'.alloc (.cells #[.int .u8 0, .int .u8 0, .int .u8 0, .int .u8 0, .int .u8 0, .int .u8 0, .int .u8 0, .int .u8 0, .int .u8 0, .int .u8 0, .int .u8 0, .int .u8 0, .int .u16 0] 25)) rfl rfl ?_ ⟨⟨_, _, v12, rfl⟩, hW.alloc hdn (by decide)⟩
        generalize (puts V 0 dn FA).eval = ev
        clear hdep v0 v1 v2 v3 v4 v5 v6 v7 v8 v9 v10 v11 v12 v13 hs hltF
        go_simp
        first | done | rfl | (simp only [hz]; done) | (rw [hz])
      | 13, _ =>
        have hd := hdep _ rfl
        simp [Region.binds] at hd
        have hj12 : dn 12 = true := by first | exact hd | simp [hd]
        have e4 := done0 12 4 hs v12 (hltF _ (by decide)) hj12
        have hj11 : dn 11 = true := by first | exact hd | simp [hd]
        have e20 := done0 11 20 hs v11 (hltF _ (by decide)) hj11
        have hz := hW.zero hj12 hdn
        have hk0 := blk_cell hz 0
        have hf0 := blk_frozen hz 0
        have hk1 := blk_cell hz 1
        have hf1 := blk_frozen hz 1
        have hk2 := blk_cell hz 2
        have hf2 := blk_frozen hz 2
        have hk3 := blk_cell hz 3
        have hf3 := blk_frozen hz 3
        have hk4 := blk_cell hz 4
        have hf4 := blk_frozen hz 4
        have hk5 := blk_cell hz 5
        have hf5 := blk_frozen hz 5
        have hk6 := blk_cell hz 6
        have hf6 := blk_frozen hz 6
        have hk7 := blk_cell hz 7
        have hf7 := blk_frozen hz 7
        have hk8 := blk_cell hz 8
        have hf8 := blk_frozen hz 8
        have hk9 := blk_cell hz 9
        have hf9 := blk_frozen hz 9
        have hk10 := blk_cell hz 10
        have hf10 := blk_frozen hz 10
        have hk11 := blk_cell hz 11
        have hf11 := blk_frozen hz 11
        have hk12 := blk_cell hz 12
        have hf12 := blk_frozen hz 12
        have HW := Aside0.mk hW
        have HZ := Aside0.mk hz
        clear hz
        have hlay : lay #[.int .u8 0, .int .u8 0, .int .u8 0, .int .u8 0, .int .u8 0, .int .u8 0, .int .u8 0, .int .u8 0, .int .u8 0, .int .u8 0, .int .u8 0, .int .u8 0, .int .u16 0] 0 [.int .u8 (rd l0 0), .int .u8 (rd l0 1), .int .u8 (rd l0 2), .int .u8 (rd l0 3), .int .u8 (rd l0 4), .int .u8 (rd l0 5), .int .u8 (rd l0 6), .int .u8 (rd l0 7), .int .u8 (rd l0 8), .int .u8 (rd l0 9), .int .u8 (rd l0 10), .int .u8 (rd l0 11), .int .u16 t1] = #[.int .u8 (rd l0 0), .int .u8 (rd l0 1), .int .u8 (rd l0 2), .int .u8 (rd l0 3), .int .u8 (rd l0 4), .int .u8 (rd l0 5), .int .u8 (rd l0 6), .int .u8 (rd l0 7), .int .u8 (rd l0 8), .int .u8 (rd l0 9), .int .u8 (rd l0 10), .int .u8 (rd l0 11), .int .u16 t1] := by simp only [lay, List.setIfInBounds_toArray, List.set_cons_zero, List.set_cons_succ, Nat.reduceAdd]
        refine op_skip (w' := w'.setCells w1.heap.size 0 [.int .u8 (rd l0 0), .int .u8 (rd l0 1), .int .u8 (rd l0 2), .int .u8 (rd l0 3), .int .u8 (rd l0 4), .int .u8 (rd l0 5), .int .u8 (rd l0 6), .int .u8 (rd l0 7), .int .u8 (rd l0 8), .int .u8 (rd l0 9), .int .u8 (rd l0 10), .int .u8 (rd l0 11), .int .u16 t1]) rfl rfl ?_ ⟨⟨_, _, v13, rfl⟩, hW.store hj12 (by decide) (setCells_grown _ _ _) (setCells_blk' hlay HZ.out)⟩
        clear hlay
        generalize (puts V 0 dn FA).eval = ev at e4 e20 ⊢
        clear hdep v0 v1 v2 v3 v4 v5 v6 v7 v8 v9 v10 v11 v12 v13 hs hltF hW
        go_simp
        first | done | rfl
      | n_ + 14, hi_ => exact absurd hi_ (by simp)
    clear hs hltF v0 v1 v2 v3 v4 v5 v6 v7 v8 v9 v10 v11 v12 v13
    intro w' hW
    rw [hV]
    simp only [putAll', Act.put, ← hFA, List.setIfInBounds_toArray, List.set_cons_zero, List.set_cons_succ]
    have hr := hW.row
    have hx := blk_below HX1.out hW.below
    have hbw := below_step HB.out hW.below
    have hlw : w.heap.size < w1.heap.size := blk_lt HX1.out
    generalize w1.heap.size = g at hr hlw ⊢
    have k0 := blk_cell hr 0
    have k1 := blk_cell hr 1
    have k2 := blk_cell hr 2
    have k3 := blk_cell hr 3
    have k4 := blk_cell hr 4
    have k5 := blk_cell hr 5
    have k6 := blk_cell hr 6
    have k7 := blk_cell hr 7
    have k8 := blk_cell hr 8
    have k9 := blk_cell hr 9
    have k10 := blk_cell hr 10
    have k11 := blk_cell hr 11
    have k12 := blk_cell hr 12
    have m0 := blk_cell hx 0
    have f0 := blk_frozen hx 0
    have m1 := blk_cell hx 1
    have f1 := blk_frozen hx 1
    have m2 := blk_cell hx 2
    have f2 := blk_frozen hx 2
    have m3 := blk_cell hx 3
    have f3 := blk_frozen hx 3
    have m4 := blk_cell hx 4
    have f4 := blk_frozen hx 4
    have m5 := blk_cell hx 5
    have f5 := blk_frozen hx 5
    have m6 := blk_cell hx 6
    have f6 := blk_frozen hx 6
    have m7 := blk_cell hx 7
    have f7 := blk_frozen hx 7
    have m8 := blk_cell hx 8
    have f8 := blk_frozen hx 8
    have m9 := blk_cell hx 9
    have f9 := blk_frozen hx 9
    have m10 := blk_cell hx 10
    have f10 := blk_frozen hx 10
    have m11 := blk_cell hx 11
    have f11 := blk_frozen hx 11
    have m12 := blk_cell hx 12
    have f12 := blk_frozen hx 12
    have HX := Aside0.mk hx
    have HBW := Aside0.mk hbw
    clear hr hx hbw hW hlw
    go_wp2
    have hlay : lay #[.int .u8 0, .int .u8 0, .int .u8 0, .int .u8 0, .int .u8 0, .int .u8 0, .int .u8 0, .int .u8 0, .int .u8 0, .int .u8 0, .int .u8 0, .int .u8 0, .int .u16 0] 0 [.int .u8 (rd l0 0), .int .u8 (rd l0 1), .int .u8 (rd l0 2), .int .u8 (rd l0 3), .int .u8 (rd l0 4), .int .u8 (rd l0 5), .int .u8 (rd l0 6), .int .u8 (rd l0 7), .int .u8 (rd l0 8), .int .u8 (rd l0 9), .int .u8 (rd l0 10), .int .u8 (rd l0 11), .int .u16 t1] = #[.int .u8 (rd l0 0), .int .u8 (rd l0 1), .int .u8 (rd l0 2), .int .u8 (rd l0 3), .int .u8 (rd l0 4), .int .u8 (rd l0 5), .int .u8 (rd l0 6), .int .u8 (rd l0 7), .int .u8 (rd l0 8), .int .u8 (rd l0 9), .int .u8 (rd l0 10), .int .u8 (rd l0 11), .int .u16 t1] := by simp only [lay, List.setIfInBounds_toArray, List.set_cons_zero, List.set_cons_succ, Nat.reduceAdd]
    refine bodyPost_ret (results_ct rfl _ _ w.heap.size 25 #[.int .u8 (rd l0 0), .int .u8 (rd l0 1), .int .u8 (rd l0 2), .int .u8 (rd l0 3), .int .u8 (rd l0 4), .int .u8 (rd l0 5), .int .u8 (rd l0 6), .int .u8 (rd l0 7), .int .u8 (rd l0 8), .int .u8 (rd l0 9), .int .u8 (rd l0 10), .int .u8 (rd l0 11), .int .u16 t1] (0, 0) _ rfl (setCells_blk' (vs := [.int .u8 (rd l0 0), .int .u8 (rd l0 1), .int .u8 (rd l0 2), .int .u8 (rd l0 3), .int .u8 (rd l0 4), .int .u8 (rd l0 5), .int .u8 (rd l0 6), .int .u8 (rd l0 7), .int .u8 (rd l0 8), .int .u8 (rd l0 9), .int .u8 (rd l0 10), .int .u8 (rd l0 11), .int .u16 t1]) (o := 0) hlay HX.out) hu rfl (by kernel_rfl)) rfl ?_
    exact ⟨rfl, below_setCells [.int .u8 (rd l0 0), .int .u8 (rd l0 1), .int .u8 (rd l0 2), .int .u8 (rd l0 3), .int .u8 (rd l0 4), .int .u8 (rd l0 5), .int .u8 (rd l0 6), .int .u8 (rd l0 7), .int .u8 (rd l0 8), .int .u8 (rd l0 9), .int .u8 (rd l0 10), .int .u8 (rd l0 11), .int .u16 t1] 0 HBW.out (Nat.le_refl _)⟩

end Go.Proofs.Ytaklgacadjipjaa.P
