/- Contracts of the functions that the statements reach, and the statements: written by a program of this repo (wip/patch_print.py); Lean checks every line; no conditions. -/
import Derived.Test.YtipdajgcepefgaaPx0
import Derived.Test.YtipdajgcepefgaaPx4
import Derived.Test.YtipdajgcepefgaaPx9
namespace Go.Proofs.Ytipdajgcepefgaa.P
open Go.RowKit Go.Proofs.YtipdajgcepefgaaW.PrintWords Go.Proofs.YtipdajgcepefgaaW.PrintLast Go.Proofs.YtipdajgcepefgaaW.PrintMore
attribute [local go_sem] max2_int min2_int max_two min_two max_three min_three max_four min_four Go.Proofs.YtipdajgcepefgaaW.Own.u16_all   -- for this text's walks alone
set_option linter.unusedVariables false
set_option linter.unusedSimpArgs false

/-! ### seg_Read: function 50 -/
def seg_Read.f (k : Nat) (l0 : List Int) : Option (Int × Int × Int × Int × Int × Int × Int) := if (l0.length : Int) < 20 then (some (0, 0, 0, 0, 0, 0, 6)) else ((seg_word.f (l0.drop 12)).bind fun t1 => if Go.bits .andNot .u16 t1 63 = 20480 then ((seg_word.f (l0.drop 18)).bind fun t2 => if t2 = 0 then ((seg_word.f (l0.drop 16)).bind fun t3 => ((seg_field.f k (l0.take 16) (l0.drop 18)).bind fun t4 => if t3 = t4 then ((seg_word.f l0).bind fun t5 => ((seg_word.f (l0.drop 2)).bind fun t6 => ((seg_word.f (l0.drop 4)).bind fun t7 => ((seg_word.f (l0.drop 6)).bind fun t8 => ((seg_word.f (l0.drop 8)).bind fun t9 => ((seg_word.f (l0.drop 10)).bind fun u0 => ((seg_word.f (l0.drop 14)).bind fun u1 => some (t5, t6, (Go.bits .or .u32 (IntKind.u32.wrap ((IntKind.u32.wrap t7) * 65536)) (IntKind.u32.wrap t8)), (Go.bits .or .u32 (IntKind.u32.wrap ((IntKind.u32.wrap t9) * 65536)) (IntKind.u32.wrap u0)), rd l0 13, u1, 0)))))))) else some (0, 0, 0, 0, 0, 0, 110))) else some (0, 0, 0, 0, 0, 0, 90)) else some (0, 0, 0, 0, 0, 0, 90))
theorem seg_Read.mono : ∀ b k, LeO (seg_Read.f k b) (seg_Read.f (k + 1) b) := by
  intro b k
  unfold seg_Read.f
  repeat' first
    | (with_reducible exact seg_field.mono _ _ _)
    | (with_reducible exact LeO.refl _)
    | (with_reducible refine LeO.ite ?_ ?_)
    | (with_reducible refine LeO.bind ?_ (fun _ => ?_))
theorem seg_Read.tail_of {P : Program} {T e : TypeId} {i : TypeInfo} (ht : P.underlying T = some (.slice e)) (hi : P.info? e = some i) (hsz : i.size = 1) {A : Option Addr} {c : Nat} {l : List Int} (hc : l.length ≤ c) (j : Nat) (hj : j ≤ l.length) :
    ∃ (aj : Option Addr) (d : List Int) (kj : Nat), (∀ W : World, (Instr.slice T (.slice A l.length c) (some (.int .i64 j)) none none).run P W = .ok (.slice aj d.length kj) W) ∧ d.length ≤ kj ∧ d = l.drop j ∧ ∀ w : World, Kd.C (Kd.int .u8) w A l.length l → Kd.C (Kd.int .u8) w aj d.length d := by
  obtain ⟨A', hcut, hA, hC⟩ := print_drop_of (P := P) (Value.int .u8) 0 T e .i64 ht hi hsz A c l (j : Int) (by omega) (by omega) hc
  rw [Int.toNat_natCast] at hcut hA hC
  exact ⟨A', _, _, hcut, hC, rfl, fun w hr => Kd.C_of_reads (h1 := fun _ => rfl) (hA w (Kd.reads_of_C hr))⟩
theorem seg_Read.head_of {P : Program} {T e : TypeId} {i : TypeInfo} (ht : P.underlying T = some (.slice e)) (hi : P.info? e = some i) (hsz : i.size = 1) {A : Option Addr} {c : Nat} {l : List Int} (hc : l.length ≤ c) (j : Nat) (hj : j ≤ l.length) :
    ∃ d : List Int, (∀ W : World, (Instr.slice T (.slice A l.length c) none (some (.int .i64 j)) none).run P W = .ok (.slice A d.length c) W) ∧ d.length ≤ c ∧ d = l.take j := by
  have h := print_take_of (P := P) (Value.int .u8) 0 T e .i64 ht hi hsz A c l (j : Int) (by omega) (by omega) hc
  rw [Int.toNat_natCast] at h
  exact ⟨_, h.1, h.2.2, rfl⟩
open Go.Proofs.YtipdajgcepefgaaW.Own in
set_option maxHeartbeats 4000000 in
set_option maxRecDepth 100000 in
theorem seg_Read.calls (k : Nat) (A0 : Option Addr) (c0 : Nat) (l0 : List Int) (r1 r2 r3 r4 r5 r6 r7 : Int) (w : World) (hr0 : Kd.C (Kd.int .u8) w A0 l0.length l0) (hc0 : l0.length ≤ c0) (h : seg_Read.f k l0 = some (r1, r2, r3, r4, r5, r6, r7)) :
    Calls Try.prog 50 #[.slice A0 l0.length c0] w fun e w' => e = .returned (.tuple #[.agg #[.int .u16 r1, .int .u16 r2, .int .u32 r3, .int .u32 r4, .int .u8 r5, .int .u16 r6], .int .i64 r7]) ∧ Below w.heap.size w w' := by
  have hu := Try.underlying59
  unfold seg_Read.f at h
  by_cases h4 : (l0.length : Int) < 20
  · rw [if_pos h4] at h
    simp only [Option.some.injEq, Prod.mk.injEq] at h
    obtain ⟨rfl, rfl, rfl, rfl, rfl, rfl, rfl⟩ := h
    have d4 : decide ((l0.length : Int) < 20) = true := decide_eq_true h4
    have d4' : decide (l0.length < 20) = true := decide_eq_true (by omega)
    clear h4 hr0 hc0
    go_enter Try.func50, Try.ntmps50
    go_wp2
    refine bodyPost_ret (results_ct rfl _ _ w.heap.size 59 #[.int .u16 0, .int .u16 0, .int .u32 0, .int .u32 0, .int .u8 0, .int .u16 0] (0, 0) _ rfl ?_ hu rfl (by kernel_rfl)) rfl ?_
    · exact blk_new _ _
    · exact ⟨rfl, (Below.refl _ _).alloc (Nat.le_refl _) _⟩
  · rw [if_neg h4] at h
    obtain ⟨t1, e1, h⟩ := Option.bind_eq_some_iff.mp h
    have d4 : decide ((l0.length : Int) < 20) = false := decide_eq_false h4
    have d4' : decide (l0.length < 20) = false := decide_eq_false (by omega)
    have hlen : 20 ≤ l0.length := by omega
    have E1 := Aside0.mk e1
    clear h4 e1
    obtain ⟨i5, hi5, _, hsz5, _⟩ := info_parts info5
    have hb : Below w.heap.size w (w.alloc (.cells #[.int .u16 0, .int .u16 0, .int .u32 0, .int .u32 0, .int .u8 0, .int .u16 0] 59)) := (Below.refl _ _).alloc (Nat.le_refl _) _
    have hr1 := Kd.C_below hr0 hb
    have HX1 := Aside0.mk (blk_new w (.cells #[.int .u16 0, .int .u16 0, .int .u32 0, .int .u32 0, .int .u8 0, .int .u16 0] 59))
    obtain ⟨ad, rfl, g0, gS⟩ := whole_of hr1 (by omega)
    have HLA := Aside0.mk (World.block_lt_of_cell? _ _ g0)
    have G13 := Aside0.mk (gS 13 (by decide) (by omega))
    clear g0 gS
    obtain ⟨A2, D2, K2, cut2, cap2, hd2, hC2⟩ := seg_Read.tail_of (P := Try.prog) (A := some ad) Try.underlying26 hi5 hsz5 hc0 2 (by omega)
    have C2 := Aside0.mk (hC2 _ hr1)
    have CAP2 := Aside0.mk cap2
    simp only [Int.cast_ofNat_Int] at cut2
    have HD2 := Aside0.mk hd2
    clear hC2 cap2 hd2
    obtain ⟨A4, D4, K4, cut4, cap4, hd4, hC4⟩ := seg_Read.tail_of (P := Try.prog) (A := some ad) Try.underlying26 hi5 hsz5 hc0 4 (by omega)
    have C4 := Aside0.mk (hC4 _ hr1)
    have CAP4 := Aside0.mk cap4
    simp only [Int.cast_ofNat_Int] at cut4
    have HD4 := Aside0.mk hd4
    clear hC4 cap4 hd4
    obtain ⟨A6, D6, K6, cut6, cap6, hd6, hC6⟩ := seg_Read.tail_of (P := Try.prog) (A := some ad) Try.underlying26 hi5 hsz5 hc0 6 (by omega)
    have C6 := Aside0.mk (hC6 _ hr1)
    have CAP6 := Aside0.mk cap6
    simp only [Int.cast_ofNat_Int] at cut6
    have HD6 := Aside0.mk hd6
    clear hC6 cap6 hd6
    obtain ⟨A8, D8, K8, cut8, cap8, hd8, hC8⟩ := seg_Read.tail_of (P := Try.prog) (A := some ad) Try.underlying26 hi5 hsz5 hc0 8 (by omega)
    have C8 := Aside0.mk (hC8 _ hr1)
    have CAP8 := Aside0.mk cap8
    simp only [Int.cast_ofNat_Int] at cut8
    have HD8 := Aside0.mk hd8
    clear hC8 cap8 hd8
    obtain ⟨A10, D10, K10, cut10, cap10, hd10, hC10⟩ := seg_Read.tail_of (P := Try.prog) (A := some ad) Try.underlying26 hi5 hsz5 hc0 10 (by omega)
    have C10 := Aside0.mk (hC10 _ hr1)
    have CAP10 := Aside0.mk cap10
    simp only [Int.cast_ofNat_Int] at cut10
    have HD10 := Aside0.mk hd10
    clear hC10 cap10 hd10
    obtain ⟨A12, D12, K12, cut12, cap12, hd12, hC12⟩ := seg_Read.tail_of (P := Try.prog) (A := some ad) Try.underlying26 hi5 hsz5 hc0 12 (by omega)
    have C12 := Aside0.mk (hC12 _ hr1)
    have CAP12 := Aside0.mk cap12
    simp only [Int.cast_ofNat_Int] at cut12
    have HD12 := Aside0.mk hd12
    clear hC12 cap12 hd12
    obtain ⟨A14, D14, K14, cut14, cap14, hd14, hC14⟩ := seg_Read.tail_of (P := Try.prog) (A := some ad) Try.underlying26 hi5 hsz5 hc0 14 (by omega)
    have C14 := Aside0.mk (hC14 _ hr1)
    have CAP14 := Aside0.mk cap14
    simp only [Int.cast_ofNat_Int] at cut14
    have HD14 := Aside0.mk hd14
    clear hC14 cap14 hd14
    obtain ⟨A16, D16, K16, cut16, cap16, hd16, hC16⟩ := seg_Read.tail_of (P := Try.prog) (A := some ad) Try.underlying26 hi5 hsz5 hc0 16 (by omega)
    have C16 := Aside0.mk (hC16 _ hr1)
    have CAP16 := Aside0.mk cap16
    simp only [Int.cast_ofNat_Int] at cut16
    have HD16 := Aside0.mk hd16
    clear hC16 cap16 hd16
    obtain ⟨A18, D18, K18, cut18, cap18, hd18, hC18⟩ := seg_Read.tail_of (P := Try.prog) (A := some ad) Try.underlying26 hi5 hsz5 hc0 18 (by omega)
    have C18 := Aside0.mk (hC18 _ hr1)
    have CAP18 := Aside0.mk cap18
    simp only [Int.cast_ofNat_Int] at cut18
    have HD18 := Aside0.mk hd18
    clear hC18 cap18 hd18
    obtain ⟨T6, take6, tcap, ht6⟩ := seg_Read.head_of (P := Try.prog) (A := some ad) Try.underlying26 hi5 hsz5 hc0 16 (by omega)
    simp only [Int.cast_ofNat_Int] at take6
    have TC := Aside0.mk (show Kd.C (Kd.int .u8) _ (some ad) T6.length T6 by rw [ht6]; exact Kd.C_take hr1 (m := 16) (by omega))
    have HT6 := Aside0.mk ht6
    clear ht6
    have TCAP := Aside0.mk tcap
    have HR1 := Aside0.mk hr1
    have HC0 := Aside0.mk hc0
    have HB := Aside0.mk hb
    have HL := Aside0.mk hlen
    clear hr0 hr1 hc0 hb hlen tcap hi5 hsz5
    by_cases h7 : (Go.bits .andNot .u16 t1 63) = 20480
    · rw [if_pos h7] at h
      have g7 : ((Go.bits .andNot .u16 t1 63) == 20480) = true := beq_iff_eq.mpr h7
      have g7' : ((Go.bits .andNot .u16 t1 63) != 20480) = false := bne_eq_false_iff_eq.mpr h7
      clear h7
      obtain ⟨t2, e_1, h⟩ := Option.bind_eq_some_iff.mp h
      have E2 := Aside0.mk e_1
      clear e_1
      by_cases h9 : t2 = 0
      · rw [if_pos h9] at h
        have g9 : (t2 == 0) = true := beq_iff_eq.mpr h9
        have g9' : (t2 != 0) = false := bne_eq_false_iff_eq.mpr h9
        clear h9
        obtain ⟨t3, e_1, h⟩ := Option.bind_eq_some_iff.mp h
        have E3 := Aside0.mk e_1
        clear e_1
        obtain ⟨t4, e_1, h⟩ := Option.bind_eq_some_iff.mp h
        have E4 := Aside0.mk e_1
        clear e_1
        by_cases h8 : t3 = t4
        · rw [if_pos h8] at h
          have g8 : (t3 == t4) = true := beq_iff_eq.mpr h8
          have g8' : (t3 != t4) = false := bne_eq_false_iff_eq.mpr h8
          clear h8
          obtain ⟨t5, e_1, h⟩ := Option.bind_eq_some_iff.mp h
          have F0 := Aside0.mk e_1
          clear e_1
          obtain ⟨t6, e_1, h⟩ := Option.bind_eq_some_iff.mp h
          have F2 := Aside0.mk e_1
          clear e_1
          obtain ⟨t7, e_1, h⟩ := Option.bind_eq_some_iff.mp h
          have F4 := Aside0.mk e_1
          clear e_1
          obtain ⟨t8, e_1, h⟩ := Option.bind_eq_some_iff.mp h
          have F6 := Aside0.mk e_1
          clear e_1
          obtain ⟨t9, e_1, h⟩ := Option.bind_eq_some_iff.mp h
          have F8 := Aside0.mk e_1
          clear e_1
          obtain ⟨u0, e_1, h⟩ := Option.bind_eq_some_iff.mp h
          have F10 := Aside0.mk e_1
          clear e_1
          obtain ⟨u1, e_1, h⟩ := Option.bind_eq_some_iff.mp h
          have F14 := Aside0.mk e_1
          clear e_1
          simp only [Option.some.injEq, Prod.mk.injEq] at h
          obtain ⟨rfl, rfl, rfl, rfl, rfl, rfl, rfl⟩ := h
          go_enter Try.func50, Try.ntmps50
          go_wp2_with fail
          generalize w.alloc (.cells #[.int .u16 0, .int .u16 0, .int .u32 0, .int .u32 0, .int .u8 0, .int .u16 0] 59) = w1 at HB HX1 HR1 HLA G13 C2 C4 C6 C8 C10 C12 C14 C16 C18 TC ⊢
          refine (seg_word.calls A12 K12 D12 t1 _ C12.out CAP12.out (by rw [HD12.out]; exact E1.out)).mono ?_
          rintro e_ w_ ⟨rfl, ⟨nd, rfl⟩⟩
          have hb2 := pw_below_drewN (Below.refl w1.heap.size w1) nd
          generalize w1.drewN nd = w2 at hb2 ⊢
          have HB1 := Aside0.mk hb2
          clear hb2
          go_wp2_with fail
          refine (seg_word.calls A18 K18 D18 t2 _ (Kd.C_below C18.out HB1.out) CAP18.out (by rw [HD18.out]; exact E2.out)).mono ?_
          rintro e_ w_ ⟨rfl, ⟨nd, rfl⟩⟩
          have hb2 := below_step HB1.out (pw_below_drewN (Below.refl w2.heap.size w2) nd)
          clear HB1
          generalize w2.drewN nd = w9 at hb2 ⊢
          have HB2 := Aside0.mk hb2
          clear hb2
          go_wp2_with fail
          generalize hFA : Act.mk _ _ = FA
          obtain ⟨V, hV⟩ : ∃ V : List (Option Tmp × Value), V = [(some 21, .slice (some ad) l0.length c0), (some 22, .slice A16 D16.length K16), (some 23, .int .u16 t3), (some 24, .slice (some ad) l0.length c0), (some 25, .slice (some ad) T6.length c0), (some 26, .slice (some ad) l0.length c0), (some 27, .slice A18 D18.length K18), (some 28, .int .u16 t4), (some 29, .bool (t3 != t4))] := ⟨_, rfl⟩
          have hs : slotsOk V := by rw [hV]; simp [slotsOk]
          have hltF : ∀ t, t < 64 → t < FA.tmps.size := fun t h => by rw [← hFA]; exact h
          have v0 : V[0]? = some (some 21, .slice (some ad) l0.length c0) := by rw [hV]; rfl
          have v1 : V[1]? = some (some 22, .slice A16 D16.length K16) := by rw [hV]; rfl
          have v2 : V[2]? = some (some 23, .int .u16 t3) := by rw [hV]; rfl
          have v3 : V[3]? = some (some 24, .slice (some ad) l0.length c0) := by rw [hV]; rfl
          have v4 : V[4]? = some (some 25, .slice (some ad) T6.length c0) := by rw [hV]; rfl
          have v5 : V[5]? = some (some 26, .slice (some ad) l0.length c0) := by rw [hV]; rfl
          have v6 : V[6]? = some (some 27, .slice A18 D18.length K18) := by rw [hV]; rfl
          have v7 : V[7]? = some (some 28, .int .u16 t4) := by rw [hV]; rfl
          have v8 : V[8]? = some (some 29, .bool (t3 != t4)) := by rw [hV]; rfl
          refine region_inv (by kernel_rfl) V (by rw [hV]; rfl) hs (by kernel_rfl) (fun _ w_ => Below w9.heap.size w9 w_) (fun dn dn' w_ h_ hw_ => hw_) (below_drew (Below.refl _ _)) ?_ ?_
          · intro i_ hi_ dn w' hW hdn hdep
            match i_, hi_ with
            | 0, _ =>
              have e0 := puts_other V 0 dn FA 0 (by rw [hV]; simp)
              rw [show FA.eval (.tmp 0) = .slice (some ad) l0.length c0 from by rw [← hFA]; rfl] at e0
              refine op_run rfl rfl ?_ ⟨⟨_, _, v0, rfl⟩, hW⟩
              generalize (puts V 0 dn FA).eval = ev at e0 ⊢
              clear hdep v0 v1 v2 v3 v4 v5 v6 v7 v8 hs hltF
              go_simp
              first | done | rfl
            | 1, _ =>
              have hd := hdep _ rfl
              simp [Region.binds] at hd
              have hj0 : dn 0 = true := by first | exact hd | simp [hd]
              have e21 := done0 0 21 hs v0 (hltF _ (by decide)) hj0
              have hc : ∀ c, (puts V 0 dn FA).eval (.const c) = c := fun _ => rfl
              refine op_run rfl rfl ?_ ⟨⟨_, _, v1, rfl⟩, hW⟩
              generalize (puts V 0 dn FA).eval = ev at e21 hc ⊢
              clear hdep v0 v1 v2 v3 v4 v5 v6 v7 v8 hs hltF
              go_simp
              first | done | rfl
            | 2, _ =>
              have hd := hdep _ rfl
              simp [Region.binds] at hd
              have hj1 : dn 1 = true := by first | exact hd | simp [hd]
              have e22 := done0 1 22 hs v1 (hltF _ (by decide)) hj1
              have hf : ∀ f, (puts V 0 dn FA).eval (.func f) = .func (.func f) #[] #[] := fun _ => rfl
              refine op_call rfl rfl (w1 := w') (f := 71) (args := #[.slice A16 D16.length K16]) (v := .int .u16 t3) ?_ ?_
              · generalize (puts V 0 dn FA).eval = ev at e22 hf ⊢
                clear hdep v0 v1 v2 v3 v4 v5 v6 v7 v8 hs hltF
                go_simp
                first | done | rfl
              · refine (seg_word.calls A16 K16 D16 t3 _ (Kd.C_below C16.out (below_step HB2.out hW)) CAP16.out (by rw [HD16.out]; exact E3.out)).mono ?_
                rintro e_ w_ ⟨rfl, ⟨nd, rfl⟩⟩
                exact ⟨rfl, ⟨_, _, v2, rfl⟩, pw_below_drewN hW nd⟩
            | 3, _ =>
              have e0 := puts_other V 0 dn FA 0 (by rw [hV]; simp)
              rw [show FA.eval (.tmp 0) = .slice (some ad) l0.length c0 from by rw [← hFA]; rfl] at e0
              refine op_run rfl rfl ?_ ⟨⟨_, _, v3, rfl⟩, hW⟩
              generalize (puts V 0 dn FA).eval = ev at e0 ⊢
              clear hdep v0 v1 v2 v3 v4 v5 v6 v7 v8 hs hltF
              go_simp
              first | done | rfl
            | 4, _ =>
              have hd := hdep _ rfl
              simp [Region.binds] at hd
              have hj3 : dn 3 = true := by first | exact hd | simp [hd]
              have e24 := done0 3 24 hs v3 (hltF _ (by decide)) hj3
              have hc : ∀ c, (puts V 0 dn FA).eval (.const c) = c := fun _ => rfl
              refine op_run rfl rfl ?_ ⟨⟨_, _, v4, rfl⟩, hW⟩
              generalize (puts V 0 dn FA).eval = ev at e24 hc ⊢
              clear hdep v0 v1 v2 v3 v4 v5 v6 v7 v8 hs hltF
              go_simp
              first | done | rfl
            | 5, _ =>
              have e0 := puts_other V 0 dn FA 0 (by rw [hV]; simp)
              rw [show FA.eval (.tmp 0) = .slice (some ad) l0.length c0 from by rw [← hFA]; rfl] at e0
              refine op_run rfl rfl ?_ ⟨⟨_, _, v5, rfl⟩, hW⟩
              generalize (puts V 0 dn FA).eval = ev at e0 ⊢
              clear hdep v0 v1 v2 v3 v4 v5 v6 v7 v8 hs hltF
              go_simp
              first | done | rfl
            | 6, _ =>
              have hd := hdep _ rfl
              simp [Region.binds] at hd
              have hj5 : dn 5 = true := by first | exact hd | simp [hd]
              have e26 := done0 5 26 hs v5 (hltF _ (by decide)) hj5
              have hc : ∀ c, (puts V 0 dn FA).eval (.const c) = c := fun _ => rfl
              refine op_run rfl rfl ?_ ⟨⟨_, _, v6, rfl⟩, hW⟩
              generalize (puts V 0 dn FA).eval = ev at e26 hc ⊢
              clear hdep v0 v1 v2 v3 v4 v5 v6 v7 v8 hs hltF
              go_simp
              first | done | rfl
            | 7, _ =>
              have hd := hdep _ rfl
              simp [Region.binds] at hd
              have hj4 : dn 4 = true := by first | exact hd | simp [hd]
              have e25 := done0 4 25 hs v4 (hltF _ (by decide)) hj4
              have hj6 : dn 6 = true := by first | exact hd | simp [hd]
              have e27 := done0 6 27 hs v6 (hltF _ (by decide)) hj6
              have hf : ∀ f, (puts V 0 dn FA).eval (.func f) = .func (.func f) #[] #[] := fun _ => rfl
              refine op_call rfl rfl (w1 := w') (f := 68) (args := #[.slice (some ad) T6.length c0, .slice A18 D18.length K18]) (v := .int .u16 t4) ?_ ?_
              · generalize (puts V 0 dn FA).eval = ev at e25 e27 hf ⊢
                clear hdep v0 v1 v2 v3 v4 v5 v6 v7 v8 hs hltF
                go_simp
                first | done | rfl
              · refine (seg_field.calls k (some ad) c0 T6 A18 K18 D18 t4 _ (Kd.C_below TC.out (below_step HB2.out hW)) TCAP.out (Kd.C_below C18.out (below_step HB2.out hW)) CAP18.out (by rw [HT6.out, HD18.out]; exact E4.out)).mono ?_
                rintro e_ w_ ⟨rfl, ⟨nd, rfl⟩⟩
                exact ⟨rfl, ⟨_, _, v7, rfl⟩, pw_below_drewN hW nd⟩
            | 8, _ =>
              have hd := hdep _ rfl
              simp [Region.binds] at hd
              have hj2 : dn 2 = true := by first | exact hd | simp [hd]
              have e23 := done0 2 23 hs v2 (hltF _ (by decide)) hj2
              have hj7 : dn 7 = true := by first | exact hd | simp [hd]
              have e28 := done0 7 28 hs v7 (hltF _ (by decide)) hj7
              refine op_run rfl rfl ?_ ⟨⟨_, _, v8, rfl⟩, hW⟩
              generalize (puts V 0 dn FA).eval = ev at e23 e28 ⊢
              clear hdep v0 v1 v2 v3 v4 v5 v6 v7 v8 hs hltF
              go_simp
              first | done | rfl
            | n_ + 9, hi_ => exact absurd hi_ (by simp)
          clear hs hltF v0 v1 v2 v3 v4 v5 v6 v7 v8
          intro w' hW
          rw [hV]
          simp only [putAll', Act.put, ← hFA, List.setIfInBounds_toArray, List.set_cons_zero, List.set_cons_succ]
          have hb3 := below_step HB2.out hW
          clear hW
          generalize w' = w3 at hb3 ⊢
          have HB3 := Aside0.mk hb3
          clear hb3
          go_wp2_with fail
          have HXW := Aside0.mk (blk_below HX1.out HB3.out)
          have HBW := Aside0.mk (below_step HB.out HB3.out)
          generalize hFA : Act.mk _ _ = FA
          obtain ⟨V, hV⟩ : ∃ V : List (Option Tmp × Value), V = [(some 31, .slice (some ad) l0.length c0), (some 32, .int .u16 t5), (some 33, .slice (some ad) l0.length c0), (some 34, .slice A2 D2.length K2), (some 35, .int .u16 t6), (some 36, .slice (some ad) l0.length c0), (some 37, .slice A4 D4.length K4), (some 38, .int .u16 t7), (some 39, .int .u32 (IntKind.u32.wrap t7)), (some 40, .int .u32 (IntKind.u32.wrap ((IntKind.u32.wrap t7) * 65536))), (some 41, .slice (some ad) l0.length c0), (some 42, .slice A6 D6.length K6), (some 43, .int .u16 t8), (some 44, .int .u32 (IntKind.u32.wrap t8)), (some 45, .int .u32 (Go.bits .or .u32 (IntKind.u32.wrap ((IntKind.u32.wrap t7) * 65536)) (IntKind.u32.wrap t8))), (some 46, .slice (some ad) l0.length c0), (some 47, .slice A8 D8.length K8), (some 48, .int .u16 t9), (some 49, .int .u32 (IntKind.u32.wrap t9)), (some 50, .int .u32 (IntKind.u32.wrap ((IntKind.u32.wrap t9) * 65536))), (some 51, .slice (some ad) l0.length c0), (some 52, .slice A10 D10.length K10), (some 53, .int .u16 u0), (some 54, .int .u32 (IntKind.u32.wrap u0)), (some 55, .int .u32 (Go.bits .or .u32 (IntKind.u32.wrap ((IntKind.u32.wrap t9) * 65536)) (IntKind.u32.wrap u0))), (some 56, .slice (some ad) l0.length c0), (some 57, .pointer (some ⟨ad.block, ad.off + 13, none⟩)), (some 58, .int .u8 (rd l0 13)), (some 59, .slice (some ad) l0.length c0), (some 60, .slice A14 D14.length K14), (some 61, .int .u16 u1), (some 62, .agg #[.int .u16 t5, .int .u16 t6, .int .u32 (Go.bits .or .u32 (IntKind.u32.wrap ((IntKind.u32.wrap t7) * 65536)) (IntKind.u32.wrap t8)), .int .u32 (Go.bits .or .u32 (IntKind.u32.wrap ((IntKind.u32.wrap t9) * 65536)) (IntKind.u32.wrap u0)), .int .u8 (rd l0 13), .int .u16 u1]), (some 4, .pointer (some ⟨w3.heap.size, 0, none⟩)), (none, undef)] := ⟨_, rfl⟩
          have hs : slotsOk V := by rw [hV]; simp [slotsOk]
          have hltF : ∀ t, t < 64 → t < FA.tmps.size := fun t h => by rw [← hFA]; exact h
          have v0 : V[0]? = some (some 31, .slice (some ad) l0.length c0) := by rw [hV]; rfl
          have v1 : V[1]? = some (some 32, .int .u16 t5) := by rw [hV]; rfl
          have v2 : V[2]? = some (some 33, .slice (some ad) l0.length c0) := by rw [hV]; rfl
          have v3 : V[3]? = some (some 34, .slice A2 D2.length K2) := by rw [hV]; rfl
          have v4 : V[4]? = some (some 35, .int .u16 t6) := by rw [hV]; rfl
          have v5 : V[5]? = some (some 36, .slice (some ad) l0.length c0) := by rw [hV]; rfl
          have v6 : V[6]? = some (some 37, .slice A4 D4.length K4) := by rw [hV]; rfl
          have v7 : V[7]? = some (some 38, .int .u16 t7) := by rw [hV]; rfl
          have v8 : V[8]? = some (some 39, .int .u32 (IntKind.u32.wrap t7)) := by rw [hV]; rfl
          have v9 : V[9]? = some (some 40, .int .u32 (IntKind.u32.wrap ((IntKind.u32.wrap t7) * 65536))) := by rw [hV]; rfl
          have v10 : V[10]? = some (some 41, .slice (some ad) l0.length c0) := by rw [hV]; rfl
          have v11 : V[11]? = some (some 42, .slice A6 D6.length K6) := by rw [hV]; rfl
          have v12 : V[12]? = some (some 43, .int .u16 t8) := by rw [hV]; rfl
          have v13 : V[13]? = some (some 44, .int .u32 (IntKind.u32.wrap t8)) := by rw [hV]; rfl
          have v14 : V[14]? = some (some 45, .int .u32 (Go.bits .or .u32 (IntKind.u32.wrap ((IntKind.u32.wrap t7) * 65536)) (IntKind.u32.wrap t8))) := by rw [hV]; rfl
          have v15 : V[15]? = some (some 46, .slice (some ad) l0.length c0) := by rw [hV]; rfl
          have v16 : V[16]? = some (some 47, .slice A8 D8.length K8) := by rw [hV]; rfl
          have v17 : V[17]? = some (some 48, .int .u16 t9) := by rw [hV]; rfl
          have v18 : V[18]? = some (some 49, .int .u32 (IntKind.u32.wrap t9)) := by rw [hV]; rfl
          have v19 : V[19]? = some (some 50, .int .u32 (IntKind.u32.wrap ((IntKind.u32.wrap t9) * 65536))) := by rw [hV]; rfl
          have v20 : V[20]? = some (some 51, .slice (some ad) l0.length c0) := by rw [hV]; rfl
          have v21 : V[21]? = some (some 52, .slice A10 D10.length K10) := by rw [hV]; rfl
          have v22 : V[22]? = some (some 53, .int .u16 u0) := by rw [hV]; rfl
          have v23 : V[23]? = some (some 54, .int .u32 (IntKind.u32.wrap u0)) := by rw [hV]; rfl
          have v24 : V[24]? = some (some 55, .int .u32 (Go.bits .or .u32 (IntKind.u32.wrap ((IntKind.u32.wrap t9) * 65536)) (IntKind.u32.wrap u0))) := by rw [hV]; rfl
          have v25 : V[25]? = some (some 56, .slice (some ad) l0.length c0) := by rw [hV]; rfl
          have v26 : V[26]? = some (some 57, .pointer (some ⟨ad.block, ad.off + 13, none⟩)) := by rw [hV]; rfl
          have v27 : V[27]? = some (some 58, .int .u8 (rd l0 13)) := by rw [hV]; rfl
          have v28 : V[28]? = some (some 59, .slice (some ad) l0.length c0) := by rw [hV]; rfl
          have v29 : V[29]? = some (some 60, .slice A14 D14.length K14) := by rw [hV]; rfl
          have v30 : V[30]? = some (some 61, .int .u16 u1) := by rw [hV]; rfl
          have v31 : V[31]? = some (some 62, .agg #[.int .u16 t5, .int .u16 t6, .int .u32 (Go.bits .or .u32 (IntKind.u32.wrap ((IntKind.u32.wrap t7) * 65536)) (IntKind.u32.wrap t8)), .int .u32 (Go.bits .or .u32 (IntKind.u32.wrap ((IntKind.u32.wrap t9) * 65536)) (IntKind.u32.wrap u0)), .int .u8 (rd l0 13), .int .u16 u1]) := by rw [hV]; rfl
          have v32 : V[32]? = some (some 4, .pointer (some ⟨w3.heap.size, 0, none⟩)) := by rw [hV]; rfl
          have v33 : V[33]? = some (none, undef) := by rw [hV]; rfl
          refine region_inv (by kernel_rfl) V (by rw [hV]; rfl) hs (by kernel_rfl) (Bld w3 #[.int .u16 0, .int .u16 0, .int .u32 0, .int .u32 0, .int .u8 0, .int .u16 0] #[.int .u16 t5, .int .u16 t6, .int .u32 (Go.bits .or .u32 (IntKind.u32.wrap ((IntKind.u32.wrap t7) * 65536)) (IntKind.u32.wrap t8)), .int .u32 (Go.bits .or .u32 (IntKind.u32.wrap ((IntKind.u32.wrap t9) * 65536)) (IntKind.u32.wrap u0)), .int .u8 (rd l0 13), .int .u16 u1] 59 32 33) (fun dn dn' w_ h_ hw_ => hw_.ext (h_ 32 (by simp)) (h_ 33 (by simp))) (Bld.start w3) ?_ ?_
          · intro i_ hi_ dn w' hW hdn hdep
            match i_, hi_ with
            | 0, _ =>
              have e0 := puts_other V 0 dn FA 0 (by rw [hV]; simp)
              rw [show FA.eval (.tmp 0) = .slice (some ad) l0.length c0 from by rw [← hFA]; rfl] at e0
              refine op_run rfl rfl ?_ ⟨⟨_, _, v0, rfl⟩, hW.same (by decide) (by decide)⟩
              generalize (puts V 0 dn FA).eval = ev at e0 ⊢
              clear hdep v0 v1 v2 v3 v4 v5 v6 v7 v8 v9 v10 v11 v12 v13 v14 v15 v16 v17 v18 v19 v20 v21 v22 v23 v24 v25 v26 v27 v28 v29 v30 v31 v32 v33 hs hltF
              go_simp
              first | done | rfl | (intro h_; exfalso; omega)
            | 1, _ =>
              have hd := hdep _ rfl
              simp [Region.binds] at hd
              have hj0 : dn 0 = true := by first | exact hd | simp [hd]
              have e31 := done0 0 31 hs v0 (hltF _ (by decide)) hj0
              have hf : ∀ f, (puts V 0 dn FA).eval (.func f) = .func (.func f) #[] #[] := fun _ => rfl
              refine op_call rfl rfl (w1 := w') (f := 71) (args := #[.slice (some ad) l0.length c0]) (v := .int .u16 t5) ?_ ?_
              · generalize (puts V 0 dn FA).eval = ev at e31 hf ⊢
                clear hdep v0 v1 v2 v3 v4 v5 v6 v7 v8 v9 v10 v11 v12 v13 v14 v15 v16 v17 v18 v19 v20 v21 v22 v23 v24 v25 v26 v27 v28 v29 v30 v31 v32 v33 hs hltF
                go_simp
                first | done | rfl
              · refine (seg_word.calls (some ad) c0 l0 t5 _ (Kd.C_below HR1.out (below_step HB3.out hW.below)) HC0.out F0.out).mono ?_
                rintro e_ w_ ⟨rfl, ⟨nd, rfl⟩⟩
                exact ⟨rfl, ⟨_, _, v1, rfl⟩, hW.quiet (by decide) (by decide)⟩
            | 2, _ =>
              have e0 := puts_other V 0 dn FA 0 (by rw [hV]; simp)
              rw [show FA.eval (.tmp 0) = .slice (some ad) l0.length c0 from by rw [← hFA]; rfl] at e0
              refine op_run rfl rfl ?_ ⟨⟨_, _, v2, rfl⟩, hW.same (by decide) (by decide)⟩
              generalize (puts V 0 dn FA).eval = ev at e0 ⊢
              clear hdep v0 v1 v2 v3 v4 v5 v6 v7 v8 v9 v10 v11 v12 v13 v14 v15 v16 v17 v18 v19 v20 v21 v22 v23 v24 v25 v26 v27 v28 v29 v30 v31 v32 v33 hs hltF
              go_simp
              first | done | rfl | (intro h_; exfalso; omega)
            | 3, _ =>
              have hd := hdep _ rfl
              simp [Region.binds] at hd
              have hj2 : dn 2 = true := by first | exact hd | simp [hd]
              have e33 := done0 2 33 hs v2 (hltF _ (by decide)) hj2
              have hc : ∀ c, (puts V 0 dn FA).eval (.const c) = c := fun _ => rfl
              refine op_run rfl rfl ?_ ⟨⟨_, _, v3, rfl⟩, hW.same (by decide) (by decide)⟩
              generalize (puts V 0 dn FA).eval = ev at e33 hc ⊢
              clear hdep v0 v1 v2 v3 v4 v5 v6 v7 v8 v9 v10 v11 v12 v13 v14 v15 v16 v17 v18 v19 v20 v21 v22 v23 v24 v25 v26 v27 v28 v29 v30 v31 v32 v33 hs hltF
              go_simp
              first | done | rfl | (intro h_; exfalso; omega)
            | 4, _ =>
              have hd := hdep _ rfl
              simp [Region.binds] at hd
              have hj3 : dn 3 = true := by first | exact hd | simp [hd]
              have e34 := done0 3 34 hs v3 (hltF _ (by decide)) hj3
              have hf : ∀ f, (puts V 0 dn FA).eval (.func f) = .func (.func f) #[] #[] := fun _ => rfl
              refine op_call rfl rfl (w1 := w') (f := 71) (args := #[.slice A2 D2.length K2]) (v := .int .u16 t6) ?_ ?_
              · generalize (puts V 0 dn FA).eval = ev at e34 hf ⊢
                clear hdep v0 v1 v2 v3 v4 v5 v6 v7 v8 v9 v10 v11 v12 v13 v14 v15 v16 v17 v18 v19 v20 v21 v22 v23 v24 v25 v26 v27 v28 v29 v30 v31 v32 v33 hs hltF
                go_simp
                first | done | rfl
              · refine (seg_word.calls A2 K2 D2 t6 _ (Kd.C_below C2.out (below_step HB3.out hW.below)) CAP2.out (by rw [HD2.out]; exact F2.out)).mono ?_
                rintro e_ w_ ⟨rfl, ⟨nd, rfl⟩⟩
                exact ⟨rfl, ⟨_, _, v4, rfl⟩, hW.quiet (by decide) (by decide)⟩
            | 5, _ =>
              have e0 := puts_other V 0 dn FA 0 (by rw [hV]; simp)
              rw [show FA.eval (.tmp 0) = .slice (some ad) l0.length c0 from by rw [← hFA]; rfl] at e0
              refine op_run rfl rfl ?_ ⟨⟨_, _, v5, rfl⟩, hW.same (by decide) (by decide)⟩
              generalize (puts V 0 dn FA).eval = ev at e0 ⊢
              clear hdep v0 v1 v2 v3 v4 v5 v6 v7 v8 v9 v10 v11 v12 v13 v14 v15 v16 v17 v18 v19 v20 v21 v22 v23 v24 v25 v26 v27 v28 v29 v30 v31 v32 v33 hs hltF
              go_simp
              first | done | rfl | (intro h_; exfalso; omega)
            | 6, _ =>
              have hd := hdep _ rfl
              simp [Region.binds] at hd
              have hj5 : dn 5 = true := by first | exact hd | simp [hd]
              have e36 := done0 5 36 hs v5 (hltF _ (by decide)) hj5
              have hc : ∀ c, (puts V 0 dn FA).eval (.const c) = c := fun _ => rfl
              refine op_run rfl rfl ?_ ⟨⟨_, _, v6, rfl⟩, hW.same (by decide) (by decide)⟩
              generalize (puts V 0 dn FA).eval = ev at e36 hc ⊢
              clear hdep v0 v1 v2 v3 v4 v5 v6 v7 v8 v9 v10 v11 v12 v13 v14 v15 v16 v17 v18 v19 v20 v21 v22 v23 v24 v25 v26 v27 v28 v29 v30 v31 v32 v33 hs hltF
              go_simp
              first | done | rfl | (intro h_; exfalso; omega)
            | 7, _ =>
              have hd := hdep _ rfl
              simp [Region.binds] at hd
              have hj6 : dn 6 = true := by first | exact hd | simp [hd]
              have e37 := done0 6 37 hs v6 (hltF _ (by decide)) hj6
              have hf : ∀ f, (puts V 0 dn FA).eval (.func f) = .func (.func f) #[] #[] := fun _ => rfl
              refine op_call rfl rfl (w1 := w') (f := 71) (args := #[.slice A4 D4.length K4]) (v := .int .u16 t7) ?_ ?_
              · generalize (puts V 0 dn FA).eval = ev at e37 hf ⊢
                clear hdep v0 v1 v2 v3 v4 v5 v6 v7 v8 v9 v10 v11 v12 v13 v14 v15 v16 v17 v18 v19 v20 v21 v22 v23 v24 v25 v26 v27 v28 v29 v30 v31 v32 v33 hs hltF
                go_simp
                first | done | rfl
              · refine (seg_word.calls A4 K4 D4 t7 _ (Kd.C_below C4.out (below_step HB3.out hW.below)) CAP4.out (by rw [HD4.out]; exact F4.out)).mono ?_
                rintro e_ w_ ⟨rfl, ⟨nd, rfl⟩⟩
                exact ⟨rfl, ⟨_, _, v7, rfl⟩, hW.quiet (by decide) (by decide)⟩
            | 8, _ =>
              have hd := hdep _ rfl
              simp [Region.binds] at hd
              have hj7 : dn 7 = true := by first | exact hd | simp [hd]
              have e38 := done0 7 38 hs v7 (hltF _ (by decide)) hj7
              refine op_run rfl rfl ?_ ⟨⟨_, _, v8, rfl⟩, hW.same (by decide) (by decide)⟩
              generalize (puts V 0 dn FA).eval = ev at e38 ⊢
              clear hdep v0 v1 v2 v3 v4 v5 v6 v7 v8 v9 v10 v11 v12 v13 v14 v15 v16 v17 v18 v19 v20 v21 v22 v23 v24 v25 v26 v27 v28 v29 v30 v31 v32 v33 hs hltF
              go_simp
              first | done | rfl | (intro h_; exfalso; omega)
            | 9, _ =>
              have hd := hdep _ rfl
              simp [Region.binds] at hd
              have hj8 : dn 8 = true := by first | exact hd | simp [hd]
              have e39 := done0 8 39 hs v8 (hltF _ (by decide)) hj8
              have hc : ∀ c, (puts V 0 dn FA).eval (.const c) = c := fun _ => rfl
              refine op_run rfl rfl ?_ ⟨⟨_, _, v9, rfl⟩, hW.same (by decide) (by decide)⟩
              generalize (puts V 0 dn FA).eval = ev at e39 hc ⊢
              clear hdep v0 v1 v2 v3 v4 v5 v6 v7 v8 v9 v10 v11 v12 v13 v14 v15 v16 v17 v18 v19 v20 v21 v22 v23 v24 v25 v26 v27 v28 v29 v30 v31 v32 v33 hs hltF
              go_simp
              first | done | rfl | (intro h_; exfalso; omega)
            | 10, _ =>
              have e0 := puts_other V 0 dn FA 0 (by rw [hV]; simp)
              rw [show FA.eval (.tmp 0) = .slice (some ad) l0.length c0 from by rw [← hFA]; rfl] at e0
              refine op_run rfl rfl ?_ ⟨⟨_, _, v10, rfl⟩, hW.same (by decide) (by decide)⟩
              generalize (puts V 0 dn FA).eval = ev at e0 ⊢
              clear hdep v0 v1 v2 v3 v4 v5 v6 v7 v8 v9 v10 v11 v12 v13 v14 v15 v16 v17 v18 v19 v20 v21 v22 v23 v24 v25 v26 v27 v28 v29 v30 v31 v32 v33 hs hltF
              go_simp
              first | done | rfl | (intro h_; exfalso; omega)
            | 11, _ =>
              have hd := hdep _ rfl
              simp [Region.binds] at hd
              have hj10 : dn 10 = true := by first | exact hd | simp [hd]
              have e41 := done0 10 41 hs v10 (hltF _ (by decide)) hj10
              have hc : ∀ c, (puts V 0 dn FA).eval (.const c) = c := fun _ => rfl
              refine op_run rfl rfl ?_ ⟨⟨_, _, v11, rfl⟩, hW.same (by decide) (by decide)⟩
              generalize (puts V 0 dn FA).eval = ev at e41 hc ⊢
              clear hdep v0 v1 v2 v3 v4 v5 v6 v7 v8 v9 v10 v11 v12 v13 v14 v15 v16 v17 v18 v19 v20 v21 v22 v23 v24 v25 v26 v27 v28 v29 v30 v31 v32 v33 hs hltF
              go_simp
              first | done | rfl | (intro h_; exfalso; omega)
            | 12, _ =>
              have hd := hdep _ rfl
              simp [Region.binds] at hd
              have hj11 : dn 11 = true := by first | exact hd | simp [hd]
              have e42 := done0 11 42 hs v11 (hltF _ (by decide)) hj11
              have hf : ∀ f, (puts V 0 dn FA).eval (.func f) = .func (.func f) #[] #[] := fun _ => rfl
              refine op_call rfl rfl (w1 := w') (f := 71) (args := #[.slice A6 D6.length K6]) (v := .int .u16 t8) ?_ ?_
              · generalize (puts V 0 dn FA).eval = ev at e42 hf ⊢
                clear hdep v0 v1 v2 v3 v4 v5 v6 v7 v8 v9 v10 v11 v12 v13 v14 v15 v16 v17 v18 v19 v20 v21 v22 v23 v24 v25 v26 v27 v28 v29 v30 v31 v32 v33 hs hltF
                go_simp
                first | done | rfl
              · refine (seg_word.calls A6 K6 D6 t8 _ (Kd.C_below C6.out (below_step HB3.out hW.below)) CAP6.out (by rw [HD6.out]; exact F6.out)).mono ?_
                rintro e_ w_ ⟨rfl, ⟨nd, rfl⟩⟩
                exact ⟨rfl, ⟨_, _, v12, rfl⟩, hW.quiet (by decide) (by decide)⟩
            | 13, _ =>
              have hd := hdep _ rfl
              simp [Region.binds] at hd
              have hj12 : dn 12 = true := by first | exact hd | simp [hd]
              have e43 := done0 12 43 hs v12 (hltF _ (by decide)) hj12
              refine op_run rfl rfl ?_ ⟨⟨_, _, v13, rfl⟩, hW.same (by decide) (by decide)⟩
              generalize (puts V 0 dn FA).eval = ev at e43 ⊢
              clear hdep v0 v1 v2 v3 v4 v5 v6 v7 v8 v9 v10 v11 v12 v13 v14 v15 v16 v17 v18 v19 v20 v21 v22 v23 v24 v25 v26 v27 v28 v29 v30 v31 v32 v33 hs hltF
              go_simp
              first | done | rfl | (intro h_; exfalso; omega)
            | 14, _ =>
              have hd := hdep _ rfl
              simp [Region.binds] at hd
              have hj9 : dn 9 = true := by first | exact hd | simp [hd]
              have e40 := done0 9 40 hs v9 (hltF _ (by decide)) hj9
              have hj13 : dn 13 = true := by first | exact hd | simp [hd]
              have e44 := done0 13 44 hs v13 (hltF _ (by decide)) hj13
              refine op_run rfl rfl ?_ ⟨⟨_, _, v14, rfl⟩, hW.same (by decide) (by decide)⟩
              generalize (puts V 0 dn FA).eval = ev at e40 e44 ⊢
              clear hdep v0 v1 v2 v3 v4 v5 v6 v7 v8 v9 v10 v11 v12 v13 v14 v15 v16 v17 v18 v19 v20 v21 v22 v23 v24 v25 v26 v27 v28 v29 v30 v31 v32 v33 hs hltF
              go_simp
              first | done | rfl | (intro h_; exfalso; omega)
            | 15, _ =>
              have e0 := puts_other V 0 dn FA 0 (by rw [hV]; simp)
              rw [show FA.eval (.tmp 0) = .slice (some ad) l0.length c0 from by rw [← hFA]; rfl] at e0
              refine op_run rfl rfl ?_ ⟨⟨_, _, v15, rfl⟩, hW.same (by decide) (by decide)⟩
              generalize (puts V 0 dn FA).eval = ev at e0 ⊢
              clear hdep v0 v1 v2 v3 v4 v5 v6 v7 v8 v9 v10 v11 v12 v13 v14 v15 v16 v17 v18 v19 v20 v21 v22 v23 v24 v25 v26 v27 v28 v29 v30 v31 v32 v33 hs hltF
              go_simp
              first | done | rfl | (intro h_; exfalso; omega)
            | 16, _ =>
              have hd := hdep _ rfl
              simp [Region.binds] at hd
              have hj15 : dn 15 = true := by first | exact hd | simp [hd]
              have e46 := done0 15 46 hs v15 (hltF _ (by decide)) hj15
              have hc : ∀ c, (puts V 0 dn FA).eval (.const c) = c := fun _ => rfl
              refine op_run rfl rfl ?_ ⟨⟨_, _, v16, rfl⟩, hW.same (by decide) (by decide)⟩
              generalize (puts V 0 dn FA).eval = ev at e46 hc ⊢
              clear hdep v0 v1 v2 v3 v4 v5 v6 v7 v8 v9 v10 v11 v12 v13 v14 v15 v16 v17 v18 v19 v20 v21 v22 v23 v24 v25 v26 v27 v28 v29 v30 v31 v32 v33 hs hltF
              go_simp
              first | done | rfl | (intro h_; exfalso; omega)
            | 17, _ =>
              have hd := hdep _ rfl
              simp [Region.binds] at hd
              have hj16 : dn 16 = true := by first | exact hd | simp [hd]
              have e47 := done0 16 47 hs v16 (hltF _ (by decide)) hj16
              have hf : ∀ f, (puts V 0 dn FA).eval (.func f) = .func (.func f) #[] #[] := fun _ => rfl
              refine op_call rfl rfl (w1 := w') (f := 71) (args := #[.slice A8 D8.length K8]) (v := .int .u16 t9) ?_ ?_
              · generalize (puts V 0 dn FA).eval = ev at e47 hf ⊢
                clear hdep v0 v1 v2 v3 v4 v5 v6 v7 v8 v9 v10 v11 v12 v13 v14 v15 v16 v17 v18 v19 v20 v21 v22 v23 v24 v25 v26 v27 v28 v29 v30 v31 v32 v33 hs hltF
                go_simp
                first | done | rfl
              · refine (seg_word.calls A8 K8 D8 t9 _ (Kd.C_below C8.out (below_step HB3.out hW.below)) CAP8.out (by rw [HD8.out]; exact F8.out)).mono ?_
                rintro e_ w_ ⟨rfl, ⟨nd, rfl⟩⟩
                exact ⟨rfl, ⟨_, _, v17, rfl⟩, hW.quiet (by decide) (by decide)⟩
            | 18, _ =>
              have hd := hdep _ rfl
              simp [Region.binds] at hd
              have hj17 : dn 17 = true := by first | exact hd | simp [hd]
              have e48 := done0 17 48 hs v17 (hltF _ (by decide)) hj17
              refine op_run rfl rfl ?_ ⟨⟨_, _, v18, rfl⟩, hW.same (by decide) (by decide)⟩
              generalize (puts V 0 dn FA).eval = ev at e48 ⊢
              clear hdep v0 v1 v2 v3 v4 v5 v6 v7 v8 v9 v10 v11 v12 v13 v14 v15 v16 v17 v18 v19 v20 v21 v22 v23 v24 v25 v26 v27 v28 v29 v30 v31 v32 v33 hs hltF
              go_simp
              first | done | rfl | (intro h_; exfalso; omega)
            | 19, _ =>
              have hd := hdep _ rfl
              simp [Region.binds] at hd
              have hj18 : dn 18 = true := by first | exact hd | simp [hd]
              have e49 := done0 18 49 hs v18 (hltF _ (by decide)) hj18
              have hc : ∀ c, (puts V 0 dn FA).eval (.const c) = c := fun _ => rfl
              refine op_run rfl rfl ?_ ⟨⟨_, _, v19, rfl⟩, hW.same (by decide) (by decide)⟩
              generalize (puts V 0 dn FA).eval = ev at e49 hc ⊢
              clear hdep v0 v1 v2 v3 v4 v5 v6 v7 v8 v9 v10 v11 v12 v13 v14 v15 v16 v17 v18 v19 v20 v21 v22 v23 v24 v25 v26 v27 v28 v29 v30 v31 v32 v33 hs hltF
              go_simp
              first | done | rfl | (intro h_; exfalso; omega)
            | 20, _ =>
              have e0 := puts_other V 0 dn FA 0 (by rw [hV]; simp)
              rw [show FA.eval (.tmp 0) = .slice (some ad) l0.length c0 from by rw [← hFA]; rfl] at e0
              refine op_run rfl rfl ?_ ⟨⟨_, _, v20, rfl⟩, hW.same (by decide) (by decide)⟩
              generalize (puts V 0 dn FA).eval = ev at e0 ⊢
              clear hdep v0 v1 v2 v3 v4 v5 v6 v7 v8 v9 v10 v11 v12 v13 v14 v15 v16 v17 v18 v19 v20 v21 v22 v23 v24 v25 v26 v27 v28 v29 v30 v31 v32 v33 hs hltF
              go_simp
              first | done | rfl | (intro h_; exfalso; omega)
            | 21, _ =>
              have hd := hdep _ rfl
              simp [Region.binds] at hd
              have hj20 : dn 20 = true := by first | exact hd | simp [hd]
              have e51 := done0 20 51 hs v20 (hltF _ (by decide)) hj20
              have hc : ∀ c, (puts V 0 dn FA).eval (.const c) = c := fun _ => rfl
              refine op_run rfl rfl ?_ ⟨⟨_, _, v21, rfl⟩, hW.same (by decide) (by decide)⟩
              generalize (puts V 0 dn FA).eval = ev at e51 hc ⊢
              clear hdep v0 v1 v2 v3 v4 v5 v6 v7 v8 v9 v10 v11 v12 v13 v14 v15 v16 v17 v18 v19 v20 v21 v22 v23 v24 v25 v26 v27 v28 v29 v30 v31 v32 v33 hs hltF
              go_simp
              first | done | rfl | (intro h_; exfalso; omega)
            | 22, _ =>
              have hd := hdep _ rfl
              simp [Region.binds] at hd
              have hj21 : dn 21 = true := by first | exact hd | simp [hd]
              have e52 := done0 21 52 hs v21 (hltF _ (by decide)) hj21
              have hf : ∀ f, (puts V 0 dn FA).eval (.func f) = .func (.func f) #[] #[] := fun _ => rfl
              refine op_call rfl rfl (w1 := w') (f := 71) (args := #[.slice A10 D10.length K10]) (v := .int .u16 u0) ?_ ?_
              · generalize (puts V 0 dn FA).eval = ev at e52 hf ⊢
                clear hdep v0 v1 v2 v3 v4 v5 v6 v7 v8 v9 v10 v11 v12 v13 v14 v15 v16 v17 v18 v19 v20 v21 v22 v23 v24 v25 v26 v27 v28 v29 v30 v31 v32 v33 hs hltF
                go_simp
                first | done | rfl
              · refine (seg_word.calls A10 K10 D10 u0 _ (Kd.C_below C10.out (below_step HB3.out hW.below)) CAP10.out (by rw [HD10.out]; exact F10.out)).mono ?_
                rintro e_ w_ ⟨rfl, ⟨nd, rfl⟩⟩
                exact ⟨rfl, ⟨_, _, v22, rfl⟩, hW.quiet (by decide) (by decide)⟩
            | 23, _ =>
              have hd := hdep _ rfl
              simp [Region.binds] at hd
              have hj22 : dn 22 = true := by first | exact hd | simp [hd]
              have e53 := done0 22 53 hs v22 (hltF _ (by decide)) hj22
              refine op_run rfl rfl ?_ ⟨⟨_, _, v23, rfl⟩, hW.same (by decide) (by decide)⟩
              generalize (puts V 0 dn FA).eval = ev at e53 ⊢
              clear hdep v0 v1 v2 v3 v4 v5 v6 v7 v8 v9 v10 v11 v12 v13 v14 v15 v16 v17 v18 v19 v20 v21 v22 v23 v24 v25 v26 v27 v28 v29 v30 v31 v32 v33 hs hltF
              go_simp
              first | done | rfl | (intro h_; exfalso; omega)
            | 24, _ =>
              have hd := hdep _ rfl
              simp [Region.binds] at hd
              have hj19 : dn 19 = true := by first | exact hd | simp [hd]
              have e50 := done0 19 50 hs v19 (hltF _ (by decide)) hj19
              have hj23 : dn 23 = true := by first | exact hd | simp [hd]
              have e54 := done0 23 54 hs v23 (hltF _ (by decide)) hj23
              refine op_run rfl rfl ?_ ⟨⟨_, _, v24, rfl⟩, hW.same (by decide) (by decide)⟩
              generalize (puts V 0 dn FA).eval = ev at e50 e54 ⊢
              clear hdep v0 v1 v2 v3 v4 v5 v6 v7 v8 v9 v10 v11 v12 v13 v14 v15 v16 v17 v18 v19 v20 v21 v22 v23 v24 v25 v26 v27 v28 v29 v30 v31 v32 v33 hs hltF
              go_simp
              first | done | rfl | (intro h_; exfalso; omega)
            | 25, _ =>
              have e0 := puts_other V 0 dn FA 0 (by rw [hV]; simp)
              rw [show FA.eval (.tmp 0) = .slice (some ad) l0.length c0 from by rw [← hFA]; rfl] at e0
              refine op_run rfl rfl ?_ ⟨⟨_, _, v25, rfl⟩, hW.same (by decide) (by decide)⟩
              generalize (puts V 0 dn FA).eval = ev at e0 ⊢
              clear hdep v0 v1 v2 v3 v4 v5 v6 v7 v8 v9 v10 v11 v12 v13 v14 v15 v16 v17 v18 v19 v20 v21 v22 v23 v24 v25 v26 v27 v28 v29 v30 v31 v32 v33 hs hltF
              go_simp
              first | done | rfl | (intro h_; exfalso; omega)
            | 26, _ =>
              have hd := hdep _ rfl
              simp [Region.binds] at hd
              have hj25 : dn 25 = true := by first | exact hd | simp [hd]
              have e56 := done0 25 56 hs v25 (hltF _ (by decide)) hj25
              have hc : ∀ c, (puts V 0 dn FA).eval (.const c) = c := fun _ => rfl
              have n13 : (13 : Nat) < l0.length := by have := HL.out; omega
              have d13 : decide ((13 : Int) < (l0.length : Int)) = true := decide_eq_true (by have := HL.out; omega)
              refine op_run rfl rfl ?_ ⟨⟨_, _, v26, rfl⟩, hW.same (by decide) (by decide)⟩
              generalize (puts V 0 dn FA).eval = ev at e56 hc ⊢
              clear hdep v0 v1 v2 v3 v4 v5 v6 v7 v8 v9 v10 v11 v12 v13 v14 v15 v16 v17 v18 v19 v20 v21 v22 v23 v24 v25 v26 v27 v28 v29 v30 v31 v32 v33 hs hltF
              go_simp
              first | done | rfl | (intro h_; exfalso; omega)
            | 27, _ =>
              have hd := hdep _ rfl
              simp [Region.binds] at hd
              have hj26 : dn 26 = true := by first | exact hd | simp [hd]
              have e57 := done0 26 57 hs v26 (hltF _ (by decide)) hj26
              have u13 := ((below_step HB3.out hW.below).cell (by exact HLA.out)).trans G13.out
              simp only [Int.cast_ofNat_Int] at u13
              refine op_run rfl rfl ?_ ⟨⟨_, _, v27, rfl⟩, hW.same (by decide) (by decide)⟩
              generalize (puts V 0 dn FA).eval = ev at e57 ⊢
              clear hdep v0 v1 v2 v3 v4 v5 v6 v7 v8 v9 v10 v11 v12 v13 v14 v15 v16 v17 v18 v19 v20 v21 v22 v23 v24 v25 v26 v27 v28 v29 v30 v31 v32 v33 hs hltF
              go_simp
              first | done | rfl | (intro h_; exfalso; omega)
            | 28, _ =>
              have e0 := puts_other V 0 dn FA 0 (by rw [hV]; simp)
              rw [show FA.eval (.tmp 0) = .slice (some ad) l0.length c0 from by rw [← hFA]; rfl] at e0
              refine op_run rfl rfl ?_ ⟨⟨_, _, v28, rfl⟩, hW.same (by decide) (by decide)⟩
              generalize (puts V 0 dn FA).eval = ev at e0 ⊢
              clear hdep v0 v1 v2 v3 v4 v5 v6 v7 v8 v9 v10 v11 v12 v13 v14 v15 v16 v17 v18 v19 v20 v21 v22 v23 v24 v25 v26 v27 v28 v29 v30 v31 v32 v33 hs hltF
              go_simp
              first | done | rfl | (intro h_; exfalso; omega)
            | 29, _ =>
              have hd := hdep _ rfl
              simp [Region.binds] at hd
              have hj28 : dn 28 = true := by first | exact hd | simp [hd]
              have e59 := done0 28 59 hs v28 (hltF _ (by decide)) hj28
              have hc : ∀ c, (puts V 0 dn FA).eval (.const c) = c := fun _ => rfl
              refine op_run rfl rfl ?_ ⟨⟨_, _, v29, rfl⟩, hW.same (by decide) (by decide)⟩
              generalize (puts V 0 dn FA).eval = ev at e59 hc ⊢
              clear hdep v0 v1 v2 v3 v4 v5 v6 v7 v8 v9 v10 v11 v12 v13 v14 v15 v16 v17 v18 v19 v20 v21 v22 v23 v24 v25 v26 v27 v28 v29 v30 v31 v32 v33 hs hltF
              go_simp
              first | done | rfl | (intro h_; exfalso; omega)
            | 30, _ =>
              have hd := hdep _ rfl
              simp [Region.binds] at hd
              have hj29 : dn 29 = true := by first | exact hd | simp [hd]
              have e60 := done0 29 60 hs v29 (hltF _ (by decide)) hj29
              have hf : ∀ f, (puts V 0 dn FA).eval (.func f) = .func (.func f) #[] #[] := fun _ => rfl
              refine op_call rfl rfl (w1 := w') (f := 71) (args := #[.slice A14 D14.length K14]) (v := .int .u16 u1) ?_ ?_
              · generalize (puts V 0 dn FA).eval = ev at e60 hf ⊢
                clear hdep v0 v1 v2 v3 v4 v5 v6 v7 v8 v9 v10 v11 v12 v13 v14 v15 v16 v17 v18 v19 v20 v21 v22 v23 v24 v25 v26 v27 v28 v29 v30 v31 v32 v33 hs hltF
                go_simp
                first | done | rfl
              · refine (seg_word.calls A14 K14 D14 u1 _ (Kd.C_below C14.out (below_step HB3.out hW.below)) CAP14.out (by rw [HD14.out]; exact F14.out)).mono ?_
                rintro e_ w_ ⟨rfl, ⟨nd, rfl⟩⟩
                exact ⟨rfl, ⟨_, _, v30, rfl⟩, hW.quiet (by decide) (by decide)⟩
            | 31, _ =>
              have hd := hdep _ rfl
              simp [Region.binds] at hd
              have hj1 : dn 1 = true := by first | exact hd | simp [hd]
              have e32 := done0 1 32 hs v1 (hltF _ (by decide)) hj1
              have hj4 : dn 4 = true := by first | exact hd | simp [hd]
              have e35 := done0 4 35 hs v4 (hltF _ (by decide)) hj4
              have hj14 : dn 14 = true := by first | exact hd | simp [hd]
              have e45 := done0 14 45 hs v14 (hltF _ (by decide)) hj14
              have hj24 : dn 24 = true := by first | exact hd | simp [hd]
              have e55 := done0 24 55 hs v24 (hltF _ (by decide)) hj24
              have hj27 : dn 27 = true := by first | exact hd | simp [hd]
              have e58 := done0 27 58 hs v27 (hltF _ (by decide)) hj27
              have hj30 : dn 30 = true := by first | exact hd | simp [hd]
              have e61 := done0 30 61 hs v30 (hltF _ (by decide)) hj30
              refine op_run rfl rfl ?_ ⟨⟨_, _, v31, rfl⟩, hW.same (by decide) (by decide)⟩
              generalize (puts V 0 dn FA).eval = ev at e32 e35 e45 e55 e58 e61 ⊢
              clear hdep v0 v1 v2 v3 v4 v5 v6 v7 v8 v9 v10 v11 v12 v13 v14 v15 v16 v17 v18 v19 v20 v21 v22 v23 v24 v25 v26 v27 v28 v29 v30 v31 v32 v33 hs hltF
              go_simp
              first | done | rfl | (intro h_; exfalso; omega)
            | 32, _ =>
              have hz := hW.size hdn
              refine op_run (w' := w'.alloc (.cells #[.int .u16 0, .int .u16 0, .int .u32 0, .int .u32 0, .int .u8 0, .int .u16 0] 59)) rfl rfl ?_ ⟨⟨_, _, v32, rfl⟩, hW.alloc hdn (by decide)⟩
              generalize (puts V 0 dn FA).eval = ev
              clear hdep v0 v1 v2 v3 v4 v5 v6 v7 v8 v9 v10 v11 v12 v13 v14 v15 v16 v17 v18 v19 v20 v21 v22 v23 v24 v25 v26 v27 v28 v29 v30 v31 v32 v33 hs hltF
              go_simp
              first | done | rfl | (simp only [hz]; done) | (rw [hz])
            | 33, _ =>
              have hd := hdep _ rfl
              simp [Region.binds] at hd
              have hj32 : dn 32 = true := by first | exact hd | simp [hd]
              have e4 := done0 32 4 hs v32 (hltF _ (by decide)) hj32
              have hj31 : dn 31 = true := by first | exact hd | simp [hd]
              have e62 := done0 31 62 hs v31 (hltF _ (by decide)) hj31
              have hz := hW.zero hj32 hdn
              have hk0 := blk_cell hz 0
              have hf0 := blk_frozen hz 0
              have hk1 := blk_cell hz 1
              have hf1 := blk_frozen hz 1
              have hk2 := blk_cell hz 2
              have hf2 := blk_frozen hz 2
              have hk3 := blk_cell hz 3
              have hf3 := blk_frozen hz 3
              have hk4 := blk_cell hz 4
              have hf4 := blk_frozen hz 4
              have hk5 := blk_cell hz 5
              have hf5 := blk_frozen hz 5
              have HW := Aside0.mk hW
              have HZ := Aside0.mk hz
              clear hz
              have hlay : lay #[.int .u16 0, .int .u16 0, .int .u32 0, .int .u32 0, .int .u8 0, .int .u16 0] 0 [.int .u16 t5, .int .u16 t6, .int .u32 (Go.bits .or .u32 (IntKind.u32.wrap ((IntKind.u32.wrap t7) * 65536)) (IntKind.u32.wrap t8)), .int .u32 (Go.bits .or .u32 (IntKind.u32.wrap ((IntKind.u32.wrap t9) * 65536)) (IntKind.u32.wrap u0)), .int .u8 (rd l0 13), .int .u16 u1] = #[.int .u16 t5, .int .u16 t6, .int .u32 (Go.bits .or .u32 (IntKind.u32.wrap ((IntKind.u32.wrap t7) * 65536)) (IntKind.u32.wrap t8)), .int .u32 (Go.bits .or .u32 (IntKind.u32.wrap ((IntKind.u32.wrap t9) * 65536)) (IntKind.u32.wrap u0)), .int .u8 (rd l0 13), .int .u16 u1] := by simp only [lay, List.setIfInBounds_toArray, List.set_cons_zero, List.set_cons_succ, Nat.reduceAdd]
              refine op_skip (w' := w'.setCells w3.heap.size 0 [.int .u16 t5, .int .u16 t6, .int .u32 (Go.bits .or .u32 (IntKind.u32.wrap ((IntKind.u32.wrap t7) * 65536)) (IntKind.u32.wrap t8)), .int .u32 (Go.bits .or .u32 (IntKind.u32.wrap ((IntKind.u32.wrap t9) * 65536)) (IntKind.u32.wrap u0)), .int .u8 (rd l0 13), .int .u16 u1]) rfl rfl ?_ ⟨⟨_, _, v33, rfl⟩, hW.store hj32 (by decide) (setCells_grown _ _ _) (setCells_blk' hlay HZ.out)⟩
              clear hlay
              generalize (puts V 0 dn FA).eval = ev at e4 e62 ⊢
              clear hdep v0 v1 v2 v3 v4 v5 v6 v7 v8 v9 v10 v11 v12 v13 v14 v15 v16 v17 v18 v19 v20 v21 v22 v23 v24 v25 v26 v27 v28 v29 v30 v31 v32 v33 hs hltF hW
              go_simp
              first | done | rfl
            | n_ + 34, hi_ => exact absurd hi_ (by simp)
          clear hs hltF v0 v1 v2 v3 v4 v5 v6 v7 v8 v9 v10 v11 v12 v13 v14 v15 v16 v17 v18 v19 v20 v21 v22 v23 v24 v25 v26 v27 v28 v29 v30 v31 v32 v33
          intro w' hW
          rw [hV]
          simp only [putAll', Act.put, ← hFA, List.setIfInBounds_toArray, List.set_cons_zero, List.set_cons_succ]
          have hr := hW.row
          have hx := blk_below HXW.out hW.below
          have hbw := below_step HBW.out hW.below
          have hlw : w.heap.size < w3.heap.size := blk_lt HXW.out
          generalize w3.heap.size = g at hr hlw ⊢
          have k0 := blk_cell hr 0
          have m0 := blk_cell hx 0
          have f0 := blk_frozen hx 0
          have k1 := blk_cell hr 1
          have m1 := blk_cell hx 1
          have f1 := blk_frozen hx 1
          have k2 := blk_cell hr 2
          have m2 := blk_cell hx 2
          have f2 := blk_frozen hx 2
          have k3 := blk_cell hr 3
          have m3 := blk_cell hx 3
          have f3 := blk_frozen hx 3
          have k4 := blk_cell hr 4
          have m4 := blk_cell hx 4
          have f4 := blk_frozen hx 4
          have k5 := blk_cell hr 5
          have m5 := blk_cell hx 5
          have f5 := blk_frozen hx 5
          have HX := Aside0.mk hx
          have HBX := Aside0.mk hbw
          clear hr hx hbw hW hlw
          go_wp2
          have hlay : lay #[.int .u16 0, .int .u16 0, .int .u32 0, .int .u32 0, .int .u8 0, .int .u16 0] 0 [.int .u16 t5, .int .u16 t6, .int .u32 (Go.bits .or .u32 (IntKind.u32.wrap ((IntKind.u32.wrap t7) * 65536)) (IntKind.u32.wrap t8)), .int .u32 (Go.bits .or .u32 (IntKind.u32.wrap ((IntKind.u32.wrap t9) * 65536)) (IntKind.u32.wrap u0)), .int .u8 (rd l0 13), .int .u16 u1] = #[.int .u16 t5, .int .u16 t6, .int .u32 (Go.bits .or .u32 (IntKind.u32.wrap ((IntKind.u32.wrap t7) * 65536)) (IntKind.u32.wrap t8)), .int .u32 (Go.bits .or .u32 (IntKind.u32.wrap ((IntKind.u32.wrap t9) * 65536)) (IntKind.u32.wrap u0)), .int .u8 (rd l0 13), .int .u16 u1] := by simp only [lay, List.setIfInBounds_toArray, List.set_cons_zero, List.set_cons_succ, Nat.reduceAdd]
          refine bodyPost_ret (results_ct rfl _ _ w.heap.size 59 #[.int .u16 t5, .int .u16 t6, .int .u32 (Go.bits .or .u32 (IntKind.u32.wrap ((IntKind.u32.wrap t7) * 65536)) (IntKind.u32.wrap t8)), .int .u32 (Go.bits .or .u32 (IntKind.u32.wrap ((IntKind.u32.wrap t9) * 65536)) (IntKind.u32.wrap u0)), .int .u8 (rd l0 13), .int .u16 u1] (0, 0) _ rfl (setCells_blk' (vs := [.int .u16 t5, .int .u16 t6, .int .u32 (Go.bits .or .u32 (IntKind.u32.wrap ((IntKind.u32.wrap t7) * 65536)) (IntKind.u32.wrap t8)), .int .u32 (Go.bits .or .u32 (IntKind.u32.wrap ((IntKind.u32.wrap t9) * 65536)) (IntKind.u32.wrap u0)), .int .u8 (rd l0 13), .int .u16 u1]) (o := 0) hlay HX.out) hu rfl (by kernel_rfl)) rfl ?_
          exact ⟨rfl, below_setCells [.int .u16 t5, .int .u16 t6, .int .u32 (Go.bits .or .u32 (IntKind.u32.wrap ((IntKind.u32.wrap t7) * 65536)) (IntKind.u32.wrap t8)), .int .u32 (Go.bits .or .u32 (IntKind.u32.wrap ((IntKind.u32.wrap t9) * 65536)) (IntKind.u32.wrap u0)), .int .u8 (rd l0 13), .int .u16 u1] 0 HBX.out (Nat.le_refl _)⟩
        · rw [if_neg h8] at h
          have g8 : (t3 == t4) = false := beq_eq_false_iff_ne.mpr h8
          have g8' : (t3 != t4) = true := bne_iff_ne.mpr h8
          clear h8
          simp only [Option.some.injEq, Prod.mk.injEq] at h
          obtain ⟨rfl, rfl, rfl, rfl, rfl, rfl, rfl⟩ := h
          go_enter Try.func50, Try.ntmps50
          go_wp2_with fail
          generalize w.alloc (.cells #[.int .u16 0, .int .u16 0, .int .u32 0, .int .u32 0, .int .u8 0, .int .u16 0] 59) = w1 at HB HX1 HR1 HLA G13 C2 C4 C6 C8 C10 C12 C14 C16 C18 TC ⊢
          refine (seg_word.calls A12 K12 D12 t1 _ C12.out CAP12.out (by rw [HD12.out]; exact E1.out)).mono ?_
          rintro e_ w_ ⟨rfl, ⟨nd, rfl⟩⟩
          have hb2 := pw_below_drewN (Below.refl w1.heap.size w1) nd
          generalize w1.drewN nd = w2 at hb2 ⊢
          have HB1 := Aside0.mk hb2
          clear hb2
          go_wp2_with fail
          refine (seg_word.calls A18 K18 D18 t2 _ (Kd.C_below C18.out HB1.out) CAP18.out (by rw [HD18.out]; exact E2.out)).mono ?_
          rintro e_ w_ ⟨rfl, ⟨nd, rfl⟩⟩
          have hb2 := below_step HB1.out (pw_below_drewN (Below.refl w2.heap.size w2) nd)
          clear HB1
          generalize w2.drewN nd = w9 at hb2 ⊢
          have HB2 := Aside0.mk hb2
          clear hb2
          go_wp2_with fail
          generalize hFA : Act.mk _ _ = FA
          obtain ⟨V, hV⟩ : ∃ V : List (Option Tmp × Value), V = [(some 21, .slice (some ad) l0.length c0), (some 22, .slice A16 D16.length K16), (some 23, .int .u16 t3), (some 24, .slice (some ad) l0.length c0), (some 25, .slice (some ad) T6.length c0), (some 26, .slice (some ad) l0.length c0), (some 27, .slice A18 D18.length K18), (some 28, .int .u16 t4), (some 29, .bool (t3 != t4))] := ⟨_, rfl⟩
          have hs : slotsOk V := by rw [hV]; simp [slotsOk]
          have hltF : ∀ t, t < 64 → t < FA.tmps.size := fun t h => by rw [← hFA]; exact h
          have v0 : V[0]? = some (some 21, .slice (some ad) l0.length c0) := by rw [hV]; rfl
          have v1 : V[1]? = some (some 22, .slice A16 D16.length K16) := by rw [hV]; rfl
          have v2 : V[2]? = some (some 23, .int .u16 t3) := by rw [hV]; rfl
          have v3 : V[3]? = some (some 24, .slice (some ad) l0.length c0) := by rw [hV]; rfl
          have v4 : V[4]? = some (some 25, .slice (some ad) T6.length c0) := by rw [hV]; rfl
          have v5 : V[5]? = some (some 26, .slice (some ad) l0.length c0) := by rw [hV]; rfl
          have v6 : V[6]? = some (some 27, .slice A18 D18.length K18) := by rw [hV]; rfl
          have v7 : V[7]? = some (some 28, .int .u16 t4) := by rw [hV]; rfl
          have v8 : V[8]? = some (some 29, .bool (t3 != t4)) := by rw [hV]; rfl
          refine region_inv (by kernel_rfl) V (by rw [hV]; rfl) hs (by kernel_rfl) (fun _ w_ => Below w9.heap.size w9 w_) (fun dn dn' w_ h_ hw_ => hw_) (below_drew (Below.refl _ _)) ?_ ?_
          · intro i_ hi_ dn w' hW hdn hdep
            match i_, hi_ with
            | 0, _ =>
              have e0 := puts_other V 0 dn FA 0 (by rw [hV]; simp)
              rw [show FA.eval (.tmp 0) = .slice (some ad) l0.length c0 from by rw [← hFA]; rfl] at e0
              refine op_run rfl rfl ?_ ⟨⟨_, _, v0, rfl⟩, hW⟩
              generalize (puts V 0 dn FA).eval = ev at e0 ⊢
              clear hdep v0 v1 v2 v3 v4 v5 v6 v7 v8 hs hltF
              go_simp
              first | done | rfl
            | 1, _ =>
              have hd := hdep _ rfl
              simp [Region.binds] at hd
              have hj0 : dn 0 = true := by first | exact hd | simp [hd]
              have e21 := done0 0 21 hs v0 (hltF _ (by decide)) hj0
              have hc : ∀ c, (puts V 0 dn FA).eval (.const c) = c := fun _ => rfl
              refine op_run rfl rfl ?_ ⟨⟨_, _, v1, rfl⟩, hW⟩
              generalize (puts V 0 dn FA).eval = ev at e21 hc ⊢
              clear hdep v0 v1 v2 v3 v4 v5 v6 v7 v8 hs hltF
              go_simp
              first | done | rfl
            | 2, _ =>
              have hd := hdep _ rfl
              simp [Region.binds] at hd
              have hj1 : dn 1 = true := by first | exact hd | simp [hd]
              have e22 := done0 1 22 hs v1 (hltF _ (by decide)) hj1
              have hf : ∀ f, (puts V 0 dn FA).eval (.func f) = .func (.func f) #[] #[] := fun _ => rfl
              refine op_call rfl rfl (w1 := w') (f := 71) (args := #[.slice A16 D16.length K16]) (v := .int .u16 t3) ?_ ?_
              · generalize (puts V 0 dn FA).eval = ev at e22 hf ⊢
                clear hdep v0 v1 v2 v3 v4 v5 v6 v7 v8 hs hltF
                go_simp
                first | done | rfl
              · refine (seg_word.calls A16 K16 D16 t3 _ (Kd.C_below C16.out (below_step HB2.out hW)) CAP16.out (by rw [HD16.out]; exact E3.out)).mono ?_
                rintro e_ w_ ⟨rfl, ⟨nd, rfl⟩⟩
                exact ⟨rfl, ⟨_, _, v2, rfl⟩, pw_below_drewN hW nd⟩
            | 3, _ =>
              have e0 := puts_other V 0 dn FA 0 (by rw [hV]; simp)
              rw [show FA.eval (.tmp 0) = .slice (some ad) l0.length c0 from by rw [← hFA]; rfl] at e0
              refine op_run rfl rfl ?_ ⟨⟨_, _, v3, rfl⟩, hW⟩
              generalize (puts V 0 dn FA).eval = ev at e0 ⊢
              clear hdep v0 v1 v2 v3 v4 v5 v6 v7 v8 hs hltF
              go_simp
              first | done | rfl
            | 4, _ =>
              have hd := hdep _ rfl
              simp [Region.binds] at hd
              have hj3 : dn 3 = true := by first | exact hd | simp [hd]
              have e24 := done0 3 24 hs v3 (hltF _ (by decide)) hj3
              have hc : ∀ c, (puts V 0 dn FA).eval (.const c) = c := fun _ => rfl
              refine op_run rfl rfl ?_ ⟨⟨_, _, v4, rfl⟩, hW⟩
              generalize (puts V 0 dn FA).eval = ev at e24 hc ⊢
              clear hdep v0 v1 v2 v3 v4 v5 v6 v7 v8 hs hltF
              go_simp
              first | done | rfl
            | 5, _ =>
              have e0 := puts_other V 0 dn FA 0 (by rw [hV]; simp)
              rw [show FA.eval (.tmp 0) = .slice (some ad) l0.length c0 from by rw [← hFA]; rfl] at e0
              refine op_run rfl rfl ?_ ⟨⟨_, _, v5, rfl⟩, hW⟩
              generalize (puts V 0 dn FA).eval = ev at e0 ⊢
              clear hdep v0 v1 v2 v3 v4 v5 v6 v7 v8 hs hltF
              go_simp
              first | done | rfl
            | 6, _ =>
              have hd := hdep _ rfl
              simp [Region.binds] at hd
              have hj5 : dn 5 = true := by first | exact hd | simp [hd]
              have e26 := done0 5 26 hs v5 (hltF _ (by decide)) hj5
              have hc : ∀ c, (puts V 0 dn FA).eval (.const c) = c := fun _ => rfl
              refine op_run rfl rfl ?_ ⟨⟨_, _, v6, rfl⟩, hW⟩
              generalize (puts V 0 dn FA).eval = ev at e26 hc ⊢
              clear hdep v0 v1 v2 v3 v4 v5 v6 v7 v8 hs hltF
              go_simp
              first | done | rfl
            | 7, _ =>
              have hd := hdep _ rfl
              simp [Region.binds] at hd
              have hj4 : dn 4 = true := by first | exact hd | simp [hd]
              have e25 := done0 4 25 hs v4 (hltF _ (by decide)) hj4
              have hj6 : dn 6 = true := by first | exact hd | simp [hd]
              have e27 := done0 6 27 hs v6 (hltF _ (by decide)) hj6
              have hf : ∀ f, (puts V 0 dn FA).eval (.func f) = .func (.func f) #[] #[] := fun _ => rfl
              refine op_call rfl rfl (w1 := w') (f := 68) (args := #[.slice (some ad) T6.length c0, .slice A18 D18.length K18]) (v := .int .u16 t4) ?_ ?_
              · generalize (puts V 0 dn FA).eval = ev at e25 e27 hf ⊢
                clear hdep v0 v1 v2 v3 v4 v5 v6 v7 v8 hs hltF
                go_simp
                first | done | rfl
              · refine (seg_field.calls k (some ad) c0 T6 A18 K18 D18 t4 _ (Kd.C_below TC.out (below_step HB2.out hW)) TCAP.out (Kd.C_below C18.out (below_step HB2.out hW)) CAP18.out (by rw [HT6.out, HD18.out]; exact E4.out)).mono ?_
                rintro e_ w_ ⟨rfl, ⟨nd, rfl⟩⟩
                exact ⟨rfl, ⟨_, _, v7, rfl⟩, pw_below_drewN hW nd⟩
            | 8, _ =>
              have hd := hdep _ rfl
              simp [Region.binds] at hd
              have hj2 : dn 2 = true := by first | exact hd | simp [hd]
              have e23 := done0 2 23 hs v2 (hltF _ (by decide)) hj2
              have hj7 : dn 7 = true := by first | exact hd | simp [hd]
              have e28 := done0 7 28 hs v7 (hltF _ (by decide)) hj7
              refine op_run rfl rfl ?_ ⟨⟨_, _, v8, rfl⟩, hW⟩
              generalize (puts V 0 dn FA).eval = ev at e23 e28 ⊢
              clear hdep v0 v1 v2 v3 v4 v5 v6 v7 v8 hs hltF
              go_simp
              first | done | rfl
            | n_ + 9, hi_ => exact absurd hi_ (by simp)
          clear hs hltF v0 v1 v2 v3 v4 v5 v6 v7 v8
          intro w' hW
          rw [hV]
          simp only [putAll', Act.put, ← hFA, List.setIfInBounds_toArray, List.set_cons_zero, List.set_cons_succ]
          have hb3 := below_step HB2.out hW
          clear hW
          generalize w' = w3 at hb3 ⊢
          have hx := blk_below HX1.out hb3
          have m0 := blk_cell hx 0
          have f0 := blk_frozen hx 0
          have m1 := blk_cell hx 1
          have f1 := blk_frozen hx 1
          have m2 := blk_cell hx 2
          have f2 := blk_frozen hx 2
          have m3 := blk_cell hx 3
          have f3 := blk_frozen hx 3
          have m4 := blk_cell hx 4
          have f4 := blk_frozen hx 4
          have m5 := blk_cell hx 5
          have f5 := blk_frozen hx 5
          have HX := Aside0.mk hx
          have HBW := Aside0.mk (below_step HB.out hb3)
          clear hx hb3
          go_wp2
          have hlay : lay #[.int .u16 0, .int .u16 0, .int .u32 0, .int .u32 0, .int .u8 0, .int .u16 0] 0 [.int .u16 0, .int .u16 0, .int .u32 0, .int .u32 0, .int .u8 0, .int .u16 0] = #[.int .u16 0, .int .u16 0, .int .u32 0, .int .u32 0, .int .u8 0, .int .u16 0] := by simp only [lay, List.setIfInBounds_toArray, List.set_cons_zero, List.set_cons_succ, Nat.reduceAdd]
          exact bodyPost_ret (results_ct rfl _ _ w.heap.size 59 #[.int .u16 0, .int .u16 0, .int .u32 0, .int .u32 0, .int .u8 0, .int .u16 0] (0, 0) _ rfl (setCells_blk' (vs := [.int .u16 0, .int .u16 0, .int .u32 0, .int .u32 0, .int .u8 0, .int .u16 0]) (o := 0) hlay HX.out) hu rfl (by kernel_rfl)) rfl ⟨rfl, below_setCells [.int .u16 0, .int .u16 0, .int .u32 0, .int .u32 0, .int .u8 0, .int .u16 0] 0 HBW.out (Nat.le_refl _)⟩
      · rw [if_neg h9] at h
        have g9 : (t2 == 0) = false := beq_eq_false_iff_ne.mpr h9
        have g9' : (t2 != 0) = true := bne_iff_ne.mpr h9
        clear h9
        simp only [Option.some.injEq, Prod.mk.injEq] at h
        obtain ⟨rfl, rfl, rfl, rfl, rfl, rfl, rfl⟩ := h
        go_enter Try.func50, Try.ntmps50
        go_wp2_with fail
        generalize w.alloc (.cells #[.int .u16 0, .int .u16 0, .int .u32 0, .int .u32 0, .int .u8 0, .int .u16 0] 59) = w1 at HB HX1 HR1 HLA G13 C2 C4 C6 C8 C10 C12 C14 C16 C18 TC ⊢
        refine (seg_word.calls A12 K12 D12 t1 _ C12.out CAP12.out (by rw [HD12.out]; exact E1.out)).mono ?_
        rintro e_ w_ ⟨rfl, ⟨nd, rfl⟩⟩
        have hb2 := pw_below_drewN (Below.refl w1.heap.size w1) nd
        generalize w1.drewN nd = w2 at hb2 ⊢
        have HB1 := Aside0.mk hb2
        clear hb2
        go_wp2_with fail
        refine (seg_word.calls A18 K18 D18 t2 _ (Kd.C_below C18.out HB1.out) CAP18.out (by rw [HD18.out]; exact E2.out)).mono ?_
        rintro e_ w_ ⟨rfl, ⟨nd, rfl⟩⟩
        have hb2 := below_step HB1.out (pw_below_drewN (Below.refl w2.heap.size w2) nd)
        clear HB1
        generalize w2.drewN nd = w9 at hb2 ⊢
        have hx := blk_below HX1.out hb2
        have m0 := blk_cell hx 0
        have f0 := blk_frozen hx 0
        have m1 := blk_cell hx 1
        have f1 := blk_frozen hx 1
        have m2 := blk_cell hx 2
        have f2 := blk_frozen hx 2
        have m3 := blk_cell hx 3
        have f3 := blk_frozen hx 3
        have m4 := blk_cell hx 4
        have f4 := blk_frozen hx 4
        have m5 := blk_cell hx 5
        have f5 := blk_frozen hx 5
        have HX := Aside0.mk hx
        have HBW := Aside0.mk (below_step HB.out hb2)
        clear hx hb2
        go_wp2
        have hlay : lay #[.int .u16 0, .int .u16 0, .int .u32 0, .int .u32 0, .int .u8 0, .int .u16 0] 0 [.int .u16 0, .int .u16 0, .int .u32 0, .int .u32 0, .int .u8 0, .int .u16 0] = #[.int .u16 0, .int .u16 0, .int .u32 0, .int .u32 0, .int .u8 0, .int .u16 0] := by simp only [lay, List.setIfInBounds_toArray, List.set_cons_zero, List.set_cons_succ, Nat.reduceAdd]
        exact bodyPost_ret (results_ct rfl _ _ w.heap.size 59 #[.int .u16 0, .int .u16 0, .int .u32 0, .int .u32 0, .int .u8 0, .int .u16 0] (0, 0) _ rfl (setCells_blk' (vs := [.int .u16 0, .int .u16 0, .int .u32 0, .int .u32 0, .int .u8 0, .int .u16 0]) (o := 0) hlay HX.out) hu rfl (by kernel_rfl)) rfl ⟨rfl, below_setCells [.int .u16 0, .int .u16 0, .int .u32 0, .int .u32 0, .int .u8 0, .int .u16 0] 0 HBW.out (Nat.le_refl _)⟩
    · rw [if_neg h7] at h
      have g7 : ((Go.bits .andNot .u16 t1 63) == 20480) = false := beq_eq_false_iff_ne.mpr h7
      have g7' : ((Go.bits .andNot .u16 t1 63) != 20480) = true := bne_iff_ne.mpr h7
      clear h7
      simp only [Option.some.injEq, Prod.mk.injEq] at h
      obtain ⟨rfl, rfl, rfl, rfl, rfl, rfl, rfl⟩ := h
      go_enter Try.func50, Try.ntmps50
      go_wp2_with fail
      generalize w.alloc (.cells #[.int .u16 0, .int .u16 0, .int .u32 0, .int .u32 0, .int .u8 0, .int .u16 0] 59) = w1 at HB HX1 HR1 HLA G13 C2 C4 C6 C8 C10 C12 C14 C16 C18 TC ⊢
      refine (seg_word.calls A12 K12 D12 t1 _ C12.out CAP12.out (by rw [HD12.out]; exact E1.out)).mono ?_
      rintro e_ w_ ⟨rfl, ⟨nd, rfl⟩⟩
      have hb2 := pw_below_drewN (Below.refl w1.heap.size w1) nd
      generalize w1.drewN nd = w2 at hb2 ⊢
      have hx := blk_below HX1.out hb2
      have m0 := blk_cell hx 0
      have f0 := blk_frozen hx 0
      have m1 := blk_cell hx 1
      have f1 := blk_frozen hx 1
      have m2 := blk_cell hx 2
      have f2 := blk_frozen hx 2
      have m3 := blk_cell hx 3
      have f3 := blk_frozen hx 3
      have m4 := blk_cell hx 4
      have f4 := blk_frozen hx 4
      have m5 := blk_cell hx 5
      have f5 := blk_frozen hx 5
      have HX := Aside0.mk hx
      have HBW := Aside0.mk (below_step HB.out hb2)
      clear hx hb2
      go_wp2
      have hlay : lay #[.int .u16 0, .int .u16 0, .int .u32 0, .int .u32 0, .int .u8 0, .int .u16 0] 0 [.int .u16 0, .int .u16 0, .int .u32 0, .int .u32 0, .int .u8 0, .int .u16 0] = #[.int .u16 0, .int .u16 0, .int .u32 0, .int .u32 0, .int .u8 0, .int .u16 0] := by simp only [lay, List.setIfInBounds_toArray, List.set_cons_zero, List.set_cons_succ, Nat.reduceAdd]
      exact bodyPost_ret (results_ct rfl _ _ w.heap.size 59 #[.int .u16 0, .int .u16 0, .int .u32 0, .int .u32 0, .int .u8 0, .int .u16 0] (0, 0) _ rfl (setCells_blk' (vs := [.int .u16 0, .int .u16 0, .int .u32 0, .int .u32 0, .int .u8 0, .int .u16 0]) (o := 0) hlay HX.out) hu rfl (by kernel_rfl)) rfl ⟨rfl, below_setCells [.int .u16 0, .int .u16 0, .int .u32 0, .int .u32 0, .int .u8 0, .int .u16 0] 0 HBW.out (Nat.le_refl _)⟩

end Go.Proofs.Ytipdajgcepefgaa.P
