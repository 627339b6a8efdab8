/- Contracts of the functions that the statements reach, and the statements: written by a program of this repo (wip/patch_print.py); Lean checks every line; no conditions. -/
import Derived.Test.YtipdajgcepefgaaPx0
import Derived.Test.YtipdajgcepefgaaPx3
import Derived.Test.YtipdajgcepefgaaPx8
namespace Go.Proofs.Ytipdajgcepefgaa.P
open Go.RowKit Go.Proofs.YtipdajgcepefgaaW.PrintWords Go.Proofs.YtipdajgcepefgaaW.PrintLast Go.Proofs.YtipdajgcepefgaaW.PrintMore
attribute [local go_sem] max2_int min2_int max_two min_two max_three min_three max_four min_four Go.Proofs.YtipdajgcepefgaaW.Own.u16_all   -- for this text's walks alone
set_option linter.unusedVariables false
set_option linter.unusedSimpArgs false

/-! ### net4_Read: function 27 -/
def net4_Read.f (k : Nat) (l0 : List Int) : Option (Int × Int × Int × Int × Int × Int × Int × Int × Int × Int × Int × Int × Int) := if (l0.length : Int) < 20 then (some (0, 0, 0, 0, 0, 0, 0, 0, 0, 0, 0, 0, 6)) else if rd l0 0 = 69 then ((net4_word.f (l0.drop 6)).bind fun t1 => if t1 = 0 then ((net4_word.f (l0.drop 2)).bind fun t2 => if wrap64 t2 = (l0.length : Int) then ((net4_word.f (l0.drop 10)).bind fun t3 => ((net4_field.f k (l0.take 10) ((l0.take 20).drop 12)).bind fun t4 => if t3 = t4 then ((net4_word.f (l0.drop 4)).bind fun t5 => some (rd l0 1, rd l0 8, rd l0 9, t5, rd l0 12, rd l0 13, rd l0 14, rd l0 15, rd l0 16, rd l0 17, rd l0 18, rd l0 19, 0)) else some (0, 0, 0, 0, 0, 0, 0, 0, 0, 0, 0, 0, 110))) else some (0, 0, 0, 0, 0, 0, 0, 0, 0, 0, 0, 0, 70)) else some (0, 0, 0, 0, 0, 0, 0, 0, 0, 0, 0, 0, 70)) else some (0, 0, 0, 0, 0, 0, 0, 0, 0, 0, 0, 0, 70)
theorem net4_Read.mono : ∀ b k, LeO (net4_Read.f k b) (net4_Read.f (k + 1) b) := by
  intro b k
  unfold net4_Read.f
  repeat' first
    | (with_reducible exact net4_field.mono _ _ _)
    | (with_reducible exact LeO.refl _)
    | (with_reducible refine LeO.ite ?_ ?_)
    | (with_reducible refine LeO.bind ?_ (fun _ => ?_))
theorem net4_Read.head_of {P : Program} {T e : TypeId} {i : TypeInfo} (ht : P.underlying T = some (.slice e)) (hi : P.info? e = some i) (hsz : i.size = 1) {A : Option Addr} {c : Nat} {l : List Int} (hc : l.length ≤ c) (j : Nat) (hj : j ≤ l.length) :
    ∃ d : List Int, (∀ W : World, (Instr.slice T (.slice A l.length c) none (some (.int .i64 j)) none).run P W = .ok (.slice A d.length c) W) ∧ d.length ≤ c ∧ d = l.take j := by
  have h := print_take_of (P := P) (Value.int .u8) 0 T e .i64 ht hi hsz A c l (j : Int) (by omega) (by omega) hc
  rw [Int.toNat_natCast] at h
  exact ⟨_, h.1, h.2.2, rfl⟩
theorem net4_Read.mid_of {P : Program} {T e : TypeId} {i : TypeInfo} (ht : P.underlying T = some (.slice e)) (hi : P.info? e = some i) (hsz : i.size = 1) {A : Option Addr} {c : Nat} {l : List Int} (hc : l.length ≤ c) (a b : Nat) (hab : a ≤ b) (hj : b ≤ l.length) :
    ∃ (aj : Option Addr) (d : List Int) (kj : Nat), (∀ W : World, (Instr.slice T (.slice A l.length c) (some (.int .i64 a)) (some (.int .i64 b)) none).run P W = .ok (.slice aj d.length kj) W) ∧ d.length ≤ kj ∧ d = (l.take b).drop a ∧ ∀ w : World, Kd.C (Kd.int .u8) w A l.length l → Kd.C (Kd.int .u8) w aj d.length d := by
  obtain ⟨A', hcut, hA, hC⟩ := print_mid_of (P := P) (Value.int .u8) 0 T e .i64 .i64 ht hi hsz A c l (a : Int) (b : Int) (by omega) (by omega) (by omega) hc
  rw [Int.toNat_natCast, Int.toNat_natCast] at hcut hA hC
  exact ⟨A', _, _, hcut, hC, rfl, fun w hr => Kd.C_of_reads (h1 := fun _ => rfl) (hA w (Kd.reads_of_C hr))⟩
open Go.Proofs.YtipdajgcepefgaaW.Own in
set_option maxHeartbeats 8000000 in
set_option maxRecDepth 100000 in
theorem net4_Read.calls (k : Nat) (A0 : Option Addr) (c0 : Nat) (l0 : List Int) (r1 r2 r3 r4 r5 r6 r7 r8 r9 r10 r11 r12 r13 : Int) (w : World) (hr0 : Kd.C (Kd.int .u8) w A0 l0.length l0) (hc0 : l0.length ≤ c0) (h : net4_Read.f k l0 = some (r1, r2, r3, r4, r5, r6, r7, r8, r9, r10, r11, r12, r13)) :
    Calls Try.prog 27 #[.slice A0 l0.length c0] w fun e w' => e = .returned (.tuple #[.agg #[.int .u8 r1, .int .u8 r2, .int .u8 r3, .int .u16 r4, .int .u8 r5, .int .u8 r6, .int .u8 r7, .int .u8 r8, .int .u8 r9, .int .u8 r10, .int .u8 r11, .int .u8 r12], .int .i64 r13]) ∧ Below w.heap.size w w' := by
  have hu := Try.underlying25
  unfold net4_Read.f at h
  by_cases h4 : (l0.length : Int) < 20
  · rw [if_pos h4] at h
    simp only [Option.some.injEq, Prod.mk.injEq] at h
    obtain ⟨rfl, rfl, rfl, rfl, rfl, rfl, rfl, rfl, rfl, rfl, rfl, rfl, rfl⟩ := h
    have d4 : decide ((l0.length : Int) < 20) = true := decide_eq_true h4
    have d4' : decide (l0.length < 20) = true := decide_eq_true (by omega)
    clear h4 hr0 hc0
    go_enter Try.func27, Try.ntmps27
    go_wp2
    refine bodyPost_ret (results_ct rfl _ _ w.heap.size 25 #[.int .u8 0, .int .u8 0, .int .u8 0, .int .u16 0, .int .u8 0, .int .u8 0, .int .u8 0, .int .u8 0, .int .u8 0, .int .u8 0, .int .u8 0, .int .u8 0] (0, 0) _ rfl ?_ hu rfl (by kernel_rfl)) rfl ?_
    · exact blk_new _ _
    · exact ⟨rfl, (Below.refl _ _).alloc (Nat.le_refl _) _⟩
  · rw [if_neg h4] at h
    have d4 : decide ((l0.length : Int) < 20) = false := decide_eq_false h4
    have d4' : decide (l0.length < 20) = false := decide_eq_false (by omega)
    have hlen : 20 ≤ l0.length := by omega
    clear h4
    obtain ⟨i5, hi5, _, hsz5, _⟩ := info_parts info5
    have hb : Below w.heap.size w (w.alloc (.cells #[.int .u8 0, .int .u8 0, .int .u8 0, .int .u16 0, .int .u8 0, .int .u8 0, .int .u8 0, .int .u8 0, .int .u8 0, .int .u8 0, .int .u8 0, .int .u8 0] 25)) := (Below.refl _ _).alloc (Nat.le_refl _) _
    have hr1 := Kd.C_below hr0 hb
    have HX1 := Aside0.mk (blk_new w (.cells #[.int .u8 0, .int .u8 0, .int .u8 0, .int .u16 0, .int .u8 0, .int .u8 0, .int .u8 0, .int .u8 0, .int .u8 0, .int .u8 0, .int .u8 0, .int .u8 0] 25))
    obtain ⟨ad, rfl, g0, gS⟩ := whole_of hr1 (by omega)
    have HLA := Aside0.mk (World.block_lt_of_cell? _ _ g0)
    have G0 := Aside0.mk g0
    have G1 := Aside0.mk (gS 1 (by decide) (by omega))
    have G8 := Aside0.mk (gS 8 (by decide) (by omega))
    have G9 := Aside0.mk (gS 9 (by decide) (by omega))
    clear g0 gS
    obtain ⟨a2, D2, K2, q2⟩ := part_of (P := Try.prog) Try.underlying26 hi5 hsz5 hr1 hc0 2 (by omega)
    have cut2 := q2.cut
    simp only [Int.cast_ofNat_Int] at cut2
    have C2 := Aside0.mk q2.C
    have CAP2 := Aside0.mk q2.cap
    have HD2 := Aside0.mk q2.drop
    obtain ⟨a4, D4, K4, q4⟩ := part_of (P := Try.prog) Try.underlying26 hi5 hsz5 hr1 hc0 4 (by omega)
    have cut4 := q4.cut
    simp only [Int.cast_ofNat_Int] at cut4
    have C4 := Aside0.mk q4.C
    have CAP4 := Aside0.mk q4.cap
    have HD4 := Aside0.mk q4.drop
    obtain ⟨a6, D6, K6, q6⟩ := part_of (P := Try.prog) Try.underlying26 hi5 hsz5 hr1 hc0 6 (by omega)
    have cut6 := q6.cut
    simp only [Int.cast_ofNat_Int] at cut6
    have C6 := Aside0.mk q6.C
    have CAP6 := Aside0.mk q6.cap
    have HD6 := Aside0.mk q6.drop
    obtain ⟨a10, D10, K10, q10⟩ := part_of (P := Try.prog) Try.underlying26 hi5 hsz5 hr1 hc0 10 (by omega)
    have cut10 := q10.cut
    simp only [Int.cast_ofNat_Int] at cut10
    have C10 := Aside0.mk q10.C
    have CAP10 := Aside0.mk q10.cap
    have HD10 := Aside0.mk q10.drop
    obtain ⟨a12, D12, K12, q12⟩ := part_of (P := Try.prog) Try.underlying26 hi5 hsz5 hr1 hc0 12 (by omega)
    have cut12 := q12.cut
    simp only [Int.cast_ofNat_Int] at cut12
    have C12 := Aside0.mk q12.C
    have CAP12 := Aside0.mk q12.cap
    have HD12 := Aside0.mk q12.drop
    obtain ⟨a16, D16, K16, q16⟩ := part_of (P := Try.prog) Try.underlying26 hi5 hsz5 hr1 hc0 16 (by omega)
    have cut16 := q16.cut
    simp only [Int.cast_ofNat_Int] at cut16
    have C16 := Aside0.mk q16.C
    have CAP16 := Aside0.mk q16.cap
    have HD16 := Aside0.mk q16.drop
    have ln12 := q12.len
    have U12_0 := Aside0.mk (q12.at0 (by omega))
    have U12_1 := Aside0.mk (q12.atS 1 (by decide) (by omega))
    have U12_2 := Aside0.mk (q12.atS 2 (by decide) (by omega))
    have U12_3 := Aside0.mk (q12.atS 3 (by decide) (by omega))
    have ar12 := array_at (P := Try.prog) (arr := 23) (a := some a12) (len := D12.length) (cap := K12) Try.underlying23 (by omega)
    clear ln12
    have ln16 := q16.len
    have U16_0 := Aside0.mk (q16.at0 (by omega))
    have U16_1 := Aside0.mk (q16.atS 1 (by decide) (by omega))
    have U16_2 := Aside0.mk (q16.atS 2 (by decide) (by omega))
    have U16_3 := Aside0.mk (q16.atS 3 (by decide) (by omega))
    have ar16 := array_at (P := Try.prog) (arr := 23) (a := some a16) (len := D16.length) (cap := K16) Try.underlying23 (by omega)
    clear ln16
    clear q2 q4 q6 q10 q12 q16
    obtain ⟨T6, take6, tcap, ht6⟩ := net4_Read.head_of (P := Try.prog) (A := some ad) Try.underlying26 hi5 hsz5 hc0 10 (by omega)
    simp only [Int.cast_ofNat_Int] at take6
    have TC := Aside0.mk (show Kd.C (Kd.int .u8) _ (some ad) T6.length T6 by rw [ht6]; exact Kd.C_take hr1 (m := 10) (by omega))
    have HT6 := Aside0.mk ht6
    have TCAP := Aside0.mk tcap
    obtain ⟨AM, DM, KM, cutM, capM, hdM, hCM⟩ := net4_Read.mid_of (P := Try.prog) (A := some ad) Try.underlying26 hi5 hsz5 hc0 12 20 (by omega) (by omega)
    simp only [Int.cast_ofNat_Int] at cutM
    have CM := Aside0.mk (hCM _ hr1)
    have CAPM := Aside0.mk capM
    have HDM := Aside0.mk hdM
    have HR1 := Aside0.mk hr1
    have HC0 := Aside0.mk hc0
    have HB := Aside0.mk hb
    have HL := Aside0.mk hlen
    clear hr0 hr1 hc0 hb hlen tcap ht6 capM hdM hCM hi5 hsz5
    by_cases h7 : rd l0 0 = 69
    · rw [if_pos h7] at h
      have g7 : (rd l0 0 == 69) = true := beq_iff_eq.mpr h7
      have g7' : (rd l0 0 != 69) = false := bne_eq_false_iff_eq.mpr h7
      clear h7
      obtain ⟨t1, e_1, h⟩ := Option.bind_eq_some_iff.mp h
      have E1 := Aside0.mk e_1
      clear e_1
      by_cases h9 : t1 = 0
      · rw [if_pos h9] at h
        have g9 : (t1 == 0) = true := beq_iff_eq.mpr h9
        have g9' : (t1 != 0) = false := bne_eq_false_iff_eq.mpr h9
        clear h9
        obtain ⟨t2, e_1, h⟩ := Option.bind_eq_some_iff.mp h
        have E2 := Aside0.mk e_1
        clear e_1
        by_cases h6 : wrap64 t2 = (l0.length : Int)
        · rw [if_pos h6] at h
          have g6 : (wrap64 t2 == (l0.length : Int)) = true := beq_iff_eq.mpr h6
          have g6' : (wrap64 t2 != (l0.length : Int)) = false := bne_eq_false_iff_eq.mpr h6
          clear h6
          obtain ⟨t3, e_1, h⟩ := Option.bind_eq_some_iff.mp h
          have E3 := Aside0.mk e_1
          clear e_1
          obtain ⟨t4, e_1, h⟩ := Option.bind_eq_some_iff.mp h
          have E4 := Aside0.mk e_1
          clear e_1
          by_cases h8 : t3 = t4
          · rw [if_pos h8] at h
            have g8 : (t3 == t4) = true := beq_iff_eq.mpr h8
            have g8' : (t3 != t4) = false := bne_eq_false_iff_eq.mpr h8
            clear h8
            obtain ⟨t5, e_1, h⟩ := Option.bind_eq_some_iff.mp h
            have E5 := Aside0.mk e_1
            clear e_1
            simp only [Option.some.injEq, Prod.mk.injEq] at h
            obtain ⟨rfl, rfl, rfl, rfl, rfl, rfl, rfl, rfl, rfl, rfl, rfl, rfl, rfl⟩ := h
            go_enter Try.func27, Try.ntmps27
            have u0 := G0.out
            have n0 : 0 < l0.length := by have := HL.out; omega
            have d0 : decide ((0 : Int) < (l0.length : Int)) = true := decide_eq_true (by have := HL.out; omega)
            go_wp2_with fail
            clear u0 n0 d0
            generalize w.alloc (.cells #[.int .u8 0, .int .u8 0, .int .u8 0, .int .u16 0, .int .u8 0, .int .u8 0, .int .u8 0, .int .u8 0, .int .u8 0, .int .u8 0, .int .u8 0, .int .u8 0] 25) = w1 at HB HX1 HR1 HLA G0 G1 G8 G9 TC CM C2 C4 C6 C10 C12 C16 U12_0 U12_1 U12_2 U12_3 U16_0 U16_1 U16_2 U16_3 ⊢
            refine (net4_word.calls (some a6) K6 D6 t1 _ C6.out CAP6.out (by rw [HD6.out]; exact E1.out)).mono ?_
            rintro e_ w_ ⟨rfl, ⟨nd, rfl⟩⟩
            have hb2 := pw_below_drewN (Below.refl w1.heap.size w1) nd
            generalize w1.drewN nd = w2 at hb2 ⊢
            have HB1 := Aside0.mk hb2
            clear hb2
            go_wp2_with fail
            refine (net4_word.calls (some a2) K2 D2 t2 _ (Kd.C_below C2.out HB1.out) CAP2.out (by rw [HD2.out]; exact E2.out)).mono ?_
            rintro e_ w_ ⟨rfl, ⟨nd, rfl⟩⟩
            have hb2 := below_step HB1.out (pw_below_drewN (Below.refl w2.heap.size w2) nd)
            clear HB1
            generalize w2.drewN nd = w9 at hb2 ⊢
            have HB2 := Aside0.mk hb2
            clear hb2
            go_wp2_with fail
            generalize hFA : Act.mk _ _ = FA
            obtain ⟨V, hV⟩ : ∃ V : List (Option Tmp × Value), V = [(some 29, .slice (some ad) l0.length c0), (some 30, .slice (some a10) D10.length K10), (some 31, .int .u16 t3), (some 32, .slice (some ad) l0.length c0), (some 33, .slice (some ad) T6.length c0), (some 34, .slice (some ad) l0.length c0), (some 35, .slice AM DM.length KM), (some 36, .int .u16 t4), (some 37, .bool (t3 != t4))] := ⟨_, rfl⟩
            have hs : slotsOk V := by rw [hV]; simp [slotsOk]
            have hltF : ∀ t, t < 61 → t < FA.tmps.size := fun t h => by rw [← hFA]; exact h
            have v0 : V[0]? = some (some 29, .slice (some ad) l0.length c0) := by rw [hV]; rfl
            have v1 : V[1]? = some (some 30, .slice (some a10) D10.length K10) := by rw [hV]; rfl
            have v2 : V[2]? = some (some 31, .int .u16 t3) := by rw [hV]; rfl
            have v3 : V[3]? = some (some 32, .slice (some ad) l0.length c0) := by rw [hV]; rfl
            have v4 : V[4]? = some (some 33, .slice (some ad) T6.length c0) := by rw [hV]; rfl
            have v5 : V[5]? = some (some 34, .slice (some ad) l0.length c0) := by rw [hV]; rfl
            have v6 : V[6]? = some (some 35, .slice AM DM.length KM) := by rw [hV]; rfl
            have v7 : V[7]? = some (some 36, .int .u16 t4) := by rw [hV]; rfl
            have v8 : V[8]? = some (some 37, .bool (t3 != t4)) := by rw [hV]; rfl
            refine region_inv (by kernel_rfl) V (by rw [hV]; rfl) hs (by kernel_rfl) (fun _ w_ => Below w9.heap.size w9 w_) (fun dn dn' w_ h_ hw_ => hw_) (below_drew (Below.refl _ _)) ?_ ?_
            · intro i_ hi_ dn w' hW hdn hdep
              match i_, hi_ with
              | 0, _ =>
                have e0 := puts_other V 0 dn FA 0 (by rw [hV]; simp)
                rw [show FA.eval (.tmp 0) = .slice (some ad) l0.length c0 from by rw [← hFA]; rfl] at e0
                refine op_run rfl rfl ?_ ⟨⟨_, _, v0, rfl⟩, hW⟩
                generalize (puts V 0 dn FA).eval = ev at e0 ⊢
                clear hdep v0 v1 v2 v3 v4 v5 v6 v7 v8 hs hltF
                go_simp
                first | done | rfl
              | 1, _ =>
                have hd := hdep _ rfl
                simp [Region.binds] at hd
                have hj0 : dn 0 = true := by first | exact hd | simp [hd]
                have e29 := done0 0 29 hs v0 (hltF _ (by decide)) hj0
                have hc : ∀ c, (puts V 0 dn FA).eval (.const c) = c := fun _ => rfl
                refine op_run rfl rfl ?_ ⟨⟨_, _, v1, rfl⟩, hW⟩
                generalize (puts V 0 dn FA).eval = ev at e29 hc ⊢
                clear hdep v0 v1 v2 v3 v4 v5 v6 v7 v8 hs hltF
                go_simp
                first | done | rfl
              | 2, _ =>
                have hd := hdep _ rfl
                simp [Region.binds] at hd
                have hj1 : dn 1 = true := by first | exact hd | simp [hd]
                have e30 := done0 1 30 hs v1 (hltF _ (by decide)) hj1
                have hf : ∀ f, (puts V 0 dn FA).eval (.func f) = .func (.func f) #[] #[] := fun _ => rfl
                refine op_call rfl rfl (w1 := w') (f := 58) (args := #[.slice (some a10) D10.length K10]) (v := .int .u16 t3) ?_ ?_
                · generalize (puts V 0 dn FA).eval = ev at e30 hf ⊢
                  clear hdep v0 v1 v2 v3 v4 v5 v6 v7 v8 hs hltF
                  go_simp
                  first | done | rfl
                · refine (net4_word.calls (some a10) K10 D10 t3 _ (Kd.C_below C10.out (below_step HB2.out hW)) CAP10.out (by rw [HD10.out]; exact E3.out)).mono ?_
                  rintro e_ w_ ⟨rfl, ⟨nd, rfl⟩⟩
                  exact ⟨rfl, ⟨_, _, v2, rfl⟩, pw_below_drewN hW nd⟩
              | 3, _ =>
                have e0 := puts_other V 0 dn FA 0 (by rw [hV]; simp)
                rw [show FA.eval (.tmp 0) = .slice (some ad) l0.length c0 from by rw [← hFA]; rfl] at e0
                refine op_run rfl rfl ?_ ⟨⟨_, _, v3, rfl⟩, hW⟩
                generalize (puts V 0 dn FA).eval = ev at e0 ⊢
                clear hdep v0 v1 v2 v3 v4 v5 v6 v7 v8 hs hltF
                go_simp
                first | done | rfl
              | 4, _ =>
                have hd := hdep _ rfl
                simp [Region.binds] at hd
                have hj3 : dn 3 = true := by first | exact hd | simp [hd]
                have e32 := done0 3 32 hs v3 (hltF _ (by decide)) hj3
                have hc : ∀ c, (puts V 0 dn FA).eval (.const c) = c := fun _ => rfl
                refine op_run rfl rfl ?_ ⟨⟨_, _, v4, rfl⟩, hW⟩
                generalize (puts V 0 dn FA).eval = ev at e32 hc ⊢
                clear hdep v0 v1 v2 v3 v4 v5 v6 v7 v8 hs hltF
                go_simp
                first | done | rfl
              | 5, _ =>
                have e0 := puts_other V 0 dn FA 0 (by rw [hV]; simp)
                rw [show FA.eval (.tmp 0) = .slice (some ad) l0.length c0 from by rw [← hFA]; rfl] at e0
                refine op_run rfl rfl ?_ ⟨⟨_, _, v5, rfl⟩, hW⟩
                generalize (puts V 0 dn FA).eval = ev at e0 ⊢
                clear hdep v0 v1 v2 v3 v4 v5 v6 v7 v8 hs hltF
                go_simp
                first | done | rfl
              | 6, _ =>
                have hd := hdep _ rfl
                simp [Region.binds] at hd
                have hj5 : dn 5 = true := by first | exact hd | simp [hd]
                have e34 := done0 5 34 hs v5 (hltF _ (by decide)) hj5
                have hc : ∀ c, (puts V 0 dn FA).eval (.const c) = c := fun _ => rfl
                refine op_run rfl rfl ?_ ⟨⟨_, _, v6, rfl⟩, hW⟩
                generalize (puts V 0 dn FA).eval = ev at e34 hc ⊢
                clear hdep v0 v1 v2 v3 v4 v5 v6 v7 v8 hs hltF
                go_simp
                first | done | rfl
              | 7, _ =>
                have hd := hdep _ rfl
                simp [Region.binds] at hd
                have hj4 : dn 4 = true := by first | exact hd | simp [hd]
                have e33 := done0 4 33 hs v4 (hltF _ (by decide)) hj4
                have hj6 : dn 6 = true := by first | exact hd | simp [hd]
                have e35 := done0 6 35 hs v6 (hltF _ (by decide)) hj6
                have hf : ∀ f, (puts V 0 dn FA).eval (.func f) = .func (.func f) #[] #[] := fun _ => rfl
                refine op_call rfl rfl (w1 := w') (f := 55) (args := #[.slice (some ad) T6.length c0, .slice AM DM.length KM]) (v := .int .u16 t4) ?_ ?_
                · generalize (puts V 0 dn FA).eval = ev at e33 e35 hf ⊢
                  clear hdep v0 v1 v2 v3 v4 v5 v6 v7 v8 hs hltF
                  go_simp
                  first | done | rfl
                · refine (net4_field.calls k (some ad) c0 T6 AM KM DM t4 _ (Kd.C_below TC.out (below_step HB2.out hW)) TCAP.out (Kd.C_below CM.out (below_step HB2.out hW)) CAPM.out (by rw [HT6.out, HDM.out]; exact E4.out)).mono ?_
                  rintro e_ w_ ⟨rfl, ⟨nd, rfl⟩⟩
                  exact ⟨rfl, ⟨_, _, v7, rfl⟩, pw_below_drewN hW nd⟩
              | 8, _ =>
                have hd := hdep _ rfl
                simp [Region.binds] at hd
                have hj2 : dn 2 = true := by first | exact hd | simp [hd]
                have e31 := done0 2 31 hs v2 (hltF _ (by decide)) hj2
                have hj7 : dn 7 = true := by first | exact hd | simp [hd]
                have e36 := done0 7 36 hs v7 (hltF _ (by decide)) hj7
                refine op_run rfl rfl ?_ ⟨⟨_, _, v8, rfl⟩, hW⟩
                generalize (puts V 0 dn FA).eval = ev at e31 e36 ⊢
                clear hdep v0 v1 v2 v3 v4 v5 v6 v7 v8 hs hltF
                go_simp
                first | done | rfl
              | n_ + 9, hi_ => exact absurd hi_ (by simp)
            clear hs hltF v0 v1 v2 v3 v4 v5 v6 v7 v8
            intro w' hW
            rw [hV]
            simp only [putAll', Act.put, ← hFA, List.setIfInBounds_toArray, List.set_cons_zero, List.set_cons_succ]
            have hb3 := below_step HB2.out hW
            clear hW
            generalize w' = w3 at hb3 ⊢
            have HB3 := Aside0.mk hb3
            clear hb3
            go_wp2_with fail
            have HXW := Aside0.mk (blk_below HX1.out HB3.out)
            have HBW := Aside0.mk (below_step HB.out HB3.out)
            generalize hFA : Act.mk _ _ = FA
            obtain ⟨V, hV⟩ : ∃ V : List (Option Tmp × Value), V = [(some 39, .slice (some ad) l0.length c0), (some 40, .pointer (some ⟨ad.block, ad.off + 1, none⟩)), (some 41, .int .u8 (rd l0 1)), (some 42, .slice (some ad) l0.length c0), (some 43, .pointer (some ⟨ad.block, ad.off + 8, none⟩)), (some 44, .int .u8 (rd l0 8)), (some 45, .slice (some ad) l0.length c0), (some 46, .pointer (some ⟨ad.block, ad.off + 9, none⟩)), (some 47, .int .u8 (rd l0 9)), (some 48, .slice (some ad) l0.length c0), (some 49, .slice (some a4) D4.length K4), (some 50, .int .u16 t5), (some 51, .slice (some ad) l0.length c0), (some 52, .slice (some a12) D12.length K12), (some 53, .pointer (some a12)), (some 54, .agg #[.int .u8 (rd l0 12), .int .u8 (rd l0 13), .int .u8 (rd l0 14), .int .u8 (rd l0 15)]), (some 55, .slice (some ad) l0.length c0), (some 56, .slice (some a16) D16.length K16), (some 57, .pointer (some a16)), (some 58, .agg #[.int .u8 (rd l0 16), .int .u8 (rd l0 17), .int .u8 (rd l0 18), .int .u8 (rd l0 19)]), (some 59, .agg #[.int .u8 (rd l0 1), .int .u8 (rd l0 8), .int .u8 (rd l0 9), .int .u16 t5, .int .u8 (rd l0 12), .int .u8 (rd l0 13), .int .u8 (rd l0 14), .int .u8 (rd l0 15), .int .u8 (rd l0 16), .int .u8 (rd l0 17), .int .u8 (rd l0 18), .int .u8 (rd l0 19)]), (some 4, .pointer (some ⟨w3.heap.size, 0, none⟩)), (none, undef)] := ⟨_, rfl⟩
            have hs : slotsOk V := by rw [hV]; simp [slotsOk]
            have hltF : ∀ t, t < 61 → t < FA.tmps.size := fun t h => by rw [← hFA]; exact h
            have v0 : V[0]? = some (some 39, .slice (some ad) l0.length c0) := by rw [hV]; rfl
            have v1 : V[1]? = some (some 40, .pointer (some ⟨ad.block, ad.off + 1, none⟩)) := by rw [hV]; rfl
            have v2 : V[2]? = some (some 41, .int .u8 (rd l0 1)) := by rw [hV]; rfl
            have v3 : V[3]? = some (some 42, .slice (some ad) l0.length c0) := by rw [hV]; rfl
            have v4 : V[4]? = some (some 43, .pointer (some ⟨ad.block, ad.off + 8, none⟩)) := by rw [hV]; rfl
            have v5 : V[5]? = some (some 44, .int .u8 (rd l0 8)) := by rw [hV]; rfl
            have v6 : V[6]? = some (some 45, .slice (some ad) l0.length c0) := by rw [hV]; rfl
            have v7 : V[7]? = some (some 46, .pointer (some ⟨ad.block, ad.off + 9, none⟩)) := by rw [hV]; rfl
            have v8 : V[8]? = some (some 47, .int .u8 (rd l0 9)) := by rw [hV]; rfl
            have v9 : V[9]? = some (some 48, .slice (some ad) l0.length c0) := by rw [hV]; rfl
            have v10 : V[10]? = some (some 49, .slice (some a4) D4.length K4) := by rw [hV]; rfl
            have v11 : V[11]? = some (some 50, .int .u16 t5) := by rw [hV]; rfl
            have v12 : V[12]? = some (some 51, .slice (some ad) l0.length c0) := by rw [hV]; rfl
            have v13 : V[13]? = some (some 52, .slice (some a12) D12.length K12) := by rw [hV]; rfl
            have v14 : V[14]? = some (some 53, .pointer (some a12)) := by rw [hV]; rfl
            have v15 : V[15]? = some (some 54, .agg #[.int .u8 (rd l0 12), .int .u8 (rd l0 13), .int .u8 (rd l0 14), .int .u8 (rd l0 15)]) := by rw [hV]; rfl
            have v16 : V[16]? = some (some 55, .slice (some ad) l0.length c0) := by rw [hV]; rfl
            have v17 : V[17]? = some (some 56, .slice (some a16) D16.length K16) := by rw [hV]; rfl
            have v18 : V[18]? = some (some 57, .pointer (some a16)) := by rw [hV]; rfl
            have v19 : V[19]? = some (some 58, .agg #[.int .u8 (rd l0 16), .int .u8 (rd l0 17), .int .u8 (rd l0 18), .int .u8 (rd l0 19)]) := by rw [hV]; rfl
            have v20 : V[20]? = some (some 59, .agg #[.int .u8 (rd l0 1), .int .u8 (rd l0 8), .int .u8 (rd l0 9), .int .u16 t5, .int .u8 (rd l0 12), .int .u8 (rd l0 13), .int .u8 (rd l0 14), .int .u8 (rd l0 15), .int .u8 (rd l0 16), .int .u8 (rd l0 17), .int .u8 (rd l0 18), .int .u8 (rd l0 19)]) := by rw [hV]; rfl
            have v21 : V[21]? = some (some 4, .pointer (some ⟨w3.heap.size, 0, none⟩)) := by rw [hV]; rfl
            have v22 : V[22]? = some (none, undef) := by rw [hV]; rfl
            refine region_inv (by kernel_rfl) V (by rw [hV]; rfl) hs (by kernel_rfl) (Bld w3 #[.int .u8 0, .int .u8 0, .int .u8 0, .int .u16 0, .int .u8 0, .int .u8 0, .int .u8 0, .int .u8 0, .int .u8 0, .int .u8 0, .int .u8 0, .int .u8 0] #[.int .u8 (rd l0 1), .int .u8 (rd l0 8), .int .u8 (rd l0 9), .int .u16 t5, .int .u8 (rd l0 12), .int .u8 (rd l0 13), .int .u8 (rd l0 14), .int .u8 (rd l0 15), .int .u8 (rd l0 16), .int .u8 (rd l0 17), .int .u8 (rd l0 18), .int .u8 (rd l0 19)] 25 21 22) (fun dn dn' w_ h_ hw_ => hw_.ext (h_ 21 (by simp)) (h_ 22 (by simp))) (Bld.start w3) ?_ ?_
            · intro i_ hi_ dn w' hW hdn hdep
              match i_, hi_ with
              | 0, _ =>
                have e0 := puts_other V 0 dn FA 0 (by rw [hV]; simp)
                rw [show FA.eval (.tmp 0) = .slice (some ad) l0.length c0 from by rw [← hFA]; rfl] at e0
                refine op_run rfl rfl ?_ ⟨⟨_, _, v0, rfl⟩, hW.same (by decide) (by decide)⟩
                generalize (puts V 0 dn FA).eval = ev at e0 ⊢
                clear hdep v0 v1 v2 v3 v4 v5 v6 v7 v8 v9 v10 v11 v12 v13 v14 v15 v16 v17 v18 v19 v20 v21 v22 hs hltF
                go_simp
                first | done | rfl | (intro h_; exfalso; omega)
              | 1, _ =>
                have hd := hdep _ rfl
                simp [Region.binds] at hd
                have hj0 : dn 0 = true := by first | exact hd | simp [hd]
                have e39 := done0 0 39 hs v0 (hltF _ (by decide)) hj0
                have hc : ∀ c, (puts V 0 dn FA).eval (.const c) = c := fun _ => rfl
                have n_ : (1 : Nat) < l0.length := by have := HL.out; omega
                have d_ : decide ((1 : Int) < (l0.length : Int)) = true := decide_eq_true (by have := HL.out; omega)
                refine op_run rfl rfl ?_ ⟨⟨_, _, v1, rfl⟩, hW.same (by decide) (by decide)⟩
                generalize (puts V 0 dn FA).eval = ev at e39 hc ⊢
                clear hdep v0 v1 v2 v3 v4 v5 v6 v7 v8 v9 v10 v11 v12 v13 v14 v15 v16 v17 v18 v19 v20 v21 v22 hs hltF
                go_simp
                first | done | rfl | (intro h_; exfalso; omega)
              | 2, _ =>
                have hd := hdep _ rfl
                simp [Region.binds] at hd
                have hj1 : dn 1 = true := by first | exact hd | simp [hd]
                have e40 := done0 1 40 hs v1 (hltF _ (by decide)) hj1
                have u_ := ((below_step HB3.out hW.below).cell (by exact HLA.out)).trans G1.out
                simp only [Int.cast_ofNat_Int] at u_
                refine op_run rfl rfl ?_ ⟨⟨_, _, v2, rfl⟩, hW.same (by decide) (by decide)⟩
                generalize (puts V 0 dn FA).eval = ev at e40 ⊢
                clear hdep v0 v1 v2 v3 v4 v5 v6 v7 v8 v9 v10 v11 v12 v13 v14 v15 v16 v17 v18 v19 v20 v21 v22 hs hltF
                go_simp
                first | done | rfl | (intro h_; exfalso; omega)
              | 3, _ =>
                have e0 := puts_other V 0 dn FA 0 (by rw [hV]; simp)
                rw [show FA.eval (.tmp 0) = .slice (some ad) l0.length c0 from by rw [← hFA]; rfl] at e0
                refine op_run rfl rfl ?_ ⟨⟨_, _, v3, rfl⟩, hW.same (by decide) (by decide)⟩
                generalize (puts V 0 dn FA).eval = ev at e0 ⊢
                clear hdep v0 v1 v2 v3 v4 v5 v6 v7 v8 v9 v10 v11 v12 v13 v14 v15 v16 v17 v18 v19 v20 v21 v22 hs hltF
                go_simp
                first | done | rfl | (intro h_; exfalso; omega)
              | 4, _ =>
                have hd := hdep _ rfl
                simp [Region.binds] at hd
                have hj3 : dn 3 = true := by first | exact hd | simp [hd]
                have e42 := done0 3 42 hs v3 (hltF _ (by decide)) hj3
                have hc : ∀ c, (puts V 0 dn FA).eval (.const c) = c := fun _ => rfl
                have n_ : (8 : Nat) < l0.length := by have := HL.out; omega
                have d_ : decide ((8 : Int) < (l0.length : Int)) = true := decide_eq_true (by have := HL.out; omega)
                refine op_run rfl rfl ?_ ⟨⟨_, _, v4, rfl⟩, hW.same (by decide) (by decide)⟩
                generalize (puts V 0 dn FA).eval = ev at e42 hc ⊢
                clear hdep v0 v1 v2 v3 v4 v5 v6 v7 v8 v9 v10 v11 v12 v13 v14 v15 v16 v17 v18 v19 v20 v21 v22 hs hltF
                go_simp
                first | done | rfl | (intro h_; exfalso; omega)
              | 5, _ =>
                have hd := hdep _ rfl
                simp [Region.binds] at hd
                have hj4 : dn 4 = true := by first | exact hd | simp [hd]
                have e43 := done0 4 43 hs v4 (hltF _ (by decide)) hj4
                have u_ := ((below_step HB3.out hW.below).cell (by exact HLA.out)).trans G8.out
                simp only [Int.cast_ofNat_Int] at u_
                refine op_run rfl rfl ?_ ⟨⟨_, _, v5, rfl⟩, hW.same (by decide) (by decide)⟩
                generalize (puts V 0 dn FA).eval = ev at e43 ⊢
                clear hdep v0 v1 v2 v3 v4 v5 v6 v7 v8 v9 v10 v11 v12 v13 v14 v15 v16 v17 v18 v19 v20 v21 v22 hs hltF
                go_simp
                first | done | rfl | (intro h_; exfalso; omega)
              | 6, _ =>
                have e0 := puts_other V 0 dn FA 0 (by rw [hV]; simp)
                rw [show FA.eval (.tmp 0) = .slice (some ad) l0.length c0 from by rw [← hFA]; rfl] at e0
                refine op_run rfl rfl ?_ ⟨⟨_, _, v6, rfl⟩, hW.same (by decide) (by decide)⟩
                generalize (puts V 0 dn FA).eval = ev at e0 ⊢
                clear hdep v0 v1 v2 v3 v4 v5 v6 v7 v8 v9 v10 v11 v12 v13 v14 v15 v16 v17 v18 v19 v20 v21 v22 hs hltF
                go_simp
                first | done | rfl | (intro h_; exfalso; omega)
              | 7, _ =>
                have hd := hdep _ rfl
                simp [Region.binds] at hd
                have hj6 : dn 6 = true := by first | exact hd | simp [hd]
                have e45 := done0 6 45 hs v6 (hltF _ (by decide)) hj6
                have hc : ∀ c, (puts V 0 dn FA).eval (.const c) = c := fun _ => rfl
                have n_ : (9 : Nat) < l0.length := by have := HL.out; omega
                have d_ : decide ((9 : Int) < (l0.length : Int)) = true := decide_eq_true (by have := HL.out; omega)
                refine op_run rfl rfl ?_ ⟨⟨_, _, v7, rfl⟩, hW.same (by decide) (by decide)⟩
                generalize (puts V 0 dn FA).eval = ev at e45 hc ⊢
                clear hdep v0 v1 v2 v3 v4 v5 v6 v7 v8 v9 v10 v11 v12 v13 v14 v15 v16 v17 v18 v19 v20 v21 v22 hs hltF
                go_simp
                first | done | rfl | (intro h_; exfalso; omega)
              | 8, _ =>
                have hd := hdep _ rfl
                simp [Region.binds] at hd
                have hj7 : dn 7 = true := by first | exact hd | simp [hd]
                have e46 := done0 7 46 hs v7 (hltF _ (by decide)) hj7
                have u_ := ((below_step HB3.out hW.below).cell (by exact HLA.out)).trans G9.out
                simp only [Int.cast_ofNat_Int] at u_
                refine op_run rfl rfl ?_ ⟨⟨_, _, v8, rfl⟩, hW.same (by decide) (by decide)⟩
                generalize (puts V 0 dn FA).eval = ev at e46 ⊢
                clear hdep v0 v1 v2 v3 v4 v5 v6 v7 v8 v9 v10 v11 v12 v13 v14 v15 v16 v17 v18 v19 v20 v21 v22 hs hltF
                go_simp
                first | done | rfl | (intro h_; exfalso; omega)
              | 9, _ =>
                have e0 := puts_other V 0 dn FA 0 (by rw [hV]; simp)
                rw [show FA.eval (.tmp 0) = .slice (some ad) l0.length c0 from by rw [← hFA]; rfl] at e0
                refine op_run rfl rfl ?_ ⟨⟨_, _, v9, rfl⟩, hW.same (by decide) (by decide)⟩
                generalize (puts V 0 dn FA).eval = ev at e0 ⊢
                clear hdep v0 v1 v2 v3 v4 v5 v6 v7 v8 v9 v10 v11 v12 v13 v14 v15 v16 v17 v18 v19 v20 v21 v22 hs hltF
                go_simp
                first | done | rfl | (intro h_; exfalso; omega)
              | 10, _ =>
                have hd := hdep _ rfl
                simp [Region.binds] at hd
                have hj9 : dn 9 = true := by first | exact hd | simp [hd]
                have e48 := done0 9 48 hs v9 (hltF _ (by decide)) hj9
                have hc : ∀ c, (puts V 0 dn FA).eval (.const c) = c := fun _ => rfl
                refine op_run rfl rfl ?_ ⟨⟨_, _, v10, rfl⟩, hW.same (by decide) (by decide)⟩
                generalize (puts V 0 dn FA).eval = ev at e48 hc ⊢
                clear hdep v0 v1 v2 v3 v4 v5 v6 v7 v8 v9 v10 v11 v12 v13 v14 v15 v16 v17 v18 v19 v20 v21 v22 hs hltF
                go_simp
                first | done | rfl | (intro h_; exfalso; omega)
              | 11, _ =>
                have hd := hdep _ rfl
                simp [Region.binds] at hd
                have hj10 : dn 10 = true := by first | exact hd | simp [hd]
                have e49 := done0 10 49 hs v10 (hltF _ (by decide)) hj10
                have hf : ∀ f, (puts V 0 dn FA).eval (.func f) = .func (.func f) #[] #[] := fun _ => rfl
                refine op_call rfl rfl (w1 := w') (f := 58) (args := #[.slice (some a4) D4.length K4]) (v := .int .u16 t5) ?_ ?_
                · generalize (puts V 0 dn FA).eval = ev at e49 hf ⊢
                  clear hdep v0 v1 v2 v3 v4 v5 v6 v7 v8 v9 v10 v11 v12 v13 v14 v15 v16 v17 v18 v19 v20 v21 v22 hs hltF
                  go_simp
                  first | done | rfl
                · refine (net4_word.calls (some a4) K4 D4 t5 _ (Kd.C_below C4.out (below_step HB3.out hW.below)) CAP4.out (by rw [HD4.out]; exact E5.out)).mono ?_
                  rintro e_ w_ ⟨rfl, ⟨nd, rfl⟩⟩
                  exact ⟨rfl, ⟨_, _, v11, rfl⟩, hW.quiet (by decide) (by decide)⟩
              | 12, _ =>
                have e0 := puts_other V 0 dn FA 0 (by rw [hV]; simp)
                rw [show FA.eval (.tmp 0) = .slice (some ad) l0.length c0 from by rw [← hFA]; rfl] at e0
                refine op_run rfl rfl ?_ ⟨⟨_, _, v12, rfl⟩, hW.same (by decide) (by decide)⟩
                generalize (puts V 0 dn FA).eval = ev at e0 ⊢
                clear hdep v0 v1 v2 v3 v4 v5 v6 v7 v8 v9 v10 v11 v12 v13 v14 v15 v16 v17 v18 v19 v20 v21 v22 hs hltF
                go_simp
                first | done | rfl | (intro h_; exfalso; omega)
              | 13, _ =>
                have hd := hdep _ rfl
                simp [Region.binds] at hd
                have hj12 : dn 12 = true := by first | exact hd | simp [hd]
                have e51 := done0 12 51 hs v12 (hltF _ (by decide)) hj12
                have hc : ∀ c, (puts V 0 dn FA).eval (.const c) = c := fun _ => rfl
                refine op_run rfl rfl ?_ ⟨⟨_, _, v13, rfl⟩, hW.same (by decide) (by decide)⟩
                generalize (puts V 0 dn FA).eval = ev at e51 hc ⊢
                clear hdep v0 v1 v2 v3 v4 v5 v6 v7 v8 v9 v10 v11 v12 v13 v14 v15 v16 v17 v18 v19 v20 v21 v22 hs hltF
                go_simp
                first | done | rfl | (intro h_; exfalso; omega)
              | 14, _ =>
                have hd := hdep _ rfl
                simp [Region.binds] at hd
                have hj13 : dn 13 = true := by first | exact hd | simp [hd]
                have e52 := done0 13 52 hs v13 (hltF _ (by decide)) hj13
                refine op_run rfl rfl ?_ ⟨⟨_, _, v14, rfl⟩, hW.same (by decide) (by decide)⟩
                generalize (puts V 0 dn FA).eval = ev at e52 ⊢
                clear hdep v0 v1 v2 v3 v4 v5 v6 v7 v8 v9 v10 v11 v12 v13 v14 v15 v16 v17 v18 v19 v20 v21 v22 hs hltF
                go_simp
                first | done | rfl | (intro h_; exfalso; omega)
              | 15, _ =>
                have hd := hdep _ rfl
                simp [Region.binds] at hd
                have hj14 : dn 14 = true := by first | exact hd | simp [hd]
                have e53 := done0 14 53 hs v14 (hltF _ (by decide)) hj14
                have lt_ := World.block_lt_of_cell? w1 _ U12_0.out
                have u0 := ((below_step HB3.out hW.below).cell (by exact lt_)).trans U12_0.out
                have u1 := ((below_step HB3.out hW.below).cell (by exact lt_)).trans U12_1.out
                have u2 := ((below_step HB3.out hW.below).cell (by exact lt_)).trans U12_2.out
                have u3 := ((below_step HB3.out hW.below).cell (by exact lt_)).trans U12_3.out
                clear lt_
                simp only [Nat.reduceAdd, Int.cast_ofNat_Int] at u0 u1 u2 u3
                refine op_run rfl rfl ?_ ⟨⟨_, _, v15, rfl⟩, hW.same (by decide) (by decide)⟩
                generalize (puts V 0 dn FA).eval = ev at e53 ⊢
                clear hdep v0 v1 v2 v3 v4 v5 v6 v7 v8 v9 v10 v11 v12 v13 v14 v15 v16 v17 v18 v19 v20 v21 v22 hs hltF
                go_simp
                first | done | rfl | (intro h_; exfalso; omega)
              | 16, _ =>
                have e0 := puts_other V 0 dn FA 0 (by rw [hV]; simp)
                rw [show FA.eval (.tmp 0) = .slice (some ad) l0.length c0 from by rw [← hFA]; rfl] at e0
                refine op_run rfl rfl ?_ ⟨⟨_, _, v16, rfl⟩, hW.same (by decide) (by decide)⟩
                generalize (puts V 0 dn FA).eval = ev at e0 ⊢
                clear hdep v0 v1 v2 v3 v4 v5 v6 v7 v8 v9 v10 v11 v12 v13 v14 v15 v16 v17 v18 v19 v20 v21 v22 hs hltF
                go_simp
                first | done | rfl | (intro h_; exfalso; omega)
              | 17, _ =>
                have hd := hdep _ rfl
                simp [Region.binds] at hd
                have hj16 : dn 16 = true := by first | exact hd | simp [hd]
                have e55 := done0 16 55 hs v16 (hltF _ (by decide)) hj16
                have hc : ∀ c, (puts V 0 dn FA).eval (.const c) = c := fun _ => rfl
                refine op_run rfl rfl ?_ ⟨⟨_, _, v17, rfl⟩, hW.same (by decide) (by decide)⟩
                generalize (puts V 0 dn FA).eval = ev at e55 hc ⊢
                clear hdep v0 v1 v2 v3 v4 v5 v6 v7 v8 v9 v10 v11 v12 v13 v14 v15 v16 v17 v18 v19 v20 v21 v22 hs hltF
                go_simp
                first | done | rfl | (intro h_; exfalso; omega)
              | 18, _ =>
                have hd := hdep _ rfl
                simp [Region.binds] at hd
                have hj17 : dn 17 = true := by first | exact hd | simp [hd]
                have e56 := done0 17 56 hs v17 (hltF _ (by decide)) hj17
                refine op_run rfl rfl ?_ ⟨⟨_, _, v18, rfl⟩, hW.same (by decide) (by decide)⟩
                generalize (puts V 0 dn FA).eval = ev at e56 ⊢
                clear hdep v0 v1 v2 v3 v4 v5 v6 v7 v8 v9 v10 v11 v12 v13 v14 v15 v16 v17 v18 v19 v20 v21 v22 hs hltF
                go_simp
                first | done | rfl | (intro h_; exfalso; omega)
              | 19, _ =>
                have hd := hdep _ rfl
                simp [Region.binds] at hd
                have hj18 : dn 18 = true := by first | exact hd | simp [hd]
                have e57 := done0 18 57 hs v18 (hltF _ (by decide)) hj18
                have lt_ := World.block_lt_of_cell? w1 _ U16_0.out
                have u0 := ((below_step HB3.out hW.below).cell (by exact lt_)).trans U16_0.out
                have u1 := ((below_step HB3.out hW.below).cell (by exact lt_)).trans U16_1.out
                have u2 := ((below_step HB3.out hW.below).cell (by exact lt_)).trans U16_2.out
                have u3 := ((below_step HB3.out hW.below).cell (by exact lt_)).trans U16_3.out
                clear lt_
                simp only [Nat.reduceAdd, Int.cast_ofNat_Int] at u0 u1 u2 u3
                refine op_run rfl rfl ?_ ⟨⟨_, _, v19, rfl⟩, hW.same (by decide) (by decide)⟩
                generalize (puts V 0 dn FA).eval = ev at e57 ⊢
                clear hdep v0 v1 v2 v3 v4 v5 v6 v7 v8 v9 v10 v11 v12 v13 v14 v15 v16 v17 v18 v19 v20 v21 v22 hs hltF
                go_simp
                first | done | rfl | (intro h_; exfalso; omega)
              | 20, _ =>
                have hd := hdep _ rfl
                simp [Region.binds] at hd
                have hj2 : dn 2 = true := by first | exact hd | simp [hd]
                have e41 := done0 2 41 hs v2 (hltF _ (by decide)) hj2
                have hj5 : dn 5 = true := by first | exact hd | simp [hd]
                have e44 := done0 5 44 hs v5 (hltF _ (by decide)) hj5
                have hj8 : dn 8 = true := by first | exact hd | simp [hd]
                have e47 := done0 8 47 hs v8 (hltF _ (by decide)) hj8
                have hj11 : dn 11 = true := by first | exact hd | simp [hd]
                have e50 := done0 11 50 hs v11 (hltF _ (by decide)) hj11
                have hj15 : dn 15 = true := by first | exact hd | simp [hd]
                have e54 := done0 15 54 hs v15 (hltF _ (by decide)) hj15
                have hj19 : dn 19 = true := by first | exact hd | simp [hd]
                have e58 := done0 19 58 hs v19 (hltF _ (by decide)) hj19
                refine op_run rfl rfl ?_ ⟨⟨_, _, v20, rfl⟩, hW.same (by decide) (by decide)⟩
                generalize (puts V 0 dn FA).eval = ev at e41 e44 e47 e50 e54 e58 ⊢
                clear hdep v0 v1 v2 v3 v4 v5 v6 v7 v8 v9 v10 v11 v12 v13 v14 v15 v16 v17 v18 v19 v20 v21 v22 hs hltF
                go_simp
                first | done | rfl | (intro h_; exfalso; omega)
              | 21, _ =>
                have hz := hW.size hdn
                refine op_run (w' := w'.alloc (.cells #[.int .u8 0, .int .u8 0, .int .u8 0, .int .u16 0, .int .u8 0, .int .u8 0, .int .u8 0, .int .u8 0, .int .u8 0, .int .u8 0, .int .u8 0, .int .u8 0] 25)) rfl rfl ?_ ⟨⟨_, _, v21, rfl⟩, hW.alloc hdn (by decide)⟩
                generalize (puts V 0 dn FA).eval = ev
                clear hdep v0 v1 v2 v3 v4 v5 v6 v7 v8 v9 v10 v11 v12 v13 v14 v15 v16 v17 v18 v19 v20 v21 v22 hs hltF
                go_simp
                first | done | rfl | (simp only [hz]; done) | (rw [hz])
              | 22, _ =>
                have hd := hdep _ rfl
                simp [Region.binds] at hd
                have hj21 : dn 21 = true := by first | exact hd | simp [hd]
                have e4 := done0 21 4 hs v21 (hltF _ (by decide)) hj21
                have hj20 : dn 20 = true := by first | exact hd | simp [hd]
                have e59 := done0 20 59 hs v20 (hltF _ (by decide)) hj20
                have hz := hW.zero hj21 hdn
                have hk0 := blk_cell hz 0
                have hf0 := blk_frozen hz 0
                have hk1 := blk_cell hz 1
                have hf1 := blk_frozen hz 1
                have hk2 := blk_cell hz 2
                have hf2 := blk_frozen hz 2
                have hk3 := blk_cell hz 3
                have hf3 := blk_frozen hz 3
                have hk4 := blk_cell hz 4
                have hf4 := blk_frozen hz 4
                have hk5 := blk_cell hz 5
                have hf5 := blk_frozen hz 5
                have hk6 := blk_cell hz 6
                have hf6 := blk_frozen hz 6
                have hk7 := blk_cell hz 7
                have hf7 := blk_frozen hz 7
                have hk8 := blk_cell hz 8
                have hf8 := blk_frozen hz 8
                have hk9 := blk_cell hz 9
                have hf9 := blk_frozen hz 9
                have hk10 := blk_cell hz 10
                have hf10 := blk_frozen hz 10
                have hk11 := blk_cell hz 11
                have hf11 := blk_frozen hz 11
                have HW := Aside0.mk hW
                have HZ := Aside0.mk hz
                clear hz
                have hlay : lay #[.int .u8 0, .int .u8 0, .int .u8 0, .int .u16 0, .int .u8 0, .int .u8 0, .int .u8 0, .int .u8 0, .int .u8 0, .int .u8 0, .int .u8 0, .int .u8 0] 0 [.int .u8 (rd l0 1), .int .u8 (rd l0 8), .int .u8 (rd l0 9), .int .u16 t5, .int .u8 (rd l0 12), .int .u8 (rd l0 13), .int .u8 (rd l0 14), .int .u8 (rd l0 15), .int .u8 (rd l0 16), .int .u8 (rd l0 17), .int .u8 (rd l0 18), .int .u8 (rd l0 19)] = #[.int .u8 (rd l0 1), .int .u8 (rd l0 8), .int .u8 (rd l0 9), .int .u16 t5, .int .u8 (rd l0 12), .int .u8 (rd l0 13), .int .u8 (rd l0 14), .int .u8 (rd l0 15), .int .u8 (rd l0 16), .int .u8 (rd l0 17), .int .u8 (rd l0 18), .int .u8 (rd l0 19)] := by simp only [lay, List.setIfInBounds_toArray, List.set_cons_zero, List.set_cons_succ, Nat.reduceAdd]
                refine op_skip (w' := w'.setCells w3.heap.size 0 [.int .u8 (rd l0 1), .int .u8 (rd l0 8), .int .u8 (rd l0 9), .int .u16 t5, .int .u8 (rd l0 12), .int .u8 (rd l0 13), .int .u8 (rd l0 14), .int .u8 (rd l0 15), .int .u8 (rd l0 16), .int .u8 (rd l0 17), .int .u8 (rd l0 18), .int .u8 (rd l0 19)]) rfl rfl ?_ ⟨⟨_, _, v22, rfl⟩, hW.store hj21 (by decide) (setCells_grown _ _ _) (setCells_blk' hlay HZ.out)⟩
                clear hlay
                generalize (puts V 0 dn FA).eval = ev at e4 e59 ⊢
                clear hdep v0 v1 v2 v3 v4 v5 v6 v7 v8 v9 v10 v11 v12 v13 v14 v15 v16 v17 v18 v19 v20 v21 v22 hs hltF hW
                go_simp
                first | done | rfl
              | n_ + 23, hi_ => exact absurd hi_ (by simp)
            clear hs hltF v0 v1 v2 v3 v4 v5 v6 v7 v8 v9 v10 v11 v12 v13 v14 v15 v16 v17 v18 v19 v20 v21 v22
            intro w' hW
            rw [hV]
            simp only [putAll', Act.put, ← hFA, List.setIfInBounds_toArray, List.set_cons_zero, List.set_cons_succ]
            have hr := hW.row
            have hx := blk_below HXW.out hW.below
            have hbw := below_step HBW.out hW.below
            have hlw : w.heap.size < w3.heap.size := blk_lt HXW.out
            generalize w3.heap.size = g at hr hlw ⊢
            have k0 := blk_cell hr 0
            have m0 := blk_cell hx 0
            have f0 := blk_frozen hx 0
            have k1 := blk_cell hr 1
            have m1 := blk_cell hx 1
            have f1 := blk_frozen hx 1
            have k2 := blk_cell hr 2
            have m2 := blk_cell hx 2
            have f2 := blk_frozen hx 2
            have k3 := blk_cell hr 3
            have m3 := blk_cell hx 3
            have f3 := blk_frozen hx 3
            have k4 := blk_cell hr 4
            have m4 := blk_cell hx 4
            have f4 := blk_frozen hx 4
            have k5 := blk_cell hr 5
            have m5 := blk_cell hx 5
            have f5 := blk_frozen hx 5
            have k6 := blk_cell hr 6
            have m6 := blk_cell hx 6
            have f6 := blk_frozen hx 6
            have k7 := blk_cell hr 7
            have m7 := blk_cell hx 7
            have f7 := blk_frozen hx 7
            have k8 := blk_cell hr 8
            have m8 := blk_cell hx 8
            have f8 := blk_frozen hx 8
            have k9 := blk_cell hr 9
            have m9 := blk_cell hx 9
            have f9 := blk_frozen hx 9
            have k10 := blk_cell hr 10
            have m10 := blk_cell hx 10
            have f10 := blk_frozen hx 10
            have k11 := blk_cell hr 11
            have m11 := blk_cell hx 11
            have f11 := blk_frozen hx 11
            have HX := Aside0.mk hx
            have HBX := Aside0.mk hbw
            clear hr hx hbw hW hlw
            go_wp2
            have hlay : lay #[.int .u8 0, .int .u8 0, .int .u8 0, .int .u16 0, .int .u8 0, .int .u8 0, .int .u8 0, .int .u8 0, .int .u8 0, .int .u8 0, .int .u8 0, .int .u8 0] 0 [.int .u8 (rd l0 1), .int .u8 (rd l0 8), .int .u8 (rd l0 9), .int .u16 t5, .int .u8 (rd l0 12), .int .u8 (rd l0 13), .int .u8 (rd l0 14), .int .u8 (rd l0 15), .int .u8 (rd l0 16), .int .u8 (rd l0 17), .int .u8 (rd l0 18), .int .u8 (rd l0 19)] = #[.int .u8 (rd l0 1), .int .u8 (rd l0 8), .int .u8 (rd l0 9), .int .u16 t5, .int .u8 (rd l0 12), .int .u8 (rd l0 13), .int .u8 (rd l0 14), .int .u8 (rd l0 15), .int .u8 (rd l0 16), .int .u8 (rd l0 17), .int .u8 (rd l0 18), .int .u8 (rd l0 19)] := by simp only [lay, List.setIfInBounds_toArray, List.set_cons_zero, List.set_cons_succ, Nat.reduceAdd]
            refine bodyPost_ret (results_ct rfl _ _ w.heap.size 25 #[.int .u8 (rd l0 1), .int .u8 (rd l0 8), .int .u8 (rd l0 9), .int .u16 t5, .int .u8 (rd l0 12), .int .u8 (rd l0 13), .int .u8 (rd l0 14), .int .u8 (rd l0 15), .int .u8 (rd l0 16), .int .u8 (rd l0 17), .int .u8 (rd l0 18), .int .u8 (rd l0 19)] (0, 0) _ rfl (setCells_blk' (vs := [.int .u8 (rd l0 1), .int .u8 (rd l0 8), .int .u8 (rd l0 9), .int .u16 t5, .int .u8 (rd l0 12), .int .u8 (rd l0 13), .int .u8 (rd l0 14), .int .u8 (rd l0 15), .int .u8 (rd l0 16), .int .u8 (rd l0 17), .int .u8 (rd l0 18), .int .u8 (rd l0 19)]) (o := 0) hlay HX.out) hu rfl (by kernel_rfl)) rfl ?_
            exact ⟨rfl, below_setCells [.int .u8 (rd l0 1), .int .u8 (rd l0 8), .int .u8 (rd l0 9), .int .u16 t5, .int .u8 (rd l0 12), .int .u8 (rd l0 13), .int .u8 (rd l0 14), .int .u8 (rd l0 15), .int .u8 (rd l0 16), .int .u8 (rd l0 17), .int .u8 (rd l0 18), .int .u8 (rd l0 19)] 0 HBX.out (Nat.le_refl _)⟩
          · rw [if_neg h8] at h
            have g8 : (t3 == t4) = false := beq_eq_false_iff_ne.mpr h8
            have g8' : (t3 != t4) = true := bne_iff_ne.mpr h8
            clear h8
            simp only [Option.some.injEq, Prod.mk.injEq] at h
            obtain ⟨rfl, rfl, rfl, rfl, rfl, rfl, rfl, rfl, rfl, rfl, rfl, rfl, rfl⟩ := h
            go_enter Try.func27, Try.ntmps27
            have u0 := G0.out
            have n0 : 0 < l0.length := by have := HL.out; omega
            have d0 : decide ((0 : Int) < (l0.length : Int)) = true := decide_eq_true (by have := HL.out; omega)
            go_wp2_with fail
            clear u0 n0 d0
            generalize w.alloc (.cells #[.int .u8 0, .int .u8 0, .int .u8 0, .int .u16 0, .int .u8 0, .int .u8 0, .int .u8 0, .int .u8 0, .int .u8 0, .int .u8 0, .int .u8 0, .int .u8 0] 25) = w1 at HB HX1 HR1 HLA G0 G1 G8 G9 TC CM C2 C4 C6 C10 C12 C16 U12_0 U12_1 U12_2 U12_3 U16_0 U16_1 U16_2 U16_3 ⊢
            refine (net4_word.calls (some a6) K6 D6 t1 _ C6.out CAP6.out (by rw [HD6.out]; exact E1.out)).mono ?_
            rintro e_ w_ ⟨rfl, ⟨nd, rfl⟩⟩
            have hb2 := pw_below_drewN (Below.refl w1.heap.size w1) nd
            generalize w1.drewN nd = w2 at hb2 ⊢
            have HB1 := Aside0.mk hb2
            clear hb2
            go_wp2_with fail
            refine (net4_word.calls (some a2) K2 D2 t2 _ (Kd.C_below C2.out HB1.out) CAP2.out (by rw [HD2.out]; exact E2.out)).mono ?_
            rintro e_ w_ ⟨rfl, ⟨nd, rfl⟩⟩
            have hb2 := below_step HB1.out (pw_below_drewN (Below.refl w2.heap.size w2) nd)
            clear HB1
            generalize w2.drewN nd = w9 at hb2 ⊢
            have HB2 := Aside0.mk hb2
            clear hb2
            go_wp2_with fail
            generalize hFA : Act.mk _ _ = FA
            obtain ⟨V, hV⟩ : ∃ V : List (Option Tmp × Value), V = [(some 29, .slice (some ad) l0.length c0), (some 30, .slice (some a10) D10.length K10), (some 31, .int .u16 t3), (some 32, .slice (some ad) l0.length c0), (some 33, .slice (some ad) T6.length c0), (some 34, .slice (some ad) l0.length c0), (some 35, .slice AM DM.length KM), (some 36, .int .u16 t4), (some 37, .bool (t3 != t4))] := ⟨_, rfl⟩
            have hs : slotsOk V := by rw [hV]; simp [slotsOk]
            have hltF : ∀ t, t < 61 → t < FA.tmps.size := fun t h => by rw [← hFA]; exact h
            have v0 : V[0]? = some (some 29, .slice (some ad) l0.length c0) := by rw [hV]; rfl
            have v1 : V[1]? = some (some 30, .slice (some a10) D10.length K10) := by rw [hV]; rfl
            have v2 : V[2]? = some (some 31, .int .u16 t3) := by rw [hV]; rfl
            have v3 : V[3]? = some (some 32, .slice (some ad) l0.length c0) := by rw [hV]; rfl
            have v4 : V[4]? = some (some 33, .slice (some ad) T6.length c0) := by rw [hV]; rfl
            have v5 : V[5]? = some (some 34, .slice (some ad) l0.length c0) := by rw [hV]; rfl
            have v6 : V[6]? = some (some 35, .slice AM DM.length KM) := by rw [hV]; rfl
            have v7 : V[7]? = some (some 36, .int .u16 t4) := by rw [hV]; rfl
            have v8 : V[8]? = some (some 37, .bool (t3 != t4)) := by rw [hV]; rfl
            refine region_inv (by kernel_rfl) V (by rw [hV]; rfl) hs (by kernel_rfl) (fun _ w_ => Below w9.heap.size w9 w_) (fun dn dn' w_ h_ hw_ => hw_) (below_drew (Below.refl _ _)) ?_ ?_
            · intro i_ hi_ dn w' hW hdn hdep
              match i_, hi_ with
              | 0, _ =>
                have e0 := puts_other V 0 dn FA 0 (by rw [hV]; simp)
                rw [show FA.eval (.tmp 0) = .slice (some ad) l0.length c0 from by rw [← hFA]; rfl] at e0
                refine op_run rfl rfl ?_ ⟨⟨_, _, v0, rfl⟩, hW⟩
                generalize (puts V 0 dn FA).eval = ev at e0 ⊢
                clear hdep v0 v1 v2 v3 v4 v5 v6 v7 v8 hs hltF
                go_simp
                first | done | rfl
              | 1, _ =>
                have hd := hdep _ rfl
                simp [Region.binds] at hd
                have hj0 : dn 0 = true := by first | exact hd | simp [hd]
                have e29 := done0 0 29 hs v0 (hltF _ (by decide)) hj0
                have hc : ∀ c, (puts V 0 dn FA).eval (.const c) = c := fun _ => rfl
                refine op_run rfl rfl ?_ ⟨⟨_, _, v1, rfl⟩, hW⟩
                generalize (puts V 0 dn FA).eval = ev at e29 hc ⊢
                clear hdep v0 v1 v2 v3 v4 v5 v6 v7 v8 hs hltF
                go_simp
                first | done | rfl
              | 2, _ =>
                have hd := hdep _ rfl
                simp [Region.binds] at hd
                have hj1 : dn 1 = true := by first | exact hd | simp [hd]
                have e30 := done0 1 30 hs v1 (hltF _ (by decide)) hj1
                have hf : ∀ f, (puts V 0 dn FA).eval (.func f) = .func (.func f) #[] #[] := fun _ => rfl
                refine op_call rfl rfl (w1 := w') (f := 58) (args := #[.slice (some a10) D10.length K10]) (v := .int .u16 t3) ?_ ?_
                · generalize (puts V 0 dn FA).eval = ev at e30 hf ⊢
                  clear hdep v0 v1 v2 v3 v4 v5 v6 v7 v8 hs hltF
                  go_simp
                  first | done | rfl
                · refine (net4_word.calls (some a10) K10 D10 t3 _ (Kd.C_below C10.out (below_step HB2.out hW)) CAP10.out (by rw [HD10.out]; exact E3.out)).mono ?_
                  rintro e_ w_ ⟨rfl, ⟨nd, rfl⟩⟩
                  exact ⟨rfl, ⟨_, _, v2, rfl⟩, pw_below_drewN hW nd⟩
              | 3, _ =>
                have e0 := puts_other V 0 dn FA 0 (by rw [hV]; simp)
                rw [show FA.eval (.tmp 0) = .slice (some ad) l0.length c0 from by rw [← hFA]; rfl] at e0
                refine op_run rfl rfl ?_ ⟨⟨_, _, v3, rfl⟩, hW⟩
                generalize (puts V 0 dn FA).eval = ev at e0 ⊢
                clear hdep v0 v1 v2 v3 v4 v5 v6 v7 v8 hs hltF
                go_simp
                first | done | rfl
              | 4, _ =>
                have hd := hdep _ rfl
                simp [Region.binds] at hd
                have hj3 : dn 3 = true := by first | exact hd | simp [hd]
                have e32 := done0 3 32 hs v3 (hltF _ (by decide)) hj3
                have hc : ∀ c, (puts V 0 dn FA).eval (.const c) = c := fun _ => rfl
                refine op_run rfl rfl ?_ ⟨⟨_, _, v4, rfl⟩, hW⟩
                generalize (puts V 0 dn FA).eval = ev at e32 hc ⊢
                clear hdep v0 v1 v2 v3 v4 v5 v6 v7 v8 hs hltF
                go_simp
                first | done | rfl
              | 5, _ =>
                have e0 := puts_other V 0 dn FA 0 (by rw [hV]; simp)
                rw [show FA.eval (.tmp 0) = .slice (some ad) l0.length c0 from by rw [← hFA]; rfl] at e0
                refine op_run rfl rfl ?_ ⟨⟨_, _, v5, rfl⟩, hW⟩
                generalize (puts V 0 dn FA).eval = ev at e0 ⊢
                clear hdep v0 v1 v2 v3 v4 v5 v6 v7 v8 hs hltF
                go_simp
                first | done | rfl
              | 6, _ =>
                have hd := hdep _ rfl
                simp [Region.binds] at hd
                have hj5 : dn 5 = true := by first | exact hd | simp [hd]
                have e34 := done0 5 34 hs v5 (hltF _ (by decide)) hj5
                have hc : ∀ c, (puts V 0 dn FA).eval (.const c) = c := fun _ => rfl
                refine op_run rfl rfl ?_ ⟨⟨_, _, v6, rfl⟩, hW⟩
                generalize (puts V 0 dn FA).eval = ev at e34 hc ⊢
                clear hdep v0 v1 v2 v3 v4 v5 v6 v7 v8 hs hltF
                go_simp
                first | done | rfl
              | 7, _ =>
                have hd := hdep _ rfl
                simp [Region.binds] at hd
                have hj4 : dn 4 = true := by first | exact hd | simp [hd]
                have e33 := done0 4 33 hs v4 (hltF _ (by decide)) hj4
                have hj6 : dn 6 = true := by first | exact hd | simp [hd]
                have e35 := done0 6 35 hs v6 (hltF _ (by decide)) hj6
                have hf : ∀ f, (puts V 0 dn FA).eval (.func f) = .func (.func f) #[] #[] := fun _ => rfl
                refine op_call rfl rfl (w1 := w') (f := 55) (args := #[.slice (some ad) T6.length c0, .slice AM DM.length KM]) (v := .int .u16 t4) ?_ ?_
                · generalize (puts V 0 dn FA).eval = ev at e33 e35 hf ⊢
                  clear hdep v0 v1 v2 v3 v4 v5 v6 v7 v8 hs hltF
                  go_simp
                  first | done | rfl
                · refine (net4_field.calls k (some ad) c0 T6 AM KM DM t4 _ (Kd.C_below TC.out (below_step HB2.out hW)) TCAP.out (Kd.C_below CM.out (below_step HB2.out hW)) CAPM.out (by rw [HT6.out, HDM.out]; exact E4.out)).mono ?_
                  rintro e_ w_ ⟨rfl, ⟨nd, rfl⟩⟩
                  exact ⟨rfl, ⟨_, _, v7, rfl⟩, pw_below_drewN hW nd⟩
              | 8, _ =>
                have hd := hdep _ rfl
                simp [Region.binds] at hd
                have hj2 : dn 2 = true := by first | exact hd | simp [hd]
                have e31 := done0 2 31 hs v2 (hltF _ (by decide)) hj2
                have hj7 : dn 7 = true := by first | exact hd | simp [hd]
                have e36 := done0 7 36 hs v7 (hltF _ (by decide)) hj7
                refine op_run rfl rfl ?_ ⟨⟨_, _, v8, rfl⟩, hW⟩
                generalize (puts V 0 dn FA).eval = ev at e31 e36 ⊢
                clear hdep v0 v1 v2 v3 v4 v5 v6 v7 v8 hs hltF
                go_simp
                first | done | rfl
              | n_ + 9, hi_ => exact absurd hi_ (by simp)
            clear hs hltF v0 v1 v2 v3 v4 v5 v6 v7 v8
            intro w' hW
            rw [hV]
            simp only [putAll', Act.put, ← hFA, List.setIfInBounds_toArray, List.set_cons_zero, List.set_cons_succ]
            have hb3 := below_step HB2.out hW
            clear hW
            generalize w' = w3 at hb3 ⊢
            have hx := blk_below HX1.out hb3
            have m0 := blk_cell hx 0
            have f0 := blk_frozen hx 0
            have m1 := blk_cell hx 1
            have f1 := blk_frozen hx 1
            have m2 := blk_cell hx 2
            have f2 := blk_frozen hx 2
            have m3 := blk_cell hx 3
            have f3 := blk_frozen hx 3
            have m4 := blk_cell hx 4
            have f4 := blk_frozen hx 4
            have m5 := blk_cell hx 5
            have f5 := blk_frozen hx 5
            have m6 := blk_cell hx 6
            have f6 := blk_frozen hx 6
            have m7 := blk_cell hx 7
            have f7 := blk_frozen hx 7
            have m8 := blk_cell hx 8
            have f8 := blk_frozen hx 8
            have m9 := blk_cell hx 9
            have f9 := blk_frozen hx 9
            have m10 := blk_cell hx 10
            have f10 := blk_frozen hx 10
            have m11 := blk_cell hx 11
            have f11 := blk_frozen hx 11
            have HX := Aside0.mk hx
            have HBW := Aside0.mk (below_step HB.out hb3)
            clear hx hb3
            go_wp2
            have hlay : lay #[.int .u8 0, .int .u8 0, .int .u8 0, .int .u16 0, .int .u8 0, .int .u8 0, .int .u8 0, .int .u8 0, .int .u8 0, .int .u8 0, .int .u8 0, .int .u8 0] 0 [.int .u8 0, .int .u8 0, .int .u8 0, .int .u16 0, .int .u8 0, .int .u8 0, .int .u8 0, .int .u8 0, .int .u8 0, .int .u8 0, .int .u8 0, .int .u8 0] = #[.int .u8 0, .int .u8 0, .int .u8 0, .int .u16 0, .int .u8 0, .int .u8 0, .int .u8 0, .int .u8 0, .int .u8 0, .int .u8 0, .int .u8 0, .int .u8 0] := by simp only [lay, List.setIfInBounds_toArray, List.set_cons_zero, List.set_cons_succ, Nat.reduceAdd]
            exact bodyPost_ret (results_ct rfl _ _ w.heap.size 25 #[.int .u8 0, .int .u8 0, .int .u8 0, .int .u16 0, .int .u8 0, .int .u8 0, .int .u8 0, .int .u8 0, .int .u8 0, .int .u8 0, .int .u8 0, .int .u8 0] (0, 0) _ rfl (setCells_blk' (vs := [.int .u8 0, .int .u8 0, .int .u8 0, .int .u16 0, .int .u8 0, .int .u8 0, .int .u8 0, .int .u8 0, .int .u8 0, .int .u8 0, .int .u8 0, .int .u8 0]) (o := 0) hlay HX.out) hu rfl (by kernel_rfl)) rfl ⟨rfl, below_setCells [.int .u8 0, .int .u8 0, .int .u8 0, .int .u16 0, .int .u8 0, .int .u8 0, .int .u8 0, .int .u8 0, .int .u8 0, .int .u8 0, .int .u8 0, .int .u8 0] 0 HBW.out (Nat.le_refl _)⟩
        · rw [if_neg h6] at h
          have g6 : (wrap64 t2 == (l0.length : Int)) = false := beq_eq_false_iff_ne.mpr h6
          have g6' : (wrap64 t2 != (l0.length : Int)) = true := bne_iff_ne.mpr h6
          clear h6
          simp only [Option.some.injEq, Prod.mk.injEq] at h
          obtain ⟨rfl, rfl, rfl, rfl, rfl, rfl, rfl, rfl, rfl, rfl, rfl, rfl, rfl⟩ := h
          go_enter Try.func27, Try.ntmps27
          have u0 := G0.out
          have n0 : 0 < l0.length := by have := HL.out; omega
          have d0 : decide ((0 : Int) < (l0.length : Int)) = true := decide_eq_true (by have := HL.out; omega)
          go_wp2_with fail
          clear u0 n0 d0
          generalize w.alloc (.cells #[.int .u8 0, .int .u8 0, .int .u8 0, .int .u16 0, .int .u8 0, .int .u8 0, .int .u8 0, .int .u8 0, .int .u8 0, .int .u8 0, .int .u8 0, .int .u8 0] 25) = w1 at HB HX1 HR1 HLA G0 G1 G8 G9 TC CM C2 C4 C6 C10 C12 C16 U12_0 U12_1 U12_2 U12_3 U16_0 U16_1 U16_2 U16_3 ⊢
          refine (net4_word.calls (some a6) K6 D6 t1 _ C6.out CAP6.out (by rw [HD6.out]; exact E1.out)).mono ?_
          rintro e_ w_ ⟨rfl, ⟨nd, rfl⟩⟩
          have hb2 := pw_below_drewN (Below.refl w1.heap.size w1) nd
          generalize w1.drewN nd = w2 at hb2 ⊢
          have HB1 := Aside0.mk hb2
          clear hb2
          go_wp2_with fail
          refine (net4_word.calls (some a2) K2 D2 t2 _ (Kd.C_below C2.out HB1.out) CAP2.out (by rw [HD2.out]; exact E2.out)).mono ?_
          rintro e_ w_ ⟨rfl, ⟨nd, rfl⟩⟩
          have hb2 := below_step HB1.out (pw_below_drewN (Below.refl w2.heap.size w2) nd)
          clear HB1
          generalize w2.drewN nd = w9 at hb2 ⊢
          have hx := blk_below HX1.out hb2
          have m0 := blk_cell hx 0
          have f0 := blk_frozen hx 0
          have m1 := blk_cell hx 1
          have f1 := blk_frozen hx 1
          have m2 := blk_cell hx 2
          have f2 := blk_frozen hx 2
          have m3 := blk_cell hx 3
          have f3 := blk_frozen hx 3
          have m4 := blk_cell hx 4
          have f4 := blk_frozen hx 4
          have m5 := blk_cell hx 5
          have f5 := blk_frozen hx 5
          have m6 := blk_cell hx 6
          have f6 := blk_frozen hx 6
          have m7 := blk_cell hx 7
          have f7 := blk_frozen hx 7
          have m8 := blk_cell hx 8
          have f8 := blk_frozen hx 8
          have m9 := blk_cell hx 9
          have f9 := blk_frozen hx 9
          have m10 := blk_cell hx 10
          have f10 := blk_frozen hx 10
          have m11 := blk_cell hx 11
          have f11 := blk_frozen hx 11
          have HX := Aside0.mk hx
          have HBW := Aside0.mk (below_step HB.out hb2)
          clear hx hb2
          go_wp2
          have hlay : lay #[.int .u8 0, .int .u8 0, .int .u8 0, .int .u16 0, .int .u8 0, .int .u8 0, .int .u8 0, .int .u8 0, .int .u8 0, .int .u8 0, .int .u8 0, .int .u8 0] 0 [.int .u8 0, .int .u8 0, .int .u8 0, .int .u16 0, .int .u8 0, .int .u8 0, .int .u8 0, .int .u8 0, .int .u8 0, .int .u8 0, .int .u8 0, .int .u8 0] = #[.int .u8 0, .int .u8 0, .int .u8 0, .int .u16 0, .int .u8 0, .int .u8 0, .int .u8 0, .int .u8 0, .int .u8 0, .int .u8 0, .int .u8 0, .int .u8 0] := by simp only [lay, List.setIfInBounds_toArray, List.set_cons_zero, List.set_cons_succ, Nat.reduceAdd]
          exact bodyPost_ret (results_ct rfl _ _ w.heap.size 25 #[.int .u8 0, .int .u8 0, .int .u8 0, .int .u16 0, .int .u8 0, .int .u8 0, .int .u8 0, .int .u8 0, .int .u8 0, .int .u8 0, .int .u8 0, .int .u8 0] (0, 0) _ rfl (setCells_blk' (vs := [.int .u8 0, .int .u8 0, .int .u8 0, .int .u16 0, .int .u8 0, .int .u8 0, .int .u8 0, .int .u8 0, .int .u8 0, .int .u8 0, .int .u8 0, .int .u8 0]) (o := 0) hlay HX.out) hu rfl (by kernel_rfl)) rfl ⟨rfl, below_setCells [.int .u8 0, .int .u8 0, .int .u8 0, .int .u16 0, .int .u8 0, .int .u8 0, .int .u8 0, .int .u8 0, .int .u8 0, .int .u8 0, .int .u8 0, .int .u8 0] 0 HBW.out (Nat.le_refl _)⟩
      · rw [if_neg h9] at h
        have g9 : (t1 == 0) = false := beq_eq_false_iff_ne.mpr h9
        have g9' : (t1 != 0) = true := bne_iff_ne.mpr h9
        clear h9
        simp only [Option.some.injEq, Prod.mk.injEq] at h
        obtain ⟨rfl, rfl, rfl, rfl, rfl, rfl, rfl, rfl, rfl, rfl, rfl, rfl, rfl⟩ := h
        go_enter Try.func27, Try.ntmps27
        have u0 := G0.out
        have n0 : 0 < l0.length := by have := HL.out; omega
        have d0 : decide ((0 : Int) < (l0.length : Int)) = true := decide_eq_true (by have := HL.out; omega)
        go_wp2_with fail
        clear u0 n0 d0
        generalize w.alloc (.cells #[.int .u8 0, .int .u8 0, .int .u8 0, .int .u16 0, .int .u8 0, .int .u8 0, .int .u8 0, .int .u8 0, .int .u8 0, .int .u8 0, .int .u8 0, .int .u8 0] 25) = w1 at HB HX1 HR1 HLA G0 G1 G8 G9 TC CM C2 C4 C6 C10 C12 C16 U12_0 U12_1 U12_2 U12_3 U16_0 U16_1 U16_2 U16_3 ⊢
        refine (net4_word.calls (some a6) K6 D6 t1 _ C6.out CAP6.out (by rw [HD6.out]; exact E1.out)).mono ?_
        rintro e_ w_ ⟨rfl, ⟨nd, rfl⟩⟩
        have hb2 := pw_below_drewN (Below.refl w1.heap.size w1) nd
        generalize w1.drewN nd = w2 at hb2 ⊢
        have hx := blk_below HX1.out hb2
        have m0 := blk_cell hx 0
        have f0 := blk_frozen hx 0
        have m1 := blk_cell hx 1
        have f1 := blk_frozen hx 1
        have m2 := blk_cell hx 2
        have f2 := blk_frozen hx 2
        have m3 := blk_cell hx 3
        have f3 := blk_frozen hx 3
        have m4 := blk_cell hx 4
        have f4 := blk_frozen hx 4
        have m5 := blk_cell hx 5
        have f5 := blk_frozen hx 5
        have m6 := blk_cell hx 6
        have f6 := blk_frozen hx 6
        have m7 := blk_cell hx 7
        have f7 := blk_frozen hx 7
        have m8 := blk_cell hx 8
        have f8 := blk_frozen hx 8
        have m9 := blk_cell hx 9
        have f9 := blk_frozen hx 9
        have m10 := blk_cell hx 10
        have f10 := blk_frozen hx 10
        have m11 := blk_cell hx 11
        have f11 := blk_frozen hx 11
        have HX := Aside0.mk hx
        have HBW := Aside0.mk (below_step HB.out hb2)
        clear hx hb2
        go_wp2
        have hlay : lay #[.int .u8 0, .int .u8 0, .int .u8 0, .int .u16 0, .int .u8 0, .int .u8 0, .int .u8 0, .int .u8 0, .int .u8 0, .int .u8 0, .int .u8 0, .int .u8 0] 0 [.int .u8 0, .int .u8 0, .int .u8 0, .int .u16 0, .int .u8 0, .int .u8 0, .int .u8 0, .int .u8 0, .int .u8 0, .int .u8 0, .int .u8 0, .int .u8 0] = #[.int .u8 0, .int .u8 0, .int .u8 0, .int .u16 0, .int .u8 0, .int .u8 0, .int .u8 0, .int .u8 0, .int .u8 0, .int .u8 0, .int .u8 0, .int .u8 0] := by simp only [lay, List.setIfInBounds_toArray, List.set_cons_zero, List.set_cons_succ, Nat.reduceAdd]
        exact bodyPost_ret (results_ct rfl _ _ w.heap.size 25 #[.int .u8 0, .int .u8 0, .int .u8 0, .int .u16 0, .int .u8 0, .int .u8 0, .int .u8 0, .int .u8 0, .int .u8 0, .int .u8 0, .int .u8 0, .int .u8 0] (0, 0) _ rfl (setCells_blk' (vs := [.int .u8 0, .int .u8 0, .int .u8 0, .int .u16 0, .int .u8 0, .int .u8 0, .int .u8 0, .int .u8 0, .int .u8 0, .int .u8 0, .int .u8 0, .int .u8 0]) (o := 0) hlay HX.out) hu rfl (by kernel_rfl)) rfl ⟨rfl, below_setCells [.int .u8 0, .int .u8 0, .int .u8 0, .int .u16 0, .int .u8 0, .int .u8 0, .int .u8 0, .int .u8 0, .int .u8 0, .int .u8 0, .int .u8 0, .int .u8 0] 0 HBW.out (Nat.le_refl _)⟩
    · rw [if_neg h7] at h
      have g7 : (rd l0 0 == 69) = false := beq_eq_false_iff_ne.mpr h7
      have g7' : (rd l0 0 != 69) = true := bne_iff_ne.mpr h7
      clear h7
      simp only [Option.some.injEq, Prod.mk.injEq] at h
      obtain ⟨rfl, rfl, rfl, rfl, rfl, rfl, rfl, rfl, rfl, rfl, rfl, rfl, rfl⟩ := h
      go_enter Try.func27, Try.ntmps27
      have u0 := G0.out
      have n0 : 0 < l0.length := by have := HL.out; omega
      have d0 : decide ((0 : Int) < (l0.length : Int)) = true := decide_eq_true (by have := HL.out; omega)
      go_wp2
      refine bodyPost_ret (results_ct rfl _ _ w.heap.size 25 #[.int .u8 0, .int .u8 0, .int .u8 0, .int .u16 0, .int .u8 0, .int .u8 0, .int .u8 0, .int .u8 0, .int .u8 0, .int .u8 0, .int .u8 0, .int .u8 0] (0, 0) _ rfl ?_ hu rfl (by kernel_rfl)) rfl ?_
      · exact blk_new _ _
      · exact ⟨rfl, (Below.refl _ _).alloc (Nat.le_refl _) _⟩

end Go.Proofs.Ytipdajgcepefgaa.P
