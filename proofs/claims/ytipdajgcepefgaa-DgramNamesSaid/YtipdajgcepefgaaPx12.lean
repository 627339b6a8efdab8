/- Contracts of the functions that the statements reach, and the statements: written by a program of this repo (wip/patch_print.py); Lean checks every line; no conditions. -/
import Derived.Test.YtipdajgcepefgaaPx0
import Derived.Test.YtipdajgcepefgaaPx5
import Derived.Test.YtipdajgcepefgaaPx11
namespace Go.Proofs.Ytipdajgcepefgaa.P
open Go.RowKit Go.Proofs.YtipdajgcepefgaaW.PrintWords Go.Proofs.YtipdajgcepefgaaW.PrintLast Go.Proofs.YtipdajgcepefgaaW.PrintMore
attribute [local go_sem] max2_int min2_int max_two min_two max_three min_three max_four min_four Go.Proofs.YtipdajgcepefgaaW.Own.u16_all   -- for this text's walks alone
set_option linter.unusedVariables false
set_option linter.unusedSimpArgs false

/-! ### dgram_Read: function 39 -/
def dgram_Read.f (k : Nat) (l0 : List Int) : Option (Int × Int × Int) := if (l0.length : Int) < 8 then (some (0, 0, 6)) else ((dgram_word.f (l0.drop 4)).bind fun t1 => if wrap64 t1 = (l0.length : Int) then ((dgram_word.f (l0.drop 6)).bind fun t2 => ((dgram_field.f k (l0.take 6) (l0.drop 8)).bind fun t3 => if t2 = t3 then ((dgram_word.f l0).bind fun t4 => ((dgram_word.f (l0.drop 2)).bind fun t5 => some (t4, t5, 0))) else some (0, 0, 110))) else some (0, 0, 100))
theorem dgram_Read.mono : ∀ b k, LeO (dgram_Read.f k b) (dgram_Read.f (k + 1) b) := by
  intro b k
  unfold dgram_Read.f
  repeat' first
    | (with_reducible exact dgram_field.mono _ _ _)
    | (with_reducible exact LeO.refl _)
    | (with_reducible refine LeO.ite ?_ ?_)
    | (with_reducible refine LeO.bind ?_ (fun _ => ?_))
theorem dgram_Read.tail_of {P : Program} {T e : TypeId} {i : TypeInfo} (ht : P.underlying T = some (.slice e)) (hi : P.info? e = some i) (hsz : i.size = 1) {A : Option Addr} {c : Nat} {l : List Int} (hc : l.length ≤ c) (j : Nat) (hj : j ≤ l.length) :
    ∃ (aj : Option Addr) (d : List Int) (kj : Nat), (∀ W : World, (Instr.slice T (.slice A l.length c) (some (.int .i64 j)) none none).run P W = .ok (.slice aj d.length kj) W) ∧ d.length ≤ kj ∧ d = l.drop j ∧ ∀ w : World, Kd.C (Kd.int .u8) w A l.length l → Kd.C (Kd.int .u8) w aj d.length d := by
  obtain ⟨A', hcut, hA, hC⟩ := print_drop_of (P := P) (Value.int .u8) 0 T e .i64 ht hi hsz A c l (j : Int) (by omega) (by omega) hc
  rw [Int.toNat_natCast] at hcut hA hC
  exact ⟨A', _, _, hcut, hC, rfl, fun w hr => Kd.C_of_reads (h1 := fun _ => rfl) (hA w (Kd.reads_of_C hr))⟩
theorem dgram_Read.head_of {P : Program} {T e : TypeId} {i : TypeInfo} (ht : P.underlying T = some (.slice e)) (hi : P.info? e = some i) (hsz : i.size = 1) {A : Option Addr} {c : Nat} {l : List Int} (hc : l.length ≤ c) (j : Nat) (hj : j ≤ l.length) :
    ∃ d : List Int, (∀ W : World, (Instr.slice T (.slice A l.length c) none (some (.int .i64 j)) none).run P W = .ok (.slice A d.length c) W) ∧ d.length ≤ c ∧ d = l.take j := by
  have h := print_take_of (P := P) (Value.int .u8) 0 T e .i64 ht hi hsz A c l (j : Int) (by omega) (by omega) hc
  rw [Int.toNat_natCast] at h
  exact ⟨_, h.1, h.2.2, rfl⟩
open Go.Proofs.YtipdajgcepefgaaW.Own in
set_option maxHeartbeats 4000000 in
set_option maxRecDepth 100000 in
theorem dgram_Read.calls (k : Nat) (A0 : Option Addr) (c0 : Nat) (l0 : List Int) (r1 : Int) (r2 : Int) (r3 : Int) (w : World) (hr0 : Kd.C (Kd.int .u8) w A0 l0.length l0) (hc0 : l0.length ≤ c0) (h : dgram_Read.f k l0 = some (r1, r2, r3)) :
    Calls Try.prog 39 #[.slice A0 l0.length c0] w fun e w' => e = .returned (.tuple #[.agg #[.int .u16 r1, .int .u16 r2], .int .i64 r3]) ∧ Below w.heap.size w w' := by
  have hu := Try.underlying47
  unfold dgram_Read.f at h
  by_cases h4 : (l0.length : Int) < 8
  · rw [if_pos h4] at h
    simp only [Option.some.injEq, Prod.mk.injEq] at h
    obtain ⟨rfl, rfl, rfl⟩ := h
    have d4 : decide ((l0.length : Int) < 8) = true := decide_eq_true h4
    have d4' : decide (l0.length < 8) = true := decide_eq_true (by omega)
    clear h4 hr0 hc0
    go_enter Try.func39, Try.ntmps39
    go_wp2
    refine bodyPost_ret (results_ct rfl _ _ w.heap.size 47 #[.int .u16 0, .int .u16 0] (0, 0) _ rfl ?_ hu rfl (by kernel_rfl)) rfl ?_
    · exact blk_new _ _
    · exact ⟨rfl, (Below.refl _ _).alloc (Nat.le_refl _) _⟩
  · rw [if_neg h4] at h
    obtain ⟨t1, e1, h⟩ := Option.bind_eq_some_iff.mp h
    have d4 : decide ((l0.length : Int) < 8) = false := decide_eq_false h4
    have d4' : decide (l0.length < 8) = false := decide_eq_false (by omega)
    have hlen : 8 ≤ l0.length := by omega
    have E1 := Aside0.mk e1
    clear h4 e1
    obtain ⟨i5, hi5, _, hsz5, _⟩ := info_parts info5
    have hb : Below w.heap.size w (w.alloc (.cells #[.int .u16 0, .int .u16 0] 47)) := (Below.refl _ _).alloc (Nat.le_refl _) _
    have hr1 := Kd.C_below hr0 hb
    have HX1 := Aside0.mk (blk_new w (.cells #[.int .u16 0, .int .u16 0] 47))
    obtain ⟨A2, D2, K2, cut2, cap2, hd2, hC2⟩ := dgram_Read.tail_of (P := Try.prog) (A := A0) Try.underlying26 hi5 hsz5 hc0 2 (by omega)
    have C2 := Aside0.mk (hC2 _ hr1)
    have CAP2 := Aside0.mk cap2
    simp only [Int.cast_ofNat_Int] at cut2
    have HD2 := Aside0.mk hd2
    clear hC2 cap2 hd2
    obtain ⟨A4, D4, K4, cut4, cap4, hd4, hC4⟩ := dgram_Read.tail_of (P := Try.prog) (A := A0) Try.underlying26 hi5 hsz5 hc0 4 (by omega)
    have C4 := Aside0.mk (hC4 _ hr1)
    have CAP4 := Aside0.mk cap4
    simp only [Int.cast_ofNat_Int] at cut4
    have HD4 := Aside0.mk hd4
    clear hC4 cap4 hd4
    obtain ⟨A6, D6, K6, cut6, cap6, hd6, hC6⟩ := dgram_Read.tail_of (P := Try.prog) (A := A0) Try.underlying26 hi5 hsz5 hc0 6 (by omega)
    have C6 := Aside0.mk (hC6 _ hr1)
    have CAP6 := Aside0.mk cap6
    simp only [Int.cast_ofNat_Int] at cut6
    have HD6 := Aside0.mk hd6
    clear hC6 cap6 hd6
    obtain ⟨A8, D8, K8, cut8, cap8, hd8, hC8⟩ := dgram_Read.tail_of (P := Try.prog) (A := A0) Try.underlying26 hi5 hsz5 hc0 8 (by omega)
    have C8 := Aside0.mk (hC8 _ hr1)
    have CAP8 := Aside0.mk cap8
    simp only [Int.cast_ofNat_Int] at cut8
    have HD8 := Aside0.mk hd8
    clear hC8 cap8 hd8
    obtain ⟨T6, take6, tcap, ht6⟩ := dgram_Read.head_of (P := Try.prog) (A := A0) Try.underlying26 hi5 hsz5 hc0 6 (by omega)
    simp only [Int.cast_ofNat_Int] at take6
    have TC := Aside0.mk (show Kd.C (Kd.int .u8) _ A0 T6.length T6 by rw [ht6]; exact Kd.C_take hr1 (m := 6) (by omega))
    have HT6 := Aside0.mk ht6
    clear ht6
    have TCAP := Aside0.mk tcap
    have HR1 := Aside0.mk hr1
    have HC0 := Aside0.mk hc0
    have HB := Aside0.mk hb
    have HL := Aside0.mk hlen
    clear hr0 hr1 hc0 hb hlen tcap hi5 hsz5
    by_cases h7 : wrap64 t1 = (l0.length : Int)
    · rw [if_pos h7] at h
      have g7 : (wrap64 t1 == (l0.length : Int)) = true := beq_iff_eq.mpr h7
      have g7' : (wrap64 t1 != (l0.length : Int)) = false := bne_eq_false_iff_eq.mpr h7
      clear h7
      obtain ⟨t2, e2, h⟩ := Option.bind_eq_some_iff.mp h
      obtain ⟨t3, e3, h⟩ := Option.bind_eq_some_iff.mp h
      have E2 := Aside0.mk e2
      have E3 := Aside0.mk e3
      clear e2 e3
      by_cases h8 : t2 = t3
      · rw [if_pos h8] at h
        have g8 : (t2 == t3) = true := beq_iff_eq.mpr h8
        have g8' : (t2 != t3) = false := bne_eq_false_iff_eq.mpr h8
        clear h8
        obtain ⟨t4, e4, h⟩ := Option.bind_eq_some_iff.mp h
        obtain ⟨t5, e5, h⟩ := Option.bind_eq_some_iff.mp h
        simp only [Option.some.injEq, Prod.mk.injEq] at h
        obtain ⟨rfl, rfl, rfl⟩ := h
        have E4 := Aside0.mk e4
        have E5 := Aside0.mk e5
        clear e4 e5
        go_enter Try.func39, Try.ntmps39
        go_wp2_with fail
        generalize w.alloc (.cells #[.int .u16 0, .int .u16 0] 47) = w1 at HB HX1 HR1 C2 C4 C6 C8 TC ⊢
        refine (dgram_word.calls A4 K4 D4 t1 _ C4.out CAP4.out (by rw [HD4.out]; exact E1.out)).mono ?_
        rintro e_ w_ ⟨rfl, ⟨nd, rfl⟩⟩
        have hb2 := pw_below_drewN (Below.refl w1.heap.size w1) nd
        generalize w1.drewN nd = w2 at hb2 ⊢
        have HB2 := Aside0.mk hb2
        clear hb2
        go_wp2_with fail
        generalize hFA : Act.mk _ _ = FA
        obtain ⟨V, hV⟩ : ∃ V : List (Option Tmp × Value), V = [(some 17, .slice A0 l0.length c0), (some 18, .slice A6 D6.length K6), (some 19, .int .u16 t2), (some 20, .slice A0 l0.length c0), (some 21, .slice A0 T6.length c0), (some 22, .slice A0 l0.length c0), (some 23, .slice A8 D8.length K8), (some 24, .int .u16 t3), (some 25, .bool (t2 != t3))] := ⟨_, rfl⟩
        have hs : slotsOk V := by rw [hV]; simp [slotsOk]
        have hltF : ∀ t, t < 34 → t < FA.tmps.size := fun t h => by rw [← hFA]; exact h
        have v0 : V[0]? = some (some 17, .slice A0 l0.length c0) := by rw [hV]; rfl
        have v1 : V[1]? = some (some 18, .slice A6 D6.length K6) := by rw [hV]; rfl
        have v2 : V[2]? = some (some 19, .int .u16 t2) := by rw [hV]; rfl
        have v3 : V[3]? = some (some 20, .slice A0 l0.length c0) := by rw [hV]; rfl
        have v4 : V[4]? = some (some 21, .slice A0 T6.length c0) := by rw [hV]; rfl
        have v5 : V[5]? = some (some 22, .slice A0 l0.length c0) := by rw [hV]; rfl
        have v6 : V[6]? = some (some 23, .slice A8 D8.length K8) := by rw [hV]; rfl
        have v7 : V[7]? = some (some 24, .int .u16 t3) := by rw [hV]; rfl
        have v8 : V[8]? = some (some 25, .bool (t2 != t3)) := by rw [hV]; rfl
        refine region_inv (by kernel_rfl) V (by rw [hV]; rfl) hs (by kernel_rfl) (fun _ w_ => Below w2.heap.size w2 w_) (fun dn dn' w_ h_ hw_ => hw_) (below_drew (Below.refl _ _)) ?_ ?_
        · intro i_ hi_ dn w' hW hdn hdep
          match i_, hi_ with
          | 0, _ =>
            have e0 := puts_other V 0 dn FA 0 (by rw [hV]; simp)
            rw [show FA.eval (.tmp 0) = .slice A0 l0.length c0 from by rw [← hFA]; rfl] at e0
            refine op_run rfl rfl ?_ ⟨⟨_, _, v0, rfl⟩, hW⟩
            generalize (puts V 0 dn FA).eval = ev at e0 ⊢
            clear hdep v0 v1 v2 v3 v4 v5 v6 v7 v8 hs hltF
            go_simp
            first | done | rfl
          | 1, _ =>
            have hd := hdep _ rfl
            simp [Region.binds] at hd
            have hj0 : dn 0 = true := by first | exact hd | simp [hd]
            have e17 := done0 0 17 hs v0 (hltF _ (by decide)) hj0
            have hc : ∀ c, (puts V 0 dn FA).eval (.const c) = c := fun _ => rfl
            refine op_run rfl rfl ?_ ⟨⟨_, _, v1, rfl⟩, hW⟩
            generalize (puts V 0 dn FA).eval = ev at e17 hc ⊢
            clear hdep v0 v1 v2 v3 v4 v5 v6 v7 v8 hs hltF
            go_simp
            first | done | rfl
          | 2, _ =>
            have hd := hdep _ rfl
            simp [Region.binds] at hd
            have hj1 : dn 1 = true := by first | exact hd | simp [hd]
            have e18 := done0 1 18 hs v1 (hltF _ (by decide)) hj1
            have hf : ∀ f, (puts V 0 dn FA).eval (.func f) = .func (.func f) #[] #[] := fun _ => rfl
            refine op_call rfl rfl (w1 := w') (f := 65) (args := #[.slice A6 D6.length K6]) (v := .int .u16 t2) ?_ ?_
            · generalize (puts V 0 dn FA).eval = ev at e18 hf ⊢
              clear hdep v0 v1 v2 v3 v4 v5 v6 v7 v8 hs hltF
              go_simp
              first | done | rfl
            · refine (dgram_word.calls A6 K6 D6 t2 _ (Kd.C_below C6.out (below_step HB2.out hW)) CAP6.out (by rw [HD6.out]; exact E2.out)).mono ?_
              rintro e_ w_ ⟨rfl, ⟨nd, rfl⟩⟩
              exact ⟨rfl, ⟨_, _, v2, rfl⟩, pw_below_drewN hW nd⟩
          | 3, _ =>
            have e0 := puts_other V 0 dn FA 0 (by rw [hV]; simp)
            rw [show FA.eval (.tmp 0) = .slice A0 l0.length c0 from by rw [← hFA]; rfl] at e0
            refine op_run rfl rfl ?_ ⟨⟨_, _, v3, rfl⟩, hW⟩
            generalize (puts V 0 dn FA).eval = ev at e0 ⊢
            clear hdep v0 v1 v2 v3 v4 v5 v6 v7 v8 hs hltF
            go_simp
            first | done | rfl
          | 4, _ =>
            have hd := hdep _ rfl
            simp [Region.binds] at hd
            have hj3 : dn 3 = true := by first | exact hd | simp [hd]
            have e20 := done0 3 20 hs v3 (hltF _ (by decide)) hj3
            have hc : ∀ c, (puts V 0 dn FA).eval (.const c) = c := fun _ => rfl
            refine op_run rfl rfl ?_ ⟨⟨_, _, v4, rfl⟩, hW⟩
            generalize (puts V 0 dn FA).eval = ev at e20 hc ⊢
            clear hdep v0 v1 v2 v3 v4 v5 v6 v7 v8 hs hltF
            go_simp
            first | done | rfl
          | 5, _ =>
            have e0 := puts_other V 0 dn FA 0 (by rw [hV]; simp)
            rw [show FA.eval (.tmp 0) = .slice A0 l0.length c0 from by rw [← hFA]; rfl] at e0
            refine op_run rfl rfl ?_ ⟨⟨_, _, v5, rfl⟩, hW⟩
            generalize (puts V 0 dn FA).eval = ev at e0 ⊢
            clear hdep v0 v1 v2 v3 v4 v5 v6 v7 v8 hs hltF
            go_simp
            first | done | rfl
          | 6, _ =>
            have hd := hdep _ rfl
            simp [Region.binds] at hd
            have hj5 : dn 5 = true := by first | exact hd | simp [hd]
            have e22 := done0 5 22 hs v5 (hltF _ (by decide)) hj5
            have hc : ∀ c, (puts V 0 dn FA).eval (.const c) = c := fun _ => rfl
            refine op_run rfl rfl ?_ ⟨⟨_, _, v6, rfl⟩, hW⟩
            generalize (puts V 0 dn FA).eval = ev at e22 hc ⊢
            clear hdep v0 v1 v2 v3 v4 v5 v6 v7 v8 hs hltF
            go_simp
            first | done | rfl
          | 7, _ =>
            have hd := hdep _ rfl
            simp [Region.binds] at hd
            have hj4 : dn 4 = true := by first | exact hd | simp [hd]
            have e21 := done0 4 21 hs v4 (hltF _ (by decide)) hj4
            have hj6 : dn 6 = true := by first | exact hd | simp [hd]
            have e23 := done0 6 23 hs v6 (hltF _ (by decide)) hj6
            have hf : ∀ f, (puts V 0 dn FA).eval (.func f) = .func (.func f) #[] #[] := fun _ => rfl
            refine op_call rfl rfl (w1 := w') (f := 61) (args := #[.slice A0 T6.length c0, .slice A8 D8.length K8]) (v := .int .u16 t3) ?_ ?_
            · generalize (puts V 0 dn FA).eval = ev at e21 e23 hf ⊢
              clear hdep v0 v1 v2 v3 v4 v5 v6 v7 v8 hs hltF
              go_simp
              first | done | rfl
            · refine (dgram_field.calls k A0 c0 T6 A8 K8 D8 t3 _ (Kd.C_below TC.out (below_step HB2.out hW)) TCAP.out (Kd.C_below C8.out (below_step HB2.out hW)) CAP8.out (by rw [HT6.out, HD8.out]; exact E3.out)).mono ?_
              rintro e_ w_ ⟨rfl, ⟨nd, rfl⟩⟩
              exact ⟨rfl, ⟨_, _, v7, rfl⟩, pw_below_drewN hW nd⟩
          | 8, _ =>
            have hd := hdep _ rfl
            simp [Region.binds] at hd
            have hj2 : dn 2 = true := by first | exact hd | simp [hd]
            have e19 := done0 2 19 hs v2 (hltF _ (by decide)) hj2
            have hj7 : dn 7 = true := by first | exact hd | simp [hd]
            have e24 := done0 7 24 hs v7 (hltF _ (by decide)) hj7
            refine op_run rfl rfl ?_ ⟨⟨_, _, v8, rfl⟩, hW⟩
            generalize (puts V 0 dn FA).eval = ev at e19 e24 ⊢
            clear hdep v0 v1 v2 v3 v4 v5 v6 v7 v8 hs hltF
            go_simp
            first | done | rfl
          | n_ + 9, hi_ => exact absurd hi_ (by simp)
        clear hs hltF v0 v1 v2 v3 v4 v5 v6 v7 v8
        intro w' hW
        rw [hV]
        simp only [putAll', Act.put, ← hFA, List.setIfInBounds_toArray, List.set_cons_zero, List.set_cons_succ]
        have hb3 := below_step HB2.out hW
        clear hW
        generalize w' = w3 at hb3 ⊢
        have HB3 := Aside0.mk hb3
        clear hb3
        go_wp2_with fail
        have hxW := blk_below HX1.out HB3.out
        have HXW := Aside0.mk hxW
        have HBW := Aside0.mk (below_step HB.out HB3.out)
        clear hxW
        generalize hFA : Act.mk _ _ = FA
        obtain ⟨V, hV⟩ : ∃ V : List (Option Tmp × Value), V = [(some 27, .slice A0 l0.length c0), (some 28, .int .u16 t4), (some 29, .slice A0 l0.length c0), (some 30, .slice A2 D2.length K2), (some 31, .int .u16 t5), (some 32, .agg #[.int .u16 t4, .int .u16 t5]), (some 4, .pointer (some ⟨w3.heap.size, 0, none⟩)), (none, undef)] := ⟨_, rfl⟩
        have hs : slotsOk V := by rw [hV]; simp [slotsOk]
        have hltF : ∀ t, t < 34 → t < FA.tmps.size := fun t h => by rw [← hFA]; exact h
        have v0 : V[0]? = some (some 27, .slice A0 l0.length c0) := by rw [hV]; rfl
        have v1 : V[1]? = some (some 28, .int .u16 t4) := by rw [hV]; rfl
        have v2 : V[2]? = some (some 29, .slice A0 l0.length c0) := by rw [hV]; rfl
        have v3 : V[3]? = some (some 30, .slice A2 D2.length K2) := by rw [hV]; rfl
        have v4 : V[4]? = some (some 31, .int .u16 t5) := by rw [hV]; rfl
        have v5 : V[5]? = some (some 32, .agg #[.int .u16 t4, .int .u16 t5]) := by rw [hV]; rfl
        have v6 : V[6]? = some (some 4, .pointer (some ⟨w3.heap.size, 0, none⟩)) := by rw [hV]; rfl
        have v7 : V[7]? = some (none, undef) := by rw [hV]; rfl
        refine region_inv (by kernel_rfl) V (by rw [hV]; rfl) hs (by kernel_rfl) (Bld w3 #[.int .u16 0, .int .u16 0] #[.int .u16 t4, .int .u16 t5] 47 6 7) (fun dn dn' w_ h_ hw_ => hw_.ext (h_ 6 (by simp)) (h_ 7 (by simp))) (Bld.start w3) ?_ ?_
        · intro i_ hi_ dn w' hW hdn hdep
          match i_, hi_ with
          | 0, _ =>
            have e0 := puts_other V 0 dn FA 0 (by rw [hV]; simp)
            rw [show FA.eval (.tmp 0) = .slice A0 l0.length c0 from by rw [← hFA]; rfl] at e0
            refine op_run rfl rfl ?_ ⟨⟨_, _, v0, rfl⟩, hW.same (by decide) (by decide)⟩
            generalize (puts V 0 dn FA).eval = ev at e0 ⊢
            clear hdep v0 v1 v2 v3 v4 v5 v6 v7 hs hltF
            go_simp
            first | done | rfl
          | 1, _ =>
            have hd := hdep _ rfl
            simp [Region.binds] at hd
            have hj0 : dn 0 = true := by first | exact hd | simp [hd]
            have e27 := done0 0 27 hs v0 (hltF _ (by decide)) hj0
            have hf : ∀ f, (puts V 0 dn FA).eval (.func f) = .func (.func f) #[] #[] := fun _ => rfl
            refine op_call rfl rfl (w1 := w') (f := 65) (args := #[.slice A0 l0.length c0]) (v := .int .u16 t4) ?_ ?_
            · generalize (puts V 0 dn FA).eval = ev at e27 hf ⊢
              clear hdep v0 v1 v2 v3 v4 v5 v6 v7 hs hltF
              go_simp
              first | done | rfl
            · refine (dgram_word.calls A0 c0 l0 t4 _ (Kd.C_below HR1.out (below_step HB3.out hW.below)) HC0.out E4.out).mono ?_
              rintro e_ w_ ⟨rfl, ⟨nd, rfl⟩⟩
              exact ⟨rfl, ⟨_, _, v1, rfl⟩, hW.quiet (by decide) (by decide)⟩
          | 2, _ =>
            have e0 := puts_other V 0 dn FA 0 (by rw [hV]; simp)
            rw [show FA.eval (.tmp 0) = .slice A0 l0.length c0 from by rw [← hFA]; rfl] at e0
            refine op_run rfl rfl ?_ ⟨⟨_, _, v2, rfl⟩, hW.same (by decide) (by decide)⟩
            generalize (puts V 0 dn FA).eval = ev at e0 ⊢
            clear hdep v0 v1 v2 v3 v4 v5 v6 v7 hs hltF
            go_simp
            first | done | rfl
          | 3, _ =>
            have hd := hdep _ rfl
            simp [Region.binds] at hd
            have hj2 : dn 2 = true := by first | exact hd | simp [hd]
            have e29 := done0 2 29 hs v2 (hltF _ (by decide)) hj2
            have hc : ∀ c, (puts V 0 dn FA).eval (.const c) = c := fun _ => rfl
            refine op_run rfl rfl ?_ ⟨⟨_, _, v3, rfl⟩, hW.same (by decide) (by decide)⟩
            generalize (puts V 0 dn FA).eval = ev at e29 hc ⊢
            clear hdep v0 v1 v2 v3 v4 v5 v6 v7 hs hltF
            go_simp
            first | done | rfl
          | 4, _ =>
            have hd := hdep _ rfl
            simp [Region.binds] at hd
            have hj3 : dn 3 = true := by first | exact hd | simp [hd]
            have e30 := done0 3 30 hs v3 (hltF _ (by decide)) hj3
            have hf : ∀ f, (puts V 0 dn FA).eval (.func f) = .func (.func f) #[] #[] := fun _ => rfl
            refine op_call rfl rfl (w1 := w') (f := 65) (args := #[.slice A2 D2.length K2]) (v := .int .u16 t5) ?_ ?_
            · generalize (puts V 0 dn FA).eval = ev at e30 hf ⊢
              clear hdep v0 v1 v2 v3 v4 v5 v6 v7 hs hltF
              go_simp
              first | done | rfl
            · refine (dgram_word.calls A2 K2 D2 t5 _ (Kd.C_below C2.out (below_step HB3.out hW.below)) CAP2.out (by rw [HD2.out]; exact E5.out)).mono ?_
              rintro e_ w_ ⟨rfl, ⟨nd, rfl⟩⟩
              exact ⟨rfl, ⟨_, _, v4, rfl⟩, hW.quiet (by decide) (by decide)⟩
          | 5, _ =>
            have hd := hdep _ rfl
            simp [Region.binds] at hd
            have hj1 : dn 1 = true := by first | exact hd | simp [hd]
            have e28 := done0 1 28 hs v1 (hltF _ (by decide)) hj1
            have hj4 : dn 4 = true := by first | exact hd | simp [hd]
            have e31 := done0 4 31 hs v4 (hltF _ (by decide)) hj4
            refine op_run rfl rfl ?_ ⟨⟨_, _, v5, rfl⟩, hW.same (by decide) (by decide)⟩
            generalize (puts V 0 dn FA).eval = ev at e28 e31 ⊢
            clear hdep v0 v1 v2 v3 v4 v5 v6 v7 hs hltF
            go_simp
            first | done | rfl
          | 6, _ =>
            have hz := hW.size hdn
            refine op_run (w' := w'.alloc (.cells #[.int .u16 0, .int .u16 0] 47)) rfl rfl ?_ ⟨⟨_, _, v6, rfl⟩, hW.alloc hdn (by decide)⟩
            generalize (puts V 0 dn FA).eval = ev
            clear hdep v0 v1 v2 v3 v4 v5 v6 v7 hs hltF
            go_simp
            first | done | rfl | (simp only [hz]; done) | (rw [hz])
          | 7, _ =>
            have hd := hdep _ rfl
            simp [Region.binds] at hd
            have hj6 : dn 6 = true := by first | exact hd | simp [hd]
            have e4 := done0 6 4 hs v6 (hltF _ (by decide)) hj6
            have hj5 : dn 5 = true := by first | exact hd | simp [hd]
            have e32 := done0 5 32 hs v5 (hltF _ (by decide)) hj5
            have hz := hW.zero hj6 hdn
            have hk0 := blk_cell hz 0
            have hf0 := blk_frozen hz 0
            have hk1 := blk_cell hz 1
            have hf1 := blk_frozen hz 1
            have HW := Aside0.mk hW
            have HZ := Aside0.mk hz
            clear hz
            have hlay : lay #[.int .u16 0, .int .u16 0] 0 [.int .u16 t4, .int .u16 t5] = #[.int .u16 t4, .int .u16 t5] := by simp only [lay, List.setIfInBounds_toArray, List.set_cons_zero, List.set_cons_succ, Nat.reduceAdd]
            refine op_skip (w' := w'.setCells w3.heap.size 0 [.int .u16 t4, .int .u16 t5]) rfl rfl ?_ ⟨⟨_, _, v7, rfl⟩, hW.store hj6 (by decide) (setCells_grown _ _ _) (setCells_blk' hlay HZ.out)⟩
            clear hlay
            generalize (puts V 0 dn FA).eval = ev at e4 e32 ⊢
            clear hdep v0 v1 v2 v3 v4 v5 v6 v7 hs hltF hW
            go_simp
            first | done | rfl
          | n_ + 8, hi_ => exact absurd hi_ (by simp)
        clear hs hltF v0 v1 v2 v3 v4 v5 v6 v7
        intro w' hW
        rw [hV]
        simp only [putAll', Act.put, ← hFA, List.setIfInBounds_toArray, List.set_cons_zero, List.set_cons_succ]
        have hr := hW.row
        have hx := blk_below HXW.out hW.below
        have hbw := below_step HBW.out hW.below
        have hlw : w.heap.size < w3.heap.size := blk_lt HXW.out
        generalize w3.heap.size = g at hr hlw ⊢
        have k0 := blk_cell hr 0
        have k1 := blk_cell hr 1
        have m0 := blk_cell hx 0
        have m1 := blk_cell hx 1
        have f0 := blk_frozen hx 0
        have f1 := blk_frozen hx 1
        have HX := Aside0.mk hx
        have HBX := Aside0.mk hbw
        clear hr hx hbw hW hlw
        go_wp2
        have hlay : lay #[.int .u16 0, .int .u16 0] 0 [.int .u16 t4, .int .u16 t5] = #[.int .u16 t4, .int .u16 t5] := by simp only [lay, List.setIfInBounds_toArray, List.set_cons_zero, List.set_cons_succ, Nat.reduceAdd]
        refine bodyPost_ret (results_ct rfl _ _ w.heap.size 47 #[.int .u16 t4, .int .u16 t5] (0, 0) _ rfl (setCells_blk' (vs := [.int .u16 t4, .int .u16 t5]) (o := 0) hlay HX.out) hu rfl (by kernel_rfl)) rfl ?_
        exact ⟨rfl, below_setCells [.int .u16 t4, .int .u16 t5] 0 HBX.out (Nat.le_refl _)⟩
      · rw [if_neg h8] at h
        simp only [Option.some.injEq, Prod.mk.injEq] at h
        obtain ⟨rfl, rfl, rfl⟩ := h
        have g8 : (t2 == t3) = false := beq_eq_false_iff_ne.mpr h8
        have g8' : (t2 != t3) = true := bne_iff_ne.mpr h8
        clear h8
        go_enter Try.func39, Try.ntmps39
        go_wp2_with fail
        generalize w.alloc (.cells #[.int .u16 0, .int .u16 0] 47) = w1 at HB HX1 HR1 C2 C4 C6 C8 TC ⊢
        refine (dgram_word.calls A4 K4 D4 t1 _ C4.out CAP4.out (by rw [HD4.out]; exact E1.out)).mono ?_
        rintro e_ w_ ⟨rfl, ⟨nd, rfl⟩⟩
        have hb2 := pw_below_drewN (Below.refl w1.heap.size w1) nd
        generalize w1.drewN nd = w2 at hb2 ⊢
        have HB2 := Aside0.mk hb2
        clear hb2
        go_wp2_with fail
        generalize hFA : Act.mk _ _ = FA
        obtain ⟨V, hV⟩ : ∃ V : List (Option Tmp × Value), V = [(some 17, .slice A0 l0.length c0), (some 18, .slice A6 D6.length K6), (some 19, .int .u16 t2), (some 20, .slice A0 l0.length c0), (some 21, .slice A0 T6.length c0), (some 22, .slice A0 l0.length c0), (some 23, .slice A8 D8.length K8), (some 24, .int .u16 t3), (some 25, .bool (t2 != t3))] := ⟨_, rfl⟩
        have hs : slotsOk V := by rw [hV]; simp [slotsOk]
        have hltF : ∀ t, t < 34 → t < FA.tmps.size := fun t h => by rw [← hFA]; exact h
        have v0 : V[0]? = some (some 17, .slice A0 l0.length c0) := by rw [hV]; rfl
        have v1 : V[1]? = some (some 18, .slice A6 D6.length K6) := by rw [hV]; rfl
        have v2 : V[2]? = some (some 19, .int .u16 t2) := by rw [hV]; rfl
        have v3 : V[3]? = some (some 20, .slice A0 l0.length c0) := by rw [hV]; rfl
        have v4 : V[4]? = some (some 21, .slice A0 T6.length c0) := by rw [hV]; rfl
        have v5 : V[5]? = some (some 22, .slice A0 l0.length c0) := by rw [hV]; rfl
        have v6 : V[6]? = some (some 23, .slice A8 D8.length K8) := by rw [hV]; rfl
        have v7 : V[7]? = some (some 24, .int .u16 t3) := by rw [hV]; rfl
        have v8 : V[8]? = some (some 25, .bool (t2 != t3)) := by rw [hV]; rfl
        refine region_inv (by kernel_rfl) V (by rw [hV]; rfl) hs (by kernel_rfl) (fun _ w_ => Below w2.heap.size w2 w_) (fun dn dn' w_ h_ hw_ => hw_) (below_drew (Below.refl _ _)) ?_ ?_
        · intro i_ hi_ dn w' hW hdn hdep
          match i_, hi_ with
          | 0, _ =>
            have e0 := puts_other V 0 dn FA 0 (by rw [hV]; simp)
            rw [show FA.eval (.tmp 0) = .slice A0 l0.length c0 from by rw [← hFA]; rfl] at e0
            refine op_run rfl rfl ?_ ⟨⟨_, _, v0, rfl⟩, hW⟩
            generalize (puts V 0 dn FA).eval = ev at e0 ⊢
            clear hdep v0 v1 v2 v3 v4 v5 v6 v7 v8 hs hltF
            go_simp
            first | done | rfl
          | 1, _ =>
            have hd := hdep _ rfl
            simp [Region.binds] at hd
            have hj0 : dn 0 = true := by first | exact hd | simp [hd]
            have e17 := done0 0 17 hs v0 (hltF _ (by decide)) hj0
            have hc : ∀ c, (puts V 0 dn FA).eval (.const c) = c := fun _ => rfl
            refine op_run rfl rfl ?_ ⟨⟨_, _, v1, rfl⟩, hW⟩
            generalize (puts V 0 dn FA).eval = ev at e17 hc ⊢
            clear hdep v0 v1 v2 v3 v4 v5 v6 v7 v8 hs hltF
            go_simp
            first | done | rfl
          | 2, _ =>
            have hd := hdep _ rfl
            simp [Region.binds] at hd
            have hj1 : dn 1 = true := by first | exact hd | simp [hd]
            have e18 := done0 1 18 hs v1 (hltF _ (by decide)) hj1
            have hf : ∀ f, (puts V 0 dn FA).eval (.func f) = .func (.func f) #[] #[] := fun _ => rfl
            refine op_call rfl rfl (w1 := w') (f := 65) (args := #[.slice A6 D6.length K6]) (v := .int .u16 t2) ?_ ?_
            · generalize (puts V 0 dn FA).eval = ev at e18 hf ⊢
              clear hdep v0 v1 v2 v3 v4 v5 v6 v7 v8 hs hltF
              go_simp
              first | done | rfl
            · refine (dgram_word.calls A6 K6 D6 t2 _ (Kd.C_below C6.out (below_step HB2.out hW)) CAP6.out (by rw [HD6.out]; exact E2.out)).mono ?_
              rintro e_ w_ ⟨rfl, ⟨nd, rfl⟩⟩
              exact ⟨rfl, ⟨_, _, v2, rfl⟩, pw_below_drewN hW nd⟩
          | 3, _ =>
            have e0 := puts_other V 0 dn FA 0 (by rw [hV]; simp)
            rw [show FA.eval (.tmp 0) = .slice A0 l0.length c0 from by rw [← hFA]; rfl] at e0
            refine op_run rfl rfl ?_ ⟨⟨_, _, v3, rfl⟩, hW⟩
            generalize (puts V 0 dn FA).eval = ev at e0 ⊢
            clear hdep v0 v1 v2 v3 v4 v5 v6 v7 v8 hs hltF
            go_simp
            first | done | rfl
          | 4, _ =>
            have hd := hdep _ rfl
            simp [Region.binds] at hd
            have hj3 : dn 3 = true := by first | exact hd | simp [hd]
            have e20 := done0 3 20 hs v3 (hltF _ (by decide)) hj3
            have hc : ∀ c, (puts V 0 dn FA).eval (.const c) = c := fun _ => rfl
            refine op_run rfl rfl ?_ ⟨⟨_, _, v4, rfl⟩, hW⟩
            generalize (puts V 0 dn FA).eval = ev at e20 hc ⊢
            clear hdep v0 v1 v2 v3 v4 v5 v6 v7 v8 hs hltF
            go_simp
            first | done | rfl
          | 5, _ =>
            have e0 := puts_other V 0 dn FA 0 (by rw [hV]; simp)
            rw [show FA.eval (.tmp 0) = .slice A0 l0.length c0 from by rw [← hFA]; rfl] at e0
            refine op_run rfl rfl ?_ ⟨⟨_, _, v5, rfl⟩, hW⟩
            generalize (puts V 0 dn FA).eval = ev at e0 ⊢
            clear hdep v0 v1 v2 v3 v4 v5 v6 v7 v8 hs hltF
            go_simp
            first | done | rfl
          | 6, _ =>
            have hd := hdep _ rfl
            simp [Region.binds] at hd
            have hj5 : dn 5 = true := by first | exact hd | simp [hd]
            have e22 := done0 5 22 hs v5 (hltF _ (by decide)) hj5
            have hc : ∀ c, (puts V 0 dn FA).eval (.const c) = c := fun _ => rfl
            refine op_run rfl rfl ?_ ⟨⟨_, _, v6, rfl⟩, hW⟩
            generalize (puts V 0 dn FA).eval = ev at e22 hc ⊢
            clear hdep v0 v1 v2 v3 v4 v5 v6 v7 v8 hs hltF
            go_simp
            first | done | rfl
          | 7, _ =>
            have hd := hdep _ rfl
            simp [Region.binds] at hd
            have hj4 : dn 4 = true := by first | exact hd | simp [hd]
            have e21 := done0 4 21 hs v4 (hltF _ (by decide)) hj4
            have hj6 : dn 6 = true := by first | exact hd | simp [hd]
            have e23 := done0 6 23 hs v6 (hltF _ (by decide)) hj6
            have hf : ∀ f, (puts V 0 dn FA).eval (.func f) = .func (.func f) #[] #[] := fun _ => rfl
            refine op_call rfl rfl (w1 := w') (f := 61) (args := #[.slice A0 T6.length c0, .slice A8 D8.length K8]) (v := .int .u16 t3) ?_ ?_
            · generalize (puts V 0 dn FA).eval = ev at e21 e23 hf ⊢
              clear hdep v0 v1 v2 v3 v4 v5 v6 v7 v8 hs hltF
              go_simp
              first | done | rfl
            · refine (dgram_field.calls k A0 c0 T6 A8 K8 D8 t3 _ (Kd.C_below TC.out (below_step HB2.out hW)) TCAP.out (Kd.C_below C8.out (below_step HB2.out hW)) CAP8.out (by rw [HT6.out, HD8.out]; exact E3.out)).mono ?_
              rintro e_ w_ ⟨rfl, ⟨nd, rfl⟩⟩
              exact ⟨rfl, ⟨_, _, v7, rfl⟩, pw_below_drewN hW nd⟩
          | 8, _ =>
            have hd := hdep _ rfl
            simp [Region.binds] at hd
            have hj2 : dn 2 = true := by first | exact hd | simp [hd]
            have e19 := done0 2 19 hs v2 (hltF _ (by decide)) hj2
            have hj7 : dn 7 = true := by first | exact hd | simp [hd]
            have e24 := done0 7 24 hs v7 (hltF _ (by decide)) hj7
            refine op_run rfl rfl ?_ ⟨⟨_, _, v8, rfl⟩, hW⟩
            generalize (puts V 0 dn FA).eval = ev at e19 e24 ⊢
            clear hdep v0 v1 v2 v3 v4 v5 v6 v7 v8 hs hltF
            go_simp
            first | done | rfl
          | n_ + 9, hi_ => exact absurd hi_ (by simp)
        clear hs hltF v0 v1 v2 v3 v4 v5 v6 v7 v8
        intro w' hW
        rw [hV]
        simp only [putAll', Act.put, ← hFA, List.setIfInBounds_toArray, List.set_cons_zero, List.set_cons_succ]
        have hb3 := below_step HB2.out hW
        clear hW
        generalize w' = w3 at hb3 ⊢
        have hx := blk_below HX1.out hb3
        have m0 := blk_cell hx 0
        have m1 := blk_cell hx 1
        have f0 := blk_frozen hx 0
        have f1 := blk_frozen hx 1
        have HX := Aside0.mk hx
        have HBW := Aside0.mk (below_step HB.out hb3)
        clear hx hb3
        go_wp2
        have hlay : lay #[.int .u16 0, .int .u16 0] 0 [.int .u16 0, .int .u16 0] = #[.int .u16 0, .int .u16 0] := by simp only [lay, List.setIfInBounds_toArray, List.set_cons_zero, List.set_cons_succ, Nat.reduceAdd]
        first
          | exact bodyPost_ret (results_ct rfl _ _ w.heap.size 47 #[.int .u16 0, .int .u16 0] (0, 0) _ rfl (setCells_blk' (vs := [.int .u16 0, .int .u16 0]) (o := 0) hlay HX.out) hu rfl (by kernel_rfl)) rfl ⟨rfl, below_setCells [.int .u16 0, .int .u16 0] 0 HBW.out (Nat.le_refl _)⟩
          | exact bodyPost_ret (results_ct rfl _ _ w.heap.size 47 #[.int .u16 0, .int .u16 0] (0, 0) _ rfl HX.out hu rfl (by kernel_rfl)) rfl ⟨rfl, HBW.out⟩
          | (trace_state; sorry)
    · rw [if_neg h7] at h
      simp only [Option.some.injEq, Prod.mk.injEq] at h
      obtain ⟨rfl, rfl, rfl⟩ := h
      have g7 : (wrap64 t1 == (l0.length : Int)) = false := beq_eq_false_iff_ne.mpr h7
      have g7' : (wrap64 t1 != (l0.length : Int)) = true := bne_iff_ne.mpr h7
      clear h7
      go_enter Try.func39, Try.ntmps39
      go_wp2_with fail
      generalize w.alloc (.cells #[.int .u16 0, .int .u16 0] 47) = w1 at HB HX1 HR1 C2 C4 C6 C8 TC ⊢
      refine (dgram_word.calls A4 K4 D4 t1 _ C4.out CAP4.out (by rw [HD4.out]; exact E1.out)).mono ?_
      rintro e_ w_ ⟨rfl, ⟨nd, rfl⟩⟩
      have hb2 := pw_below_drewN (Below.refl w1.heap.size w1) nd
      generalize w1.drewN nd = w2 at hb2 ⊢
      have hx := blk_below HX1.out hb2
      have m0 := blk_cell hx 0
      have m1 := blk_cell hx 1
      have f0 := blk_frozen hx 0
      have f1 := blk_frozen hx 1
      have HX := Aside0.mk hx
      have HBW := Aside0.mk (below_step HB.out hb2)
      clear hx hb2
      go_wp2
      have hlay : lay #[.int .u16 0, .int .u16 0] 0 [.int .u16 0, .int .u16 0] = #[.int .u16 0, .int .u16 0] := by simp only [lay, List.setIfInBounds_toArray, List.set_cons_zero, List.set_cons_succ, Nat.reduceAdd]
      first
        | exact bodyPost_ret (results_ct rfl _ _ w.heap.size 47 #[.int .u16 0, .int .u16 0] (0, 0) _ rfl (setCells_blk' (vs := [.int .u16 0, .int .u16 0]) (o := 0) hlay HX.out) hu rfl (by kernel_rfl)) rfl ⟨rfl, below_setCells [.int .u16 0, .int .u16 0] 0 HBW.out (Nat.le_refl _)⟩
        | exact bodyPost_ret (results_ct rfl _ _ w.heap.size 47 #[.int .u16 0, .int .u16 0] (0, 0) _ rfl HX.out hu rfl (by kernel_rfl)) rfl ⟨rfl, HBW.out⟩
        | (trace_state; sorry)

end Go.Proofs.Ytipdajgcepefgaa.P
