/- Sx: texts of this claim put together: PeK, TPsA, TPsB, PsK, PsL, Lm. Conditions: none. -/
import Derived.Test.YtfhjlimdakphcaaGreatP6
import Derived.Test.YtfhjlimdakphcaaGreatProg
import Derived.KernelRfl
import Derived.ChangeArms
import Derived.OpenShut
import Derived.DataReads
set_option linter.unusedVariables false
set_option linter.unusedSimpArgs false
namespace Go.Proofs.YtfhjlimdakphcaaGreat.Sx
open Go
theorem next_ok {Φ : Sig} (hΦ : PeSig Φ) : TmplOk Go.Proofs.Tryz.prog Φ 26 tNext := by
  refine tmpl_of noCons treePeNext_is (fun ρ res hres => ⟨eqJ, ?_⟩)
  obtain ⟨_, hres⟩ := chk_some hres
  obtain rfl := ret_some hres
  have hN := next_vars Φ ρ
  refine ⟨fun c1 => ?_, fun c1 => ?_⟩
  · refine ⟨fun c2 => ?_, fun c2 => ?_⟩
    · simp at c1 c2
      refine leaf_next hΦ (z := 2) ?_ rfl (by decide)
      rw [hN]
      simp only [byT, byP]
      repeat' split
      all_goals first | rfl | omega
    · refine ⟨fun c3 => ?_, fun c3 => ?_⟩
      · simp at c1 c2 c3
        refine leaf_next hΦ (z := 3) ?_ rfl (by decide)
        rw [hN]
        simp only [byT, byP]
        repeat' split
        all_goals first | rfl | omega
      · refine ⟨fun c4 => ?_, fun c4 => ?_⟩
        · simp at c1 c2 c3 c4
          refine leaf_next hΦ (z := 4) ?_ rfl (by decide)
          rw [hN]
          simp only [byT, byP]
          repeat' split
          all_goals first | rfl | omega
        · simp at c1 c2 c3 c4
          refine leaf_next hΦ (z := 0) ?_ rfl (by decide)
          rw [hN]
          simp only [byT, byP]
          repeat' split
          all_goals first | rfl | omega
  · refine ⟨fun c5 => ?_, fun c5 => ?_⟩
    · refine ⟨fun c6 => ?_, fun c6 => ?_⟩
      · simp at c1 c5 c6
        refine leaf_next hΦ (z := 2) ?_ rfl (by decide)
        rw [hN]
        simp only [byT, byP]
        repeat' split
        all_goals first | rfl | omega
      · refine ⟨fun c7 => ?_, fun c7 => ?_⟩
        · simp at c1 c5 c6 c7
          refine leaf_next hΦ (z := 3) ?_ rfl (by decide)
          rw [hN]
          simp only [byT, byP]
          repeat' split
          all_goals first | rfl | omega
        · refine ⟨fun c8 => ?_, fun c8 => ?_⟩
          · simp at c1 c5 c6 c7 c8
            refine leaf_next hΦ (z := 4) ?_ rfl (by decide)
            rw [hN]
            simp only [byT, byP]
            repeat' split
            all_goals first | rfl | omega
          · simp at c1 c5 c6 c7 c8
            refine leaf_next hΦ (z := 0) ?_ rfl (by decide)
            rw [hN]
            simp only [byT, byP]
            repeat' split
            all_goals first | rfl | omega
    · refine ⟨fun c9 => ?_, fun c9 => ?_⟩
      · refine ⟨fun c10 => ?_, fun c10 => ?_⟩
        · simp at c1 c5 c9 c10
          refine leaf_next hΦ (z := 5) ?_ rfl (by decide)
          rw [hN]
          simp only [byT, byP]
          repeat' split
          all_goals first | rfl | omega
        · refine ⟨fun c11 => ?_, fun c11 => ?_⟩
          · simp at c1 c5 c9 c10 c11
            refine leaf_next hΦ (z := 6) ?_ rfl (by decide)
            rw [hN]
            simp only [byT, byP]
            repeat' split
            all_goals first | rfl | omega
          · simp at c1 c5 c9 c10 c11
            refine leaf_next hΦ (z := 0) ?_ rfl (by decide)
            rw [hN]
            simp only [byT, byP]
            repeat' split
            all_goals first | rfl | omega
      · refine ⟨fun c12 => ?_, fun c12 => ?_⟩
        · refine ⟨fun c13 => ?_, fun c13 => ?_⟩
          · simp at c1 c5 c9 c12 c13
            refine leaf_next hΦ (z := 5) ?_ rfl (by decide)
            rw [hN]
            simp only [byT, byP]
            repeat' split
            all_goals first | rfl | omega
          · refine ⟨fun c14 => ?_, fun c14 => ?_⟩
            · simp at c1 c5 c9 c12 c13 c14
              refine leaf_next hΦ (z := 6) ?_ rfl (by decide)
              rw [hN]
              simp only [byT, byP]
              repeat' split
              all_goals first | rfl | omega
            · simp at c1 c5 c9 c12 c13 c14
              refine leaf_next hΦ (z := 0) ?_ rfl (by decide)
              rw [hN]
              simp only [byT, byP]
              repeat' split
              all_goals first | rfl | omega
        · simp at c1 c5 c9 c12
          refine leaf_next hΦ (z := 0) ?_ rfl (by decide)
          rw [hN]
          simp only [byT, byP]
          repeat' split
          all_goals first | rfl | omega
theorem consPe_ok {Φ : Sig} (hΦ : PeSig Φ) : ConsOk Go.Proofs.Tryz.prog Φ consPe := moreCons (con_ok clone_ok) (moreCons (con_ok (next_ok hΦ)) (consRd_ok hΦ.toHdSig))
set_option maxRecDepth 100000 in
theorem peel_ok {Φ : Sig} (hΦ : PeSig Φ) : TmplOk Go.Proofs.Tryz.prog Φ 27 (tPeel 3 5) := by
  refine tmpl_of (consPe_ok hΦ) treePePeel_is (fun ρ res hres => ⟨peJ, ?_⟩)
  obtain ⟨h0, hres⟩ := short_some hres
  obtain ⟨hb, hres⟩ := bytes_some hres
  have hr := pe_res hΦ hres
  refine ⟨⟨0, 1, 0, rfl, rfl, rfl, by show (T.den Φ ρ (.c1 .len (.var 0))).int = _; simp, pe_start⟩, ?_⟩
  rintro ds hlen ⟨c, k, a, i0, i1, i3, i4, hst⟩
  have e0 : upd ρ 1 ds 0 = ρ 0 := upd_lo ds (by decide)
  have e1 : upd ρ 1 ds 1 = nthD ds 0 := upd_at (i := 0) (by omega)
  have e2 : upd ρ 1 ds 2 = nthD ds 1 := upd_at (i := 1) (by omega)
  have e3 : upd ρ 1 ds 3 = nthD ds 2 := upd_at (i := 2) (by omega)
  have e4 : upd ρ 1 ds 4 = nthD ds 3 := upd_at (i := 3) (by omega)
  have e5 : upd ρ 1 ds 5 = nthD ds 4 := upd_at (i := 4) (by omega)
  have e6 : upd ρ 1 ds 6 = nthD ds 5 := upd_at (i := 5) (by omega)
  generalize upd ρ 1 ds = ρ' at *
  have v1 : (ρ' 1).int = c := by rw [e1]; exact i0
  have v2 : (ρ' 2).int = k := by rw [e2]; exact i1
  have v4 : (ρ' 4).int = a := by rw [e4]; exact i3
  have v5 : (ρ' 5).int = (ρ 0).list.length - a := by rw [e5]; exact i4
  rw [← e6, ← e3] at hst
  have st := hst
  obtain ⟨s1, s2, s3, s4, s5, s6, s7⟩ := hst
  have hD : (T.den Φ ρ' (.c2 .drop (.var 4) (.var 0))).list = (ρ 0).list.drop a := by rw [list_drop, den_var, den_var, v4, e0, Int.toNat_natCast]
  refine ⟨?_, fun m1 => ⟨fun m2 => ?_, fun m2 => ?_⟩, fun m1 => ?_⟩
  · intro t p hm
    simp only [List.mem_cons, Prod.mk.injEq, List.not_mem_nil, or_false] at hm
    rcases hm with ⟨rfl, rfl⟩ | ⟨rfl, rfl⟩ | ⟨rfl, rfl⟩ | ⟨rfl, rfl⟩ | ⟨rfl, rfl⟩ | ⟨rfl, rfl⟩ | ⟨rfl, rfl⟩ | ⟨rfl, rfl⟩ | ⟨rfl, rfl⟩
    · rw [le_t, den_var, v1]; exact Int.natCast_nonneg _
    · rw [le_t, den_var, v1]; show (c : Int) ≤ 8; omega
    · rw [le_t, den_var, v2]; exact Int.natCast_nonneg _
    · rw [le_t, den_var, v2]; show (k : Int) ≤ 6; omega
    · rw [le_t, den_var, v4]; exact Int.natCast_nonneg _
    · rw [le_t, den_var, v5]; show (0 : Int) ≤ _; omega
    · rw [eq_t, int_add, int_len, den_var, den_var, den_var, v4, v5, e0]; omega
    · rw [eq_t, int_len, int_mul, den_var, den_var, v1, s4]; show ((73 * c : Nat) : Int) = c * 73; omega
    · show inKinds _ 0 (ρ' 6).list = true; exact s5
  · rw [eq_t, den_var, v1] at m2
    have hc : c = 8 := by have : (c : Int) = 8 := m2; omega
    exact leaf_pe_err hr (pe_many st m1 hc) rfl (by decide) (by decide)
  · rw [eq_f, den_var, v1] at m2
    have hc : c < 8 := by have : ¬ (c : Int) = 8 := m2; omega
    have hk1 := (s6 m1).1
    refine ⟨fun q => ?_, fun n0 => ?_⟩
    · exfalso; rw [eq_t, den_var, v2] at q; have : (k : Int) = 0 := q; omega
    refine ⟨fun q => ?_, fun n1 => ?_⟩
    · rw [eq_t, den_var, v2] at q
      have hj : k = 1 := by have : (k : Int) = 1 := q; omega
      subst hj
      have hE : (T.den Φ ρ' (.fn 21 (.c2 .drop (.var 4) (.var 0)) .nil .nil)).int = rdErr 1 ((ρ 0).list.drop a) := by rw [den_fn, hΦ.rdErr 1 _ _ _ (by decide) (by decide), hD]; rfl
      have hF : (T.den Φ ρ' (fn1 11 (.c2 .drop (.var 4) (.var 0)))).list = rdRow 1 ((ρ 0).list.drop a) := by show (Φ (10 + 1) (T.den Φ ρ' (.c2 .drop (.var 4) (.var 0))) _ _).list = _; rw [hΦ.rdRow 1 _ _ _ (by decide) (by decide), hD]; rfl
      have hH := den_hdT (k := 1) (x := (.var 2)) ⟨by decide, by decide⟩ v2 hF
      refine ⟨by rw [bytes_t, hD]; exact bytes_drop hb a, fun er => ?_, fun er => ?_⟩
      · rw [not_t, eq_f, hE] at er
        exact leaf_pe_err hr (pe_err st m1 hc er) hE er (by decide)
      · rw [not_f, eq_t, hE] at er
        obtain ⟨hsz, hnx⟩ := pe_step st m1 hc er
        refine ⟨by rw [le_t, den_var, v5]; show (14 : Int) ≤ _; have : 14 + a ≤ (ρ 0).list.length := hsz; omega, ?_⟩
        refine ok_back ⟨⟨c + 1, _, a + 14, ?_, next_toNat hΦ hH, ?_, ?_, pe_same ?_ (next_bool hΦ hH) hnx⟩, ?_⟩
        · show (T.den Φ ρ' (.c2 .add (.var 1) (.num 1))).int = _; rw [int_add, den_var, v1]; rfl
        · show (T.den Φ ρ' (.c2 .add (.var 4) (.num 14))).int = _; rw [int_add, den_var, v4]; rfl
        · show (T.den Φ ρ' (.c2 .sub (.var 5) (.num 14))).int = _; rw [int_sub, den_var, v5]; show _ - (14 : Int) = _; omega
        · exact app_heads v1 s4 hH
        · show 9 - (T.den Φ ρ' (.c2 .add (.var 1) (.num 1))).int.toNat < 9 - (nthD ds 0).int.toNat; rw [int_add, den_var, v1, i0]; show 9 - ((c : Int) + 1).toNat < 9 - (c : Int).toNat; omega
    · refine ⟨fun q => ?_, fun n2 => ?_⟩
      · rw [eq_t, den_var, v2] at q
        have hj : k = 2 := by have : (k : Int) = 2 := q; omega
        subst hj
        have hE : (T.den Φ ρ' (.fn 22 (.c2 .drop (.var 4) (.var 0)) .nil .nil)).int = rdErr 2 ((ρ 0).list.drop a) := by rw [den_fn, hΦ.rdErr 2 _ _ _ (by decide) (by decide), hD]; rfl
        have hF : (T.den Φ ρ' (fn1 12 (.c2 .drop (.var 4) (.var 0)))).list = rdRow 2 ((ρ 0).list.drop a) := by show (Φ (10 + 2) (T.den Φ ρ' (.c2 .drop (.var 4) (.var 0))) _ _).list = _; rw [hΦ.rdRow 2 _ _ _ (by decide) (by decide), hD]; rfl
        have hH := den_hdT (k := 2) (x := (.var 2)) ⟨by decide, by decide⟩ v2 hF
        refine ⟨by rw [bytes_t, hD]; exact bytes_drop hb a, fun er => ?_, fun er => ?_⟩
        · rw [not_t, eq_f, hE] at er
          exact leaf_pe_err hr (pe_err st m1 hc er) hE er (by decide)
        · rw [not_f, eq_t, hE] at er
          obtain ⟨hsz, hnx⟩ := pe_step st m1 hc er
          refine ⟨by rw [le_t, den_var, v5]; show (4 : Int) ≤ _; have : 4 + a ≤ (ρ 0).list.length := hsz; omega, ?_⟩
          refine ok_back ⟨⟨c + 1, _, a + 4, ?_, next_toNat hΦ hH, ?_, ?_, pe_same ?_ (next_bool hΦ hH) hnx⟩, ?_⟩
          · show (T.den Φ ρ' (.c2 .add (.var 1) (.num 1))).int = _; rw [int_add, den_var, v1]; rfl
          · show (T.den Φ ρ' (.c2 .add (.var 4) (.num 4))).int = _; rw [int_add, den_var, v4]; rfl
          · show (T.den Φ ρ' (.c2 .sub (.var 5) (.num 4))).int = _; rw [int_sub, den_var, v5]; show _ - (4 : Int) = _; omega
          · exact app_heads v1 s4 hH
          · show 9 - (T.den Φ ρ' (.c2 .add (.var 1) (.num 1))).int.toNat < 9 - (nthD ds 0).int.toNat; rw [int_add, den_var, v1, i0]; show 9 - ((c : Int) + 1).toNat < 9 - (c : Int).toNat; omega
      · refine ⟨fun q => ?_, fun n3 => ?_⟩
        · rw [eq_t, den_var, v2] at q
          have hj : k = 3 := by have : (k : Int) = 3 := q; omega
          subst hj
          have hE : (T.den Φ ρ' (.fn 23 (.c2 .drop (.var 4) (.var 0)) .nil .nil)).int = rdErr 3 ((ρ 0).list.drop a) := by rw [den_fn, hΦ.rdErr 3 _ _ _ (by decide) (by decide), hD]; rfl
          have hF : (T.den Φ ρ' (fn1 13 (.c2 .drop (.var 4) (.var 0)))).list = rdRow 3 ((ρ 0).list.drop a) := by show (Φ (10 + 3) (T.den Φ ρ' (.c2 .drop (.var 4) (.var 0))) _ _).list = _; rw [hΦ.rdRow 3 _ _ _ (by decide) (by decide), hD]; rfl
          have hH := den_hdT (k := 3) (x := (.var 2)) ⟨by decide, by decide⟩ v2 hF
          refine ⟨by rw [bytes_t, hD]; exact bytes_drop hb a, fun er => ?_, fun er => ?_⟩
          · rw [not_t, eq_f, hE] at er
            exact leaf_pe_err hr (pe_err st m1 hc er) hE er (by decide)
          · rw [not_f, eq_t, hE] at er
            obtain ⟨hsz, hnx⟩ := pe_step st m1 hc er
            refine ⟨by rw [le_t, den_var, v5]; show (20 : Int) ≤ _; have : 20 + a ≤ (ρ 0).list.length := hsz; omega, ?_⟩
            refine ok_back ⟨⟨c + 1, _, a + 20, ?_, next_toNat hΦ hH, ?_, ?_, pe_same ?_ (next_bool hΦ hH) hnx⟩, ?_⟩
            · show (T.den Φ ρ' (.c2 .add (.var 1) (.num 1))).int = _; rw [int_add, den_var, v1]; rfl
            · show (T.den Φ ρ' (.c2 .add (.var 4) (.num 20))).int = _; rw [int_add, den_var, v4]; rfl
            · show (T.den Φ ρ' (.c2 .sub (.var 5) (.num 20))).int = _; rw [int_sub, den_var, v5]; show _ - (20 : Int) = _; omega
            · exact app_heads v1 s4 hH
            · show 9 - (T.den Φ ρ' (.c2 .add (.var 1) (.num 1))).int.toNat < 9 - (nthD ds 0).int.toNat; rw [int_add, den_var, v1, i0]; show 9 - ((c : Int) + 1).toNat < 9 - (c : Int).toNat; omega
        · refine ⟨fun q => ?_, fun n4 => ?_⟩
          · rw [eq_t, den_var, v2] at q
            have hj : k = 4 := by have : (k : Int) = 4 := q; omega
            subst hj
            have hE : (T.den Φ ρ' (.fn 24 (.c2 .drop (.var 4) (.var 0)) .nil .nil)).int = rdErr 4 ((ρ 0).list.drop a) := by rw [den_fn, hΦ.rdErr 4 _ _ _ (by decide) (by decide), hD]; rfl
            have hF : (T.den Φ ρ' (fn1 14 (.c2 .drop (.var 4) (.var 0)))).list = rdRow 4 ((ρ 0).list.drop a) := by show (Φ (10 + 4) (T.den Φ ρ' (.c2 .drop (.var 4) (.var 0))) _ _).list = _; rw [hΦ.rdRow 4 _ _ _ (by decide) (by decide), hD]; rfl
            have hH := den_hdT (k := 4) (x := (.var 2)) ⟨by decide, by decide⟩ v2 hF
            refine ⟨by rw [bytes_t, hD]; exact bytes_drop hb a, fun er => ?_, fun er => ?_⟩
            · rw [not_t, eq_f, hE] at er
              exact leaf_pe_err hr (pe_err st m1 hc er) hE er (by decide)
            · rw [not_f, eq_t, hE] at er
              obtain ⟨hsz, hnx⟩ := pe_step st m1 hc er
              refine ⟨by rw [le_t, den_var, v5]; show (40 : Int) ≤ _; have : 40 + a ≤ (ρ 0).list.length := hsz; omega, ?_⟩
              refine ok_back ⟨⟨c + 1, _, a + 40, ?_, next_toNat hΦ hH, ?_, ?_, pe_same ?_ (next_bool hΦ hH) hnx⟩, ?_⟩
              · show (T.den Φ ρ' (.c2 .add (.var 1) (.num 1))).int = _; rw [int_add, den_var, v1]; rfl
              · show (T.den Φ ρ' (.c2 .add (.var 4) (.num 40))).int = _; rw [int_add, den_var, v4]; rfl
              · show (T.den Φ ρ' (.c2 .sub (.var 5) (.num 40))).int = _; rw [int_sub, den_var, v5]; show _ - (40 : Int) = _; omega
              · exact app_heads v1 s4 hH
              · show 9 - (T.den Φ ρ' (.c2 .add (.var 1) (.num 1))).int.toNat < 9 - (nthD ds 0).int.toNat; rw [int_add, den_var, v1, i0]; show 9 - ((c : Int) + 1).toNat < 9 - (c : Int).toNat; omega
          · refine ⟨fun q => ?_, fun n5 => ?_⟩
            · rw [eq_t, den_var, v2] at q
              have hj : k = 5 := by have : (k : Int) = 5 := q; omega
              subst hj
              have hE : (T.den Φ ρ' (.fn 25 (.c2 .drop (.var 4) (.var 0)) .nil .nil)).int = rdErr 5 ((ρ 0).list.drop a) := by rw [den_fn, hΦ.rdErr 5 _ _ _ (by decide) (by decide), hD]; rfl
              have hF : (T.den Φ ρ' (fn1 15 (.c2 .drop (.var 4) (.var 0)))).list = rdRow 5 ((ρ 0).list.drop a) := by show (Φ (10 + 5) (T.den Φ ρ' (.c2 .drop (.var 4) (.var 0))) _ _).list = _; rw [hΦ.rdRow 5 _ _ _ (by decide) (by decide), hD]; rfl
              have hH := den_hdT (k := 5) (x := (.var 2)) ⟨by decide, by decide⟩ v2 hF
              refine ⟨by rw [bytes_t, hD]; exact bytes_drop hb a, fun er => ?_, fun er => ?_⟩
              · rw [not_t, eq_f, hE] at er
                exact leaf_pe_err hr (pe_err st m1 hc er) hE er (by decide)
              · rw [not_f, eq_t, hE] at er
                obtain ⟨hsz, hnx⟩ := pe_step st m1 hc er
                refine ⟨by rw [le_t, den_var, v5]; show (20 : Int) ≤ _; have : 20 + a ≤ (ρ 0).list.length := hsz; omega, ?_⟩
                refine ok_back ⟨⟨c + 1, _, a + 20, ?_, next_toNat hΦ hH, ?_, ?_, pe_same ?_ (next_bool hΦ hH) hnx⟩, ?_⟩
                · show (T.den Φ ρ' (.c2 .add (.var 1) (.num 1))).int = _; rw [int_add, den_var, v1]; rfl
                · show (T.den Φ ρ' (.c2 .add (.var 4) (.num 20))).int = _; rw [int_add, den_var, v4]; rfl
                · show (T.den Φ ρ' (.c2 .sub (.var 5) (.num 20))).int = _; rw [int_sub, den_var, v5]; show _ - (20 : Int) = _; omega
                · exact app_heads v1 s4 hH
                · show 9 - (T.den Φ ρ' (.c2 .add (.var 1) (.num 1))).int.toNat < 9 - (nthD ds 0).int.toNat; rw [int_add, den_var, v1, i0]; show 9 - ((c : Int) + 1).toNat < 9 - (c : Int).toNat; omega
            · refine ⟨fun q => ?_, fun n6 => ?_⟩
              · rw [eq_t, den_var, v2] at q
                have hj : k = 6 := by have : (k : Int) = 6 := q; omega
                subst hj
                have hE : (T.den Φ ρ' (.fn 26 (.c2 .drop (.var 4) (.var 0)) .nil .nil)).int = rdErr 6 ((ρ 0).list.drop a) := by rw [den_fn, hΦ.rdErr 6 _ _ _ (by decide) (by decide), hD]; rfl
                have hF : (T.den Φ ρ' (fn1 16 (.c2 .drop (.var 4) (.var 0)))).list = rdRow 6 ((ρ 0).list.drop a) := by show (Φ (10 + 6) (T.den Φ ρ' (.c2 .drop (.var 4) (.var 0))) _ _).list = _; rw [hΦ.rdRow 6 _ _ _ (by decide) (by decide), hD]; rfl
                have hH := den_hdT (k := 6) (x := (.var 2)) ⟨by decide, by decide⟩ v2 hF
                refine ⟨by rw [bytes_t, hD]; exact bytes_drop hb a, fun er => ?_, fun er => ?_⟩
                · rw [not_t, eq_f, hE] at er
                  exact leaf_pe_err hr (pe_err st m1 hc er) hE er (by decide)
                · rw [not_f, eq_t, hE] at er
                  obtain ⟨hsz, hnx⟩ := pe_step st m1 hc er
                  refine ⟨by rw [le_t, den_var, v5]; show (8 : Int) ≤ _; have : 8 + a ≤ (ρ 0).list.length := hsz; omega, ?_⟩
                  refine ok_back ⟨⟨c + 1, _, a + 8, ?_, next_toNat hΦ hH, ?_, ?_, pe_same ?_ (next_bool hΦ hH) hnx⟩, ?_⟩
                  · show (T.den Φ ρ' (.c2 .add (.var 1) (.num 1))).int = _; rw [int_add, den_var, v1]; rfl
                  · show (T.den Φ ρ' (.c2 .add (.var 4) (.num 8))).int = _; rw [int_add, den_var, v4]; rfl
                  · show (T.den Φ ρ' (.c2 .sub (.var 5) (.num 8))).int = _; rw [int_sub, den_var, v5]; show _ - (8 : Int) = _; omega
                  · exact app_heads v1 s4 hH
                  · show 9 - (T.den Φ ρ' (.c2 .add (.var 1) (.num 1))).int.toNat < 9 - (nthD ds 0).int.toNat; rw [int_add, den_var, v1, i0]; show 9 - ((c : Int) + 1).toNat < 9 - (c : Int).toNat; omega
              · exfalso
                rw [eq_f, den_var, v2] at n1
                rw [eq_f, den_var, v2] at n2
                rw [eq_f, den_var, v2] at n3
                rw [eq_f, den_var, v2] at n4
                rw [eq_f, den_var, v2] at n5
                rw [eq_f, den_var, v2] at n6
                have h6 : ¬ (k : Int) = 1 ∧ ¬ (k : Int) = 2 ∧ ¬ (k : Int) = 3 ∧ ¬ (k : Int) = 4 ∧ ¬ (k : Int) = 5 ∧ ¬ (k : Int) = 6 := ⟨n1, n2, n3, n4, n5, n6⟩
                omega
  · obtain ⟨t1, t2⟩ := s7 m1
    refine leaf_pe_ok hr t2 (c := c) ?_ t1 s4 ?_ (show (T.den Φ ρ' (.var 6)).list = (ρ' 6).list from rfl) ?_ (by decide)
    · exact v1
    · show (T.den Φ ρ' (.c2 .sub (.c1 .len (.var 0)) (.var 4))).int = _; rw [int_sub, int_len, den_var, den_var, v4, e0]; rw [List.length_drop]; omega
    · exact hD
end Go.Proofs.YtfhjlimdakphcaaGreat.Sx
set_option maxRecDepth 100000
namespace Go.Proofs.YtfhjlimdakphcaaGreat.Sx
open Go
def xPsA0 : T := (.wr .u8 (.fn 54 (.cons (.c2 .rd (.var 2) (.c2 .mul (.var 3) (.num 73))) (.cons (.c2 .rd (.var 2) (.c2 .add (.c2 .mul (.var 3) (.num 73)) (.num 1))) (.cons (.c2 .rd (.var 2) (.c2 .add (.c2 .mul (.var 3) (.num 73)) (.num 2))) (.cons (.c2 .rd (.var 2) (.c2 .add (.c2 .mul (.var 3) (.num 73)) (.num 3))) (.cons (.c2 .rd (.var 2) (.c2 .add (.c2 .mul (.var 3) (.num 73)) (.num 4))) (.cons (.c2 .rd (.var 2) (.c2 .add (.c2 .mul (.var 3) (.num 73)) (.num 5))) (.cons (.c2 .rd (.var 2) (.c2 .add (.c2 .mul (.var 3) (.num 73)) (.num 6))) (.cons (.c2 .rd (.var 2) (.c2 .add (.c2 .mul (.var 3) (.num 73)) (.num 7))) (.cons (.c2 .rd (.var 2) (.c2 .add (.c2 .mul (.var 3) (.num 73)) (.num 8))) (.cons (.c2 .rd (.var 2) (.c2 .add (.c2 .mul (.var 3) (.num 73)) (.num 9))) (.cons (.c2 .rd (.var 2) (.c2 .add (.c2 .mul (.var 3) (.num 73)) (.num 10))) (.cons (.c2 .rd (.var 2) (.c2 .add (.c2 .mul (.var 3) (.num 73)) (.num 11))) (.cons (.c2 .rd (.var 2) (.c2 .add (.c2 .mul (.var 3) (.num 73)) (.num 12))) (.cons (.c2 .rd (.var 2) (.c2 .add (.c2 .mul (.var 3) (.num 73)) (.num 13))) (.cons (.c2 .rd (.var 2) (.c2 .add (.c2 .mul (.var 3) (.num 73)) (.num 14))) (.cons (.c2 .rd (.var 2) (.c2 .add (.c2 .mul (.var 3) (.num 73)) (.num 15))) (.cons (.c2 .rd (.var 2) (.c2 .add (.c2 .mul (.var 3) (.num 73)) (.num 16))) (.cons (.c2 .rd (.var 2) (.c2 .add (.c2 .mul (.var 3) (.num 73)) (.num 17))) (.cons (.c2 .rd (.var 2) (.c2 .add (.c2 .mul (.var 3) (.num 73)) (.num 18))) (.cons (.c2 .rd (.var 2) (.c2 .add (.c2 .mul (.var 3) (.num 73)) (.num 19))) (.cons (.c2 .rd (.var 2) (.c2 .add (.c2 .mul (.var 3) (.num 73)) (.num 20))) (.cons (.c2 .rd (.var 2) (.c2 .add (.c2 .mul (.var 3) (.num 73)) (.num 21))) (.cons (.c2 .rd (.var 2) (.c2 .add (.c2 .mul (.var 3) (.num 73)) (.num 22))) (.cons (.c2 .rd (.var 2) (.c2 .add (.c2 .mul (.var 3) (.num 73)) (.num 23))) (.cons (.c2 .rd (.var 2) (.c2 .add (.c2 .mul (.var 3) (.num 73)) (.num 24))) (.cons (.c2 .rd (.var 2) (.c2 .add (.c2 .mul (.var 3) (.num 73)) (.num 25))) (.cons (.c2 .rd (.var 2) (.c2 .add (.c2 .mul (.var 3) (.num 73)) (.num 26))) (.cons (.c2 .rd (.var 2) (.c2 .add (.c2 .mul (.var 3) (.num 73)) (.num 27))) (.cons (.c2 .rd (.var 2) (.c2 .add (.c2 .mul (.var 3) (.num 73)) (.num 28))) (.cons (.c2 .rd (.var 2) (.c2 .add (.c2 .mul (.var 3) (.num 73)) (.num 29))) (.cons (.c2 .rd (.var 2) (.c2 .add (.c2 .mul (.var 3) (.num 73)) (.num 30))) (.cons (.c2 .rd (.var 2) (.c2 .add (.c2 .mul (.var 3) (.num 73)) (.num 31))) (.cons (.c2 .rd (.var 2) (.c2 .add (.c2 .mul (.var 3) (.num 73)) (.num 32))) (.cons (.c2 .rd (.var 2) (.c2 .add (.c2 .mul (.var 3) (.num 73)) (.num 33))) (.cons (.c2 .rd (.var 2) (.c2 .add (.c2 .mul (.var 3) (.num 73)) (.num 34))) (.cons (.c2 .rd (.var 2) (.c2 .add (.c2 .mul (.var 3) (.num 73)) (.num 35))) (.cons (.c2 .rd (.var 2) (.c2 .add (.c2 .mul (.var 3) (.num 73)) (.num 36))) (.cons (.c2 .rd (.var 2) (.c2 .add (.c2 .mul (.var 3) (.num 73)) (.num 37))) (.cons (.c2 .rd (.var 2) (.c2 .add (.c2 .mul (.var 3) (.num 73)) (.num 38))) (.cons (.c2 .rd (.var 2) (.c2 .add (.c2 .mul (.var 3) (.num 73)) (.num 39))) (.cons (.c2 .rd (.var 2) (.c2 .add (.c2 .mul (.var 3) (.num 73)) (.num 40))) (.cons (.c2 .rd (.var 2) (.c2 .add (.c2 .mul (.var 3) (.num 73)) (.num 41))) (.cons (.c2 .rd (.var 2) (.c2 .add (.c2 .mul (.var 3) (.num 73)) (.num 42))) (.cons (.c2 .rd (.var 2) (.c2 .add (.c2 .mul (.var 3) (.num 73)) (.num 43))) (.cons (.c2 .rd (.var 2) (.c2 .add (.c2 .mul (.var 3) (.num 73)) (.num 44))) (.cons (.c2 .rd (.var 2) (.c2 .add (.c2 .mul (.var 3) (.num 73)) (.num 45))) (.cons (.c2 .rd (.var 2) (.c2 .add (.c2 .mul (.var 3) (.num 73)) (.num 46))) (.cons (.c2 .rd (.var 2) (.c2 .add (.c2 .mul (.var 3) (.num 73)) (.num 47))) (.cons (.c2 .rd (.var 2) (.c2 .add (.c2 .mul (.var 3) (.num 73)) (.num 48))) (.cons (.c2 .rd (.var 2) (.c2 .add (.c2 .mul (.var 3) (.num 73)) (.num 49))) (.cons (.c2 .rd (.var 2) (.c2 .add (.c2 .mul (.var 3) (.num 73)) (.num 50))) (.cons (.c2 .rd (.var 2) (.c2 .add (.c2 .mul (.var 3) (.num 73)) (.num 51))) (.cons (.c2 .rd (.var 2) (.c2 .add (.c2 .mul (.var 3) (.num 73)) (.num 52))) (.cons (.c2 .rd (.var 2) (.c2 .add (.c2 .mul (.var 3) (.num 73)) (.num 53))) (.cons (.c2 .rd (.var 2) (.c2 .add (.c2 .mul (.var 3) (.num 73)) (.num 54))) (.cons (.c2 .rd (.var 2) (.c2 .add (.c2 .mul (.var 3) (.num 73)) (.num 55))) (.cons (.c2 .rd (.var 2) (.c2 .add (.c2 .mul (.var 3) (.num 73)) (.num 56))) (.cons (.c2 .rd (.var 2) (.c2 .add (.c2 .mul (.var 3) (.num 73)) (.num 57))) (.cons (.c2 .rd (.var 2) (.c2 .add (.c2 .mul (.var 3) (.num 73)) (.num 58))) (.cons (.c2 .rd (.var 2) (.c2 .add (.c2 .mul (.var 3) (.num 73)) (.num 59))) (.cons (.c2 .rd (.var 2) (.c2 .add (.c2 .mul (.var 3) (.num 73)) (.num 60))) (.cons (.c2 .rd (.var 2) (.c2 .add (.c2 .mul (.var 3) (.num 73)) (.num 61))) (.cons (.c2 .rd (.var 2) (.c2 .add (.c2 .mul (.var 3) (.num 73)) (.num 62))) (.cons (.c2 .rd (.var 2) (.c2 .add (.c2 .mul (.var 3) (.num 73)) (.num 63))) (.cons (.c2 .rd (.var 2) (.c2 .add (.c2 .mul (.var 3) (.num 73)) (.num 64))) (.cons (.c2 .rd (.var 2) (.c2 .add (.c2 .mul (.var 3) (.num 73)) (.num 65))) (.cons (.c2 .rd (.var 2) (.c2 .add (.c2 .mul (.var 3) (.num 73)) (.num 66))) (.cons (.c2 .rd (.var 2) (.c2 .add (.c2 .mul (.var 3) (.num 73)) (.num 67))) (.cons (.c2 .rd (.var 2) (.c2 .add (.c2 .mul (.var 3) (.num 73)) (.num 68))) (.cons (.c2 .rd (.var 2) (.c2 .add (.c2 .mul (.var 3) (.num 73)) (.num 69))) (.cons (.c2 .rd (.var 2) (.c2 .add (.c2 .mul (.var 3) (.num 73)) (.num 70))) (.cons (.c2 .rd (.var 2) (.c2 .add (.c2 .mul (.var 3) (.num 73)) (.num 71))) (.cons (.c2 .rd (.var 2) (.c2 .add (.c2 .mul (.var 3) (.num 73)) (.num 72))) .nil))))))))))))))))))))))))))))))))))))))))))))))))))))))))))))))))))))))))) .nil .nil))
def xPsA1 : T := (.c2 .mul (.wr .i64 (.c2 .add (.var 3) (.num 1))) (.num 73))
def xPsA2 : T := (.c2 .eq (.fn 51 (.fn 81 (.var 2) (.var 0) .nil) .nil .nil) (.num 0))
def xPsA3 : T := (.c2 .le (.num 1) (.fn 52 (.fn 81 (.var 2) (.var 0) .nil) .nil .nil))
def xPsA4 : T := (.c2 .le (.fn 52 (.fn 81 (.var 2) (.var 0) .nil) .nil .nil) (.num 8))
def xPsA5 : T := (.c1 .len (.fn 50 (.fn 81 (.var 2) (.var 0) .nil) .nil .nil))
def xPsA6 : T := (.c2 .eq xPsA5 (.c2 .mul (.fn 52 (.fn 81 (.var 2) (.var 0) .nil) .nil .nil) (.num 73)))
def xPsA7 : T := (.c1 (.kin [.u8, .u8, .u8, .u8, .u8, .u8, .u8, .u8, .u8, .u8, .u8, .u8, .u8, .u16, .u8, .u16, .u16, .u8, .u8, .u8, .u16, .u8, .u8, .u8, .u8, .u8, .u8, .u8, .u8, .u8, .u32, .u8, .u8, .u8, .u8, .u8, .u8, .u8, .u8, .u8, .u8, .u8, .u8, .u8, .u8, .u8, .u8, .u8, .u8, .u8, .u8, .u8, .u8, .u8, .u8, .u8, .u8, .u8, .u8, .u8, .u8, .u8, .u8, .u8, .u8, .u16, .u16, .u32, .u32, .u8, .u16, .u16, .u16]) (.fn 50 (.fn 81 (.var 2) (.var 0) .nil) .nil .nil))
def xPsA8 : T := (.c1 (.kin [.u8]) (.fn 53 (.fn 81 (.var 2) (.var 0) .nil) .nil .nil))
def xPsA9 : T := (.c2 .le (.c1 .len (.fn 53 (.fn 81 (.var 2) (.var 0) .nil) .nil .nil)) (.c1 .len (.fn 81 (.var 2) (.var 0) .nil)))
def xPsA10 : T := (.c2 .le (.c2 .add (.c2 .mul (.var 5) (.num 73)) (.num 73)) (.c1 .len (.var 2)))
def xPsA11 : T := (.c2 .rd (.var 2) (.c2 .add (.c2 .mul (.var 5) (.num 73)) (.num 1)))
def xPsA12 : T := (.c2 .rd (.var 2) (.c2 .add (.c2 .mul (.var 5) (.num 73)) (.num 2)))
def xPsA13 : T := (.c2 .rd (.var 2) (.c2 .add (.c2 .mul (.var 5) (.num 73)) (.num 3)))
def xPsA14 : T := (.c2 .rd (.var 2) (.c2 .add (.c2 .mul (.var 5) (.num 73)) (.num 4)))
def xPsA15 : T := (.c2 .rd (.var 2) (.c2 .add (.c2 .mul (.var 5) (.num 73)) (.num 5)))
def xPsA16 : T := (.c2 .rd (.var 2) (.c2 .add (.c2 .mul (.var 5) (.num 73)) (.num 6)))
def xPsA17 : T := (.c2 .rd (.var 2) (.c2 .add (.c2 .mul (.var 5) (.num 73)) (.num 7)))
def xPsA18 : T := (.c2 .rd (.var 2) (.c2 .add (.c2 .mul (.var 5) (.num 73)) (.num 8)))
def xPsA19 : T := (.c2 .rd (.var 2) (.c2 .add (.c2 .mul (.var 5) (.num 73)) (.num 9)))
def xPsA20 : T := (.c2 .rd (.var 2) (.c2 .add (.c2 .mul (.var 5) (.num 73)) (.num 10)))
def xPsA21 : T := (.c2 .rd (.var 2) (.c2 .add (.c2 .mul (.var 5) (.num 73)) (.num 11)))
def xPsA22 : T := (.c2 .rd (.var 2) (.c2 .add (.c2 .mul (.var 5) (.num 73)) (.num 12)))
def xPsA23 : T := (.c2 .rd (.var 2) (.c2 .add (.c2 .mul (.var 5) (.num 73)) (.num 13)))
def xPsA24 : T := (.c2 .rd (.var 2) (.c2 .add (.c2 .mul (.var 5) (.num 73)) (.num 14)))
def xPsA25 : T := (.c2 .rd (.var 2) (.c2 .add (.c2 .mul (.var 5) (.num 73)) (.num 15)))
def xPsA26 : T := (.c2 .rd (.var 2) (.c2 .add (.c2 .mul (.var 5) (.num 73)) (.num 16)))
def xPsA27 : T := (.c2 .rd (.var 2) (.c2 .add (.c2 .mul (.var 5) (.num 73)) (.num 17)))
def xPsA28 : T := (.c2 .rd (.var 2) (.c2 .add (.c2 .mul (.var 5) (.num 73)) (.num 18)))
def xPsA29 : T := (.c2 .rd (.var 2) (.c2 .add (.c2 .mul (.var 5) (.num 73)) (.num 19)))
def xPsA30 : T := (.c2 .rd (.var 2) (.c2 .add (.c2 .mul (.var 5) (.num 73)) (.num 20)))
def xPsA31 : T := (.c2 .rd (.var 2) (.c2 .add (.c2 .mul (.var 5) (.num 73)) (.num 21)))
def xPsA32 : T := (.c2 .rd (.var 2) (.c2 .add (.c2 .mul (.var 5) (.num 73)) (.num 22)))
def xPsA33 : T := (.c2 .rd (.var 2) (.c2 .add (.c2 .mul (.var 5) (.num 73)) (.num 23)))
def xPsA34 : T := (.c2 .rd (.var 2) (.c2 .add (.c2 .mul (.var 5) (.num 73)) (.num 24)))
def xPsA35 : T := (.c2 .rd (.var 2) (.c2 .add (.c2 .mul (.var 5) (.num 73)) (.num 25)))
def xPsA36 : T := (.c2 .rd (.var 2) (.c2 .add (.c2 .mul (.var 5) (.num 73)) (.num 26)))
def xPsA37 : T := (.c2 .rd (.var 2) (.c2 .add (.c2 .mul (.var 5) (.num 73)) (.num 27)))
def xPsA38 : T := (.c2 .rd (.var 2) (.c2 .add (.c2 .mul (.var 5) (.num 73)) (.num 28)))
def xPsA39 : T := (.c2 .rd (.var 2) (.c2 .add (.c2 .mul (.var 5) (.num 73)) (.num 29)))
def xPsA40 : T := (.c2 .rd (.var 2) (.c2 .add (.c2 .mul (.var 5) (.num 73)) (.num 30)))
def xPsA41 : T := (.c2 .rd (.var 2) (.c2 .add (.c2 .mul (.var 5) (.num 73)) (.num 31)))
def xPsA42 : T := (.c2 .rd (.var 2) (.c2 .add (.c2 .mul (.var 5) (.num 73)) (.num 32)))
def xPsA43 : T := (.c2 .rd (.var 2) (.c2 .add (.c2 .mul (.var 5) (.num 73)) (.num 33)))
def xPsA44 : T := (.c2 .rd (.var 2) (.c2 .add (.c2 .mul (.var 5) (.num 73)) (.num 34)))
def xPsA45 : T := (.c2 .rd (.var 2) (.c2 .add (.c2 .mul (.var 5) (.num 73)) (.num 35)))
def xPsA46 : T := (.c2 .rd (.var 2) (.c2 .add (.c2 .mul (.var 5) (.num 73)) (.num 36)))
def xPsA47 : T := (.c2 .rd (.var 2) (.c2 .add (.c2 .mul (.var 5) (.num 73)) (.num 37)))
def xPsA48 : T := (.c2 .rd (.var 2) (.c2 .add (.c2 .mul (.var 5) (.num 73)) (.num 38)))
def xPsA49 : T := (.c2 .rd (.var 2) (.c2 .add (.c2 .mul (.var 5) (.num 73)) (.num 39)))
def xPsA50 : T := (.c2 .rd (.var 2) (.c2 .add (.c2 .mul (.var 5) (.num 73)) (.num 40)))
def xPsA51 : T := (.c2 .rd (.var 2) (.c2 .add (.c2 .mul (.var 5) (.num 73)) (.num 41)))
def xPsA52 : T := (.c2 .rd (.var 2) (.c2 .add (.c2 .mul (.var 5) (.num 73)) (.num 42)))
def xPsA53 : T := (.c2 .rd (.var 2) (.c2 .add (.c2 .mul (.var 5) (.num 73)) (.num 43)))
def xPsA54 : T := (.c2 .rd (.var 2) (.c2 .add (.c2 .mul (.var 5) (.num 73)) (.num 44)))
def xPsA55 : T := (.c2 .rd (.var 2) (.c2 .add (.c2 .mul (.var 5) (.num 73)) (.num 45)))
def xPsA56 : T := (.c2 .rd (.var 2) (.c2 .add (.c2 .mul (.var 5) (.num 73)) (.num 46)))
def xPsA57 : T := (.c2 .rd (.var 2) (.c2 .add (.c2 .mul (.var 5) (.num 73)) (.num 47)))
def xPsA58 : T := (.c2 .rd (.var 2) (.c2 .add (.c2 .mul (.var 5) (.num 73)) (.num 48)))
def xPsA59 : T := (.c2 .rd (.var 2) (.c2 .add (.c2 .mul (.var 5) (.num 73)) (.num 49)))
def xPsA60 : T := (.c2 .rd (.var 2) (.c2 .add (.c2 .mul (.var 5) (.num 73)) (.num 50)))
def xPsA61 : T := (.c2 .rd (.var 2) (.c2 .add (.c2 .mul (.var 5) (.num 73)) (.num 51)))
def xPsA62 : T := (.c2 .rd (.var 2) (.c2 .add (.c2 .mul (.var 5) (.num 73)) (.num 52)))
def xPsA63 : T := (.c2 .rd (.var 2) (.c2 .add (.c2 .mul (.var 5) (.num 73)) (.num 53)))
def xPsA64 : T := (.c2 .rd (.var 2) (.c2 .add (.c2 .mul (.var 5) (.num 73)) (.num 54)))
def xPsA65 : T := (.c2 .rd (.var 2) (.c2 .add (.c2 .mul (.var 5) (.num 73)) (.num 55)))
def xPsA66 : T := (.c2 .rd (.var 2) (.c2 .add (.c2 .mul (.var 5) (.num 73)) (.num 56)))
def xPsA67 : T := (.c2 .rd (.var 2) (.c2 .add (.c2 .mul (.var 5) (.num 73)) (.num 57)))
def xPsA68 : T := (.c2 .rd (.var 2) (.c2 .add (.c2 .mul (.var 5) (.num 73)) (.num 58)))
def xPsA69 : T := (.c2 .rd (.var 2) (.c2 .add (.c2 .mul (.var 5) (.num 73)) (.num 59)))
def xPsA70 : T := (.c2 .rd (.var 2) (.c2 .add (.c2 .mul (.var 5) (.num 73)) (.num 60)))
def xPsA71 : T := (.c2 .rd (.var 2) (.c2 .add (.c2 .mul (.var 5) (.num 73)) (.num 61)))
def xPsA72 : T := (.c2 .rd (.var 2) (.c2 .add (.c2 .mul (.var 5) (.num 73)) (.num 62)))
def xPsA73 : T := (.c2 .rd (.var 2) (.c2 .add (.c2 .mul (.var 5) (.num 73)) (.num 63)))
def xPsA74 : T := (.c2 .rd (.var 2) (.c2 .add (.c2 .mul (.var 5) (.num 73)) (.num 64)))
def xPsA75 : T := (.c2 .rd (.var 2) (.c2 .add (.c2 .mul (.var 5) (.num 73)) (.num 65)))
def xPsA76 : T := (.c2 .rd (.var 2) (.c2 .add (.c2 .mul (.var 5) (.num 73)) (.num 66)))
def xPsA77 : T := (.c2 .rd (.var 2) (.c2 .add (.c2 .mul (.var 5) (.num 73)) (.num 67)))
def xPsA78 : T := (.c2 .rd (.var 2) (.c2 .add (.c2 .mul (.var 5) (.num 73)) (.num 68)))
def xPsA79 : T := (.c2 .rd (.var 2) (.c2 .add (.c2 .mul (.var 5) (.num 73)) (.num 69)))
def xPsA80 : T := (.c2 .rd (.var 2) (.c2 .add (.c2 .mul (.var 5) (.num 73)) (.num 70)))
def xPsA81 : T := (.c2 .rd (.var 2) (.c2 .add (.c2 .mul (.var 5) (.num 73)) (.num 71)))
def xPsA82 : T := (.c2 .rd (.var 2) (.c2 .add (.c2 .mul (.var 5) (.num 73)) (.num 72)))
def xPsA83 : T := (.fn 77 (.var 8) (.c2 .rd (.var 2) (.c2 .mul (.var 6) (.num 73))) .nil)
def xPsA84 : T := (.fn 76 (.var 8) (.c2 .rd (.var 2) (.c2 .mul (.var 6) (.num 73))) .nil)
def xPsA85 : T := (.fn 77 (.var 7) (.c2 .rd (.var 2) (.c2 .mul (.var 5) (.num 73))) .nil)
def xPsA86 : T := (.fn 76 (.var 7) (.c2 .rd (.var 2) (.c2 .mul (.var 5) (.num 73))) .nil)
def treePsA : M (V × St) :=
(.split (.c2 .eq (.fn 80 (.var 2) (.var 0) .nil) (.num 0))
 (.chk (.c1 (.kin [.u8]) (.fn 81 (.var 2) (.var 0) .nil))
 (.chk (.c2 .le (.c1 .len (.fn 81 (.var 2) (.var 0) .nil)) (.num 140737488351232))
 (.split (.c2 .lt (.num 0) (.var 1))
  (.loop 0 3 2 [(.num 0), (.c2 .eq (.c2 .rd (.var 2) (.num 0)) (.num 1))] [((.c2 .le (.num 0) (.var 3)), true)]
   (.split (.c2 .lt (.var 3) (.var 1))
    (.chk (.c2 .le (.c2 .add (.c2 .mul (.var 3) (.num 73)) (.num 73)) (.c1 .len (.var 2)))
    (.split (.var 4)
     (.split (.c2 .beq (.c1 .not (.c2 .eq xPsA0 (.num 0))) (.c2 .lt (.wr .i64 (.c2 .add (.var 3) (.num 1))) (.var 1)))
      (.split (.c2 .eq xPsA0 (.num 0))
       (.back 0 3 [(.wr .i64 (.c2 .add (.var 3) (.num 1))), (.bol true)])
       (.chk (.c2 .le (.num 0) (.wr .i64 (.c2 .add (.var 3) (.num 1))))
       (.chk (.c2 .lt (.wr .i64 (.c2 .add (.var 3) (.num 1))) (.var 1))
       (.chk (.c2 .le (.c2 .add xPsA1 (.num 1)) (.c1 .len (.var 2)))
       (.back 0 3 [(.wr .i64 (.c2 .add (.var 3) (.num 1))), (.c2 .eq xPsA0 (.c2 .rd (.var 2) xPsA1))])))))
      (.back 0 3 [(.wr .i64 (.c2 .add (.var 3) (.num 1))), (.bol false)]))
     (.back 0 3 [(.wr .i64 (.c2 .add (.var 3) (.num 1))), (.bol false)])))
    (.split (.var 4)
     (.split xPsA2
      (.chk xPsA3
      (.chk xPsA4
      (.chk xPsA6
      (.chk xPsA7
      (.chk xPsA8
      (.chk xPsA9
      (.split (.c1 .not (.c2 .eq (.fn 52 (.fn 81 (.var 2) (.var 0) .nil) .nil .nil) (.var 1)))
       (.ret (.w (.c (.b (.bol false))), ⟨[], [], 5602, 5, []⟩))
       (.split (.c1 .not (.c2 .leq (.fn 53 (.fn 81 (.var 2) (.var 0) .nil) .nil .nil) (.var 0)))
        (.ret (.w (.c (.b (.bol false))), ⟨[], [], 5604, 5, []⟩))
        (.loop 1 5 1 [(.num 0)] [((.c2 .le (.num 0) (.var 5)), true)]
         (.split (.c2 .lt (.var 5) (.var 1))
          (.chk (.c2 .lt (.var 5) (.fn 52 (.fn 81 (.var 2) (.var 0) .nil) .nil .nil))
          (.chk (.c2 .le (.c2 .add (.c2 .mul (.var 5) (.num 73)) (.num 73)) xPsA5)
          (.chk xPsA10
          (.split (.c1 .not (.c2 .and (.c2 .eq (.c2 .rd (.fn 50 (.fn 81 (.var 2) (.var 0) .nil) .nil .nil) (.c2 .mul (.var 5) (.num 73))) (.c2 .rd (.var 2) (.c2 .mul (.var 5) (.num 73)))) (.c2 .and (.c2 .eq (.c2 .rd (.fn 50 (.fn 81 (.var 2) (.var 0) .nil) .nil .nil) (.c2 .add (.c2 .mul (.var 5) (.num 73)) (.num 1))) xPsA11) (.c2 .and (.c2 .eq (.c2 .rd (.fn 50 (.fn 81 (.var 2) (.var 0) .nil) .nil .nil) (.c2 .add (.c2 .mul (.var 5) (.num 73)) (.num 2))) xPsA12) (.c2 .and (.c2 .eq (.c2 .rd (.fn 50 (.fn 81 (.var 2) (.var 0) .nil) .nil .nil) (.c2 .add (.c2 .mul (.var 5) (.num 73)) (.num 3))) xPsA13) (.c2 .and (.c2 .eq (.c2 .rd (.fn 50 (.fn 81 (.var 2) (.var 0) .nil) .nil .nil) (.c2 .add (.c2 .mul (.var 5) (.num 73)) (.num 4))) xPsA14) (.c2 .and (.c2 .eq (.c2 .rd (.fn 50 (.fn 81 (.var 2) (.var 0) .nil) .nil .nil) (.c2 .add (.c2 .mul (.var 5) (.num 73)) (.num 5))) xPsA15) (.c2 .and (.c2 .eq (.c2 .rd (.fn 50 (.fn 81 (.var 2) (.var 0) .nil) .nil .nil) (.c2 .add (.c2 .mul (.var 5) (.num 73)) (.num 6))) xPsA16) (.c2 .and (.c2 .eq (.c2 .rd (.fn 50 (.fn 81 (.var 2) (.var 0) .nil) .nil .nil) (.c2 .add (.c2 .mul (.var 5) (.num 73)) (.num 7))) xPsA17) (.c2 .and (.c2 .eq (.c2 .rd (.fn 50 (.fn 81 (.var 2) (.var 0) .nil) .nil .nil) (.c2 .add (.c2 .mul (.var 5) (.num 73)) (.num 8))) xPsA18) (.c2 .and (.c2 .eq (.c2 .rd (.fn 50 (.fn 81 (.var 2) (.var 0) .nil) .nil .nil) (.c2 .add (.c2 .mul (.var 5) (.num 73)) (.num 9))) xPsA19) (.c2 .and (.c2 .eq (.c2 .rd (.fn 50 (.fn 81 (.var 2) (.var 0) .nil) .nil .nil) (.c2 .add (.c2 .mul (.var 5) (.num 73)) (.num 10))) xPsA20) (.c2 .and (.c2 .eq (.c2 .rd (.fn 50 (.fn 81 (.var 2) (.var 0) .nil) .nil .nil) (.c2 .add (.c2 .mul (.var 5) (.num 73)) (.num 11))) xPsA21) (.c2 .and (.c2 .eq (.c2 .rd (.fn 50 (.fn 81 (.var 2) (.var 0) .nil) .nil .nil) (.c2 .add (.c2 .mul (.var 5) (.num 73)) (.num 12))) xPsA22) (.c2 .and (.c2 .eq (.c2 .rd (.fn 50 (.fn 81 (.var 2) (.var 0) .nil) .nil .nil) (.c2 .add (.c2 .mul (.var 5) (.num 73)) (.num 13))) xPsA23) (.c2 .and (.c2 .eq (.c2 .rd (.fn 50 (.fn 81 (.var 2) (.var 0) .nil) .nil .nil) (.c2 .add (.c2 .mul (.var 5) (.num 73)) (.num 14))) xPsA24) (.c2 .and (.c2 .eq (.c2 .rd (.fn 50 (.fn 81 (.var 2) (.var 0) .nil) .nil .nil) (.c2 .add (.c2 .mul (.var 5) (.num 73)) (.num 15))) xPsA25) (.c2 .and (.c2 .eq (.c2 .rd (.fn 50 (.fn 81 (.var 2) (.var 0) .nil) .nil .nil) (.c2 .add (.c2 .mul (.var 5) (.num 73)) (.num 16))) xPsA26) (.c2 .and (.c2 .eq (.c2 .rd (.fn 50 (.fn 81 (.var 2) (.var 0) .nil) .nil .nil) (.c2 .add (.c2 .mul (.var 5) (.num 73)) (.num 17))) xPsA27) (.c2 .and (.c2 .eq (.c2 .rd (.fn 50 (.fn 81 (.var 2) (.var 0) .nil) .nil .nil) (.c2 .add (.c2 .mul (.var 5) (.num 73)) (.num 18))) xPsA28) (.c2 .and (.c2 .eq (.c2 .rd (.fn 50 (.fn 81 (.var 2) (.var 0) .nil) .nil .nil) (.c2 .add (.c2 .mul (.var 5) (.num 73)) (.num 19))) xPsA29) (.c2 .and (.c2 .eq (.c2 .rd (.fn 50 (.fn 81 (.var 2) (.var 0) .nil) .nil .nil) (.c2 .add (.c2 .mul (.var 5) (.num 73)) (.num 20))) xPsA30) (.c2 .and (.c2 .eq (.c2 .rd (.fn 50 (.fn 81 (.var 2) (.var 0) .nil) .nil .nil) (.c2 .add (.c2 .mul (.var 5) (.num 73)) (.num 21))) xPsA31) (.c2 .and (.c2 .eq (.c2 .rd (.fn 50 (.fn 81 (.var 2) (.var 0) .nil) .nil .nil) (.c2 .add (.c2 .mul (.var 5) (.num 73)) (.num 22))) xPsA32) (.c2 .and (.c2 .eq (.c2 .rd (.fn 50 (.fn 81 (.var 2) (.var 0) .nil) .nil .nil) (.c2 .add (.c2 .mul (.var 5) (.num 73)) (.num 23))) xPsA33) (.c2 .and (.c2 .eq (.c2 .rd (.fn 50 (.fn 81 (.var 2) (.var 0) .nil) .nil .nil) (.c2 .add (.c2 .mul (.var 5) (.num 73)) (.num 24))) xPsA34) (.c2 .and (.c2 .eq (.c2 .rd (.fn 50 (.fn 81 (.var 2) (.var 0) .nil) .nil .nil) (.c2 .add (.c2 .mul (.var 5) (.num 73)) (.num 25))) xPsA35) (.c2 .and (.c2 .eq (.c2 .rd (.fn 50 (.fn 81 (.var 2) (.var 0) .nil) .nil .nil) (.c2 .add (.c2 .mul (.var 5) (.num 73)) (.num 26))) xPsA36) (.c2 .and (.c2 .eq (.c2 .rd (.fn 50 (.fn 81 (.var 2) (.var 0) .nil) .nil .nil) (.c2 .add (.c2 .mul (.var 5) (.num 73)) (.num 27))) xPsA37) (.c2 .and (.c2 .eq (.c2 .rd (.fn 50 (.fn 81 (.var 2) (.var 0) .nil) .nil .nil) (.c2 .add (.c2 .mul (.var 5) (.num 73)) (.num 28))) xPsA38) (.c2 .and (.c2 .eq (.c2 .rd (.fn 50 (.fn 81 (.var 2) (.var 0) .nil) .nil .nil) (.c2 .add (.c2 .mul (.var 5) (.num 73)) (.num 29))) xPsA39) (.c2 .and (.c2 .eq (.c2 .rd (.fn 50 (.fn 81 (.var 2) (.var 0) .nil) .nil .nil) (.c2 .add (.c2 .mul (.var 5) (.num 73)) (.num 30))) xPsA40) (.c2 .and (.c2 .eq (.c2 .rd (.fn 50 (.fn 81 (.var 2) (.var 0) .nil) .nil .nil) (.c2 .add (.c2 .mul (.var 5) (.num 73)) (.num 31))) xPsA41) (.c2 .and (.c2 .eq (.c2 .rd (.fn 50 (.fn 81 (.var 2) (.var 0) .nil) .nil .nil) (.c2 .add (.c2 .mul (.var 5) (.num 73)) (.num 32))) xPsA42) (.c2 .and (.c2 .eq (.c2 .rd (.fn 50 (.fn 81 (.var 2) (.var 0) .nil) .nil .nil) (.c2 .add (.c2 .mul (.var 5) (.num 73)) (.num 33))) xPsA43) (.c2 .and (.c2 .eq (.c2 .rd (.fn 50 (.fn 81 (.var 2) (.var 0) .nil) .nil .nil) (.c2 .add (.c2 .mul (.var 5) (.num 73)) (.num 34))) xPsA44) (.c2 .and (.c2 .eq (.c2 .rd (.fn 50 (.fn 81 (.var 2) (.var 0) .nil) .nil .nil) (.c2 .add (.c2 .mul (.var 5) (.num 73)) (.num 35))) xPsA45) (.c2 .and (.c2 .eq (.c2 .rd (.fn 50 (.fn 81 (.var 2) (.var 0) .nil) .nil .nil) (.c2 .add (.c2 .mul (.var 5) (.num 73)) (.num 36))) xPsA46) (.c2 .and (.c2 .eq (.c2 .rd (.fn 50 (.fn 81 (.var 2) (.var 0) .nil) .nil .nil) (.c2 .add (.c2 .mul (.var 5) (.num 73)) (.num 37))) xPsA47) (.c2 .and (.c2 .eq (.c2 .rd (.fn 50 (.fn 81 (.var 2) (.var 0) .nil) .nil .nil) (.c2 .add (.c2 .mul (.var 5) (.num 73)) (.num 38))) xPsA48) (.c2 .and (.c2 .eq (.c2 .rd (.fn 50 (.fn 81 (.var 2) (.var 0) .nil) .nil .nil) (.c2 .add (.c2 .mul (.var 5) (.num 73)) (.num 39))) xPsA49) (.c2 .and (.c2 .eq (.c2 .rd (.fn 50 (.fn 81 (.var 2) (.var 0) .nil) .nil .nil) (.c2 .add (.c2 .mul (.var 5) (.num 73)) (.num 40))) xPsA50) (.c2 .and (.c2 .eq (.c2 .rd (.fn 50 (.fn 81 (.var 2) (.var 0) .nil) .nil .nil) (.c2 .add (.c2 .mul (.var 5) (.num 73)) (.num 41))) xPsA51) (.c2 .and (.c2 .eq (.c2 .rd (.fn 50 (.fn 81 (.var 2) (.var 0) .nil) .nil .nil) (.c2 .add (.c2 .mul (.var 5) (.num 73)) (.num 42))) xPsA52) (.c2 .and (.c2 .eq (.c2 .rd (.fn 50 (.fn 81 (.var 2) (.var 0) .nil) .nil .nil) (.c2 .add (.c2 .mul (.var 5) (.num 73)) (.num 43))) xPsA53) (.c2 .and (.c2 .eq (.c2 .rd (.fn 50 (.fn 81 (.var 2) (.var 0) .nil) .nil .nil) (.c2 .add (.c2 .mul (.var 5) (.num 73)) (.num 44))) xPsA54) (.c2 .and (.c2 .eq (.c2 .rd (.fn 50 (.fn 81 (.var 2) (.var 0) .nil) .nil .nil) (.c2 .add (.c2 .mul (.var 5) (.num 73)) (.num 45))) xPsA55) (.c2 .and (.c2 .eq (.c2 .rd (.fn 50 (.fn 81 (.var 2) (.var 0) .nil) .nil .nil) (.c2 .add (.c2 .mul (.var 5) (.num 73)) (.num 46))) xPsA56) (.c2 .and (.c2 .eq (.c2 .rd (.fn 50 (.fn 81 (.var 2) (.var 0) .nil) .nil .nil) (.c2 .add (.c2 .mul (.var 5) (.num 73)) (.num 47))) xPsA57) (.c2 .and (.c2 .eq (.c2 .rd (.fn 50 (.fn 81 (.var 2) (.var 0) .nil) .nil .nil) (.c2 .add (.c2 .mul (.var 5) (.num 73)) (.num 48))) xPsA58) (.c2 .and (.c2 .eq (.c2 .rd (.fn 50 (.fn 81 (.var 2) (.var 0) .nil) .nil .nil) (.c2 .add (.c2 .mul (.var 5) (.num 73)) (.num 49))) xPsA59) (.c2 .and (.c2 .eq (.c2 .rd (.fn 50 (.fn 81 (.var 2) (.var 0) .nil) .nil .nil) (.c2 .add (.c2 .mul (.var 5) (.num 73)) (.num 50))) xPsA60) (.c2 .and (.c2 .eq (.c2 .rd (.fn 50 (.fn 81 (.var 2) (.var 0) .nil) .nil .nil) (.c2 .add (.c2 .mul (.var 5) (.num 73)) (.num 51))) xPsA61) (.c2 .and (.c2 .eq (.c2 .rd (.fn 50 (.fn 81 (.var 2) (.var 0) .nil) .nil .nil) (.c2 .add (.c2 .mul (.var 5) (.num 73)) (.num 52))) xPsA62) (.c2 .and (.c2 .eq (.c2 .rd (.fn 50 (.fn 81 (.var 2) (.var 0) .nil) .nil .nil) (.c2 .add (.c2 .mul (.var 5) (.num 73)) (.num 53))) xPsA63) (.c2 .and (.c2 .eq (.c2 .rd (.fn 50 (.fn 81 (.var 2) (.var 0) .nil) .nil .nil) (.c2 .add (.c2 .mul (.var 5) (.num 73)) (.num 54))) xPsA64) (.c2 .and (.c2 .eq (.c2 .rd (.fn 50 (.fn 81 (.var 2) (.var 0) .nil) .nil .nil) (.c2 .add (.c2 .mul (.var 5) (.num 73)) (.num 55))) xPsA65) (.c2 .and (.c2 .eq (.c2 .rd (.fn 50 (.fn 81 (.var 2) (.var 0) .nil) .nil .nil) (.c2 .add (.c2 .mul (.var 5) (.num 73)) (.num 56))) xPsA66) (.c2 .and (.c2 .eq (.c2 .rd (.fn 50 (.fn 81 (.var 2) (.var 0) .nil) .nil .nil) (.c2 .add (.c2 .mul (.var 5) (.num 73)) (.num 57))) xPsA67) (.c2 .and (.c2 .eq (.c2 .rd (.fn 50 (.fn 81 (.var 2) (.var 0) .nil) .nil .nil) (.c2 .add (.c2 .mul (.var 5) (.num 73)) (.num 58))) xPsA68) (.c2 .and (.c2 .eq (.c2 .rd (.fn 50 (.fn 81 (.var 2) (.var 0) .nil) .nil .nil) (.c2 .add (.c2 .mul (.var 5) (.num 73)) (.num 59))) xPsA69) (.c2 .and (.c2 .eq (.c2 .rd (.fn 50 (.fn 81 (.var 2) (.var 0) .nil) .nil .nil) (.c2 .add (.c2 .mul (.var 5) (.num 73)) (.num 60))) xPsA70) (.c2 .and (.c2 .eq (.c2 .rd (.fn 50 (.fn 81 (.var 2) (.var 0) .nil) .nil .nil) (.c2 .add (.c2 .mul (.var 5) (.num 73)) (.num 61))) xPsA71) (.c2 .and (.c2 .eq (.c2 .rd (.fn 50 (.fn 81 (.var 2) (.var 0) .nil) .nil .nil) (.c2 .add (.c2 .mul (.var 5) (.num 73)) (.num 62))) xPsA72) (.c2 .and (.c2 .eq (.c2 .rd (.fn 50 (.fn 81 (.var 2) (.var 0) .nil) .nil .nil) (.c2 .add (.c2 .mul (.var 5) (.num 73)) (.num 63))) xPsA73) (.c2 .and (.c2 .eq (.c2 .rd (.fn 50 (.fn 81 (.var 2) (.var 0) .nil) .nil .nil) (.c2 .add (.c2 .mul (.var 5) (.num 73)) (.num 64))) xPsA74) (.c2 .and (.c2 .eq (.c2 .rd (.fn 50 (.fn 81 (.var 2) (.var 0) .nil) .nil .nil) (.c2 .add (.c2 .mul (.var 5) (.num 73)) (.num 65))) xPsA75) (.c2 .and (.c2 .eq (.c2 .rd (.fn 50 (.fn 81 (.var 2) (.var 0) .nil) .nil .nil) (.c2 .add (.c2 .mul (.var 5) (.num 73)) (.num 66))) xPsA76) (.c2 .and (.c2 .eq (.c2 .rd (.fn 50 (.fn 81 (.var 2) (.var 0) .nil) .nil .nil) (.c2 .add (.c2 .mul (.var 5) (.num 73)) (.num 67))) xPsA77) (.c2 .and (.c2 .eq (.c2 .rd (.fn 50 (.fn 81 (.var 2) (.var 0) .nil) .nil .nil) (.c2 .add (.c2 .mul (.var 5) (.num 73)) (.num 68))) xPsA78) (.c2 .and (.c2 .eq (.c2 .rd (.fn 50 (.fn 81 (.var 2) (.var 0) .nil) .nil .nil) (.c2 .add (.c2 .mul (.var 5) (.num 73)) (.num 69))) xPsA79) (.c2 .and (.c2 .eq (.c2 .rd (.fn 50 (.fn 81 (.var 2) (.var 0) .nil) .nil .nil) (.c2 .add (.c2 .mul (.var 5) (.num 73)) (.num 70))) xPsA80) (.c2 .and (.c2 .eq (.c2 .rd (.fn 50 (.fn 81 (.var 2) (.var 0) .nil) .nil .nil) (.c2 .add (.c2 .mul (.var 5) (.num 73)) (.num 71))) xPsA81) (.c2 .eq (.c2 .rd (.fn 50 (.fn 81 (.var 2) (.var 0) .nil) .nil .nil) (.c2 .add (.c2 .mul (.var 5) (.num 73)) (.num 72))) xPsA82))))))))))))))))))))))))))))))))))))))))))))))))))))))))))))))))))))))))))
           (.ret (.w (.c (.b (.bol false))), ⟨[], [], 5604, 6, []⟩))
           (.back 1 5 [(.wr .i64 (.c2 .add (.var 5) (.num 1)))])))))
          (.loop 2 6 3 [(.num 0), (.c1 .len (.fn 81 (.var 2) (.var 0) .nil)), (.fn 81 (.var 2) (.var 0) .nil)] [((.c2 .le (.num 0) (.var 6)), true), ((.c2 .le (.num 0) (.var 7)), true), ((.c2 .le (.var 7) (.num 140737488351232)), true), ((.c2 .eq (.c1 .len (.var 8)) (.var 7)), true), ((.c1 (.kin [.u8]) (.var 8)), true)]
           (.split (.c2 .lt (.var 6) (.var 1))
            (.chk (.c2 .le (.c2 .add (.c2 .mul (.var 6) (.num 73)) (.num 1)) (.c1 .len (.var 2)))
            (.split (.c2 .eq (.fn 75 (.var 8) (.c2 .rd (.var 2) (.c2 .mul (.var 6) (.num 73))) .nil) (.num 0))
             (.chk (.c1 (.kin [.u8]) xPsA83)
             (.chk (.c2 .le (.c1 .len xPsA83) (.c1 .len (.var 8)))
             (.chk (.c2 .le (.c2 .add (.c2 .mul (.var 6) (.num 73)) (.num 73)) (.c1 .len (.var 2)))
             (.split (.c1 .not (.c2 .and (.c2 .eq (.wr .u8 (.c2 .rd xPsA84 (.num 0))) (.c2 .rd (.var 2) (.c2 .mul (.var 6) (.num 73)))) (.c2 .and (.c2 .eq (.wr .u8 (.c2 .rd xPsA84 (.num 1))) (.c2 .rd (.var 2) (.c2 .add (.c2 .mul (.var 6) (.num 73)) (.num 1)))) (.c2 .and (.c2 .eq (.wr .u8 (.c2 .rd xPsA84 (.num 2))) (.c2 .rd (.var 2) (.c2 .add (.c2 .mul (.var 6) (.num 73)) (.num 2)))) (.c2 .and (.c2 .eq (.wr .u8 (.c2 .rd xPsA84 (.num 3))) (.c2 .rd (.var 2) (.c2 .add (.c2 .mul (.var 6) (.num 73)) (.num 3)))) (.c2 .and (.c2 .eq (.wr .u8 (.c2 .rd xPsA84 (.num 4))) (.c2 .rd (.var 2) (.c2 .add (.c2 .mul (.var 6) (.num 73)) (.num 4)))) (.c2 .and (.c2 .eq (.wr .u8 (.c2 .rd xPsA84 (.num 5))) (.c2 .rd (.var 2) (.c2 .add (.c2 .mul (.var 6) (.num 73)) (.num 5)))) (.c2 .and (.c2 .eq (.wr .u8 (.c2 .rd xPsA84 (.num 6))) (.c2 .rd (.var 2) (.c2 .add (.c2 .mul (.var 6) (.num 73)) (.num 6)))) (.c2 .and (.c2 .eq (.wr .u8 (.c2 .rd xPsA84 (.num 7))) (.c2 .rd (.var 2) (.c2 .add (.c2 .mul (.var 6) (.num 73)) (.num 7)))) (.c2 .and (.c2 .eq (.wr .u8 (.c2 .rd xPsA84 (.num 8))) (.c2 .rd (.var 2) (.c2 .add (.c2 .mul (.var 6) (.num 73)) (.num 8)))) (.c2 .and (.c2 .eq (.wr .u8 (.c2 .rd xPsA84 (.num 9))) (.c2 .rd (.var 2) (.c2 .add (.c2 .mul (.var 6) (.num 73)) (.num 9)))) (.c2 .and (.c2 .eq (.wr .u8 (.c2 .rd xPsA84 (.num 10))) (.c2 .rd (.var 2) (.c2 .add (.c2 .mul (.var 6) (.num 73)) (.num 10)))) (.c2 .and (.c2 .eq (.wr .u8 (.c2 .rd xPsA84 (.num 11))) (.c2 .rd (.var 2) (.c2 .add (.c2 .mul (.var 6) (.num 73)) (.num 11)))) (.c2 .and (.c2 .eq (.wr .u8 (.c2 .rd xPsA84 (.num 12))) (.c2 .rd (.var 2) (.c2 .add (.c2 .mul (.var 6) (.num 73)) (.num 12)))) (.c2 .and (.c2 .eq (.wr .u16 (.c2 .rd xPsA84 (.num 13))) (.c2 .rd (.var 2) (.c2 .add (.c2 .mul (.var 6) (.num 73)) (.num 13)))) (.c2 .and (.c2 .eq (.wr .u8 (.c2 .rd xPsA84 (.num 14))) (.c2 .rd (.var 2) (.c2 .add (.c2 .mul (.var 6) (.num 73)) (.num 14)))) (.c2 .and (.c2 .eq (.wr .u16 (.c2 .rd xPsA84 (.num 15))) (.c2 .rd (.var 2) (.c2 .add (.c2 .mul (.var 6) (.num 73)) (.num 15)))) (.c2 .and (.c2 .eq (.wr .u16 (.c2 .rd xPsA84 (.num 16))) (.c2 .rd (.var 2) (.c2 .add (.c2 .mul (.var 6) (.num 73)) (.num 16)))) (.c2 .and (.c2 .eq (.wr .u8 (.c2 .rd xPsA84 (.num 17))) (.c2 .rd (.var 2) (.c2 .add (.c2 .mul (.var 6) (.num 73)) (.num 17)))) (.c2 .and (.c2 .eq (.wr .u8 (.c2 .rd xPsA84 (.num 18))) (.c2 .rd (.var 2) (.c2 .add (.c2 .mul (.var 6) (.num 73)) (.num 18)))) (.c2 .and (.c2 .eq (.wr .u8 (.c2 .rd xPsA84 (.num 19))) (.c2 .rd (.var 2) (.c2 .add (.c2 .mul (.var 6) (.num 73)) (.num 19)))) (.c2 .and (.c2 .eq (.wr .u16 (.c2 .rd xPsA84 (.num 20))) (.c2 .rd (.var 2) (.c2 .add (.c2 .mul (.var 6) (.num 73)) (.num 20)))) (.c2 .and (.c2 .eq (.wr .u8 (.c2 .rd xPsA84 (.num 21))) (.c2 .rd (.var 2) (.c2 .add (.c2 .mul (.var 6) (.num 73)) (.num 21)))) (.c2 .and (.c2 .eq (.wr .u8 (.c2 .rd xPsA84 (.num 22))) (.c2 .rd (.var 2) (.c2 .add (.c2 .mul (.var 6) (.num 73)) (.num 22)))) (.c2 .and (.c2 .eq (.wr .u8 (.c2 .rd xPsA84 (.num 23))) (.c2 .rd (.var 2) (.c2 .add (.c2 .mul (.var 6) (.num 73)) (.num 23)))) (.c2 .and (.c2 .eq (.wr .u8 (.c2 .rd xPsA84 (.num 24))) (.c2 .rd (.var 2) (.c2 .add (.c2 .mul (.var 6) (.num 73)) (.num 24)))) (.c2 .and (.c2 .eq (.wr .u8 (.c2 .rd xPsA84 (.num 25))) (.c2 .rd (.var 2) (.c2 .add (.c2 .mul (.var 6) (.num 73)) (.num 25)))) (.c2 .and (.c2 .eq (.wr .u8 (.c2 .rd xPsA84 (.num 26))) (.c2 .rd (.var 2) (.c2 .add (.c2 .mul (.var 6) (.num 73)) (.num 26)))) (.c2 .and (.c2 .eq (.wr .u8 (.c2 .rd xPsA84 (.num 27))) (.c2 .rd (.var 2) (.c2 .add (.c2 .mul (.var 6) (.num 73)) (.num 27)))) (.c2 .and (.c2 .eq (.wr .u8 (.c2 .rd xPsA84 (.num 28))) (.c2 .rd (.var 2) (.c2 .add (.c2 .mul (.var 6) (.num 73)) (.num 28)))) (.c2 .and (.c2 .eq (.wr .u8 (.c2 .rd xPsA84 (.num 29))) (.c2 .rd (.var 2) (.c2 .add (.c2 .mul (.var 6) (.num 73)) (.num 29)))) (.c2 .and (.c2 .eq (.wr .u32 (.c2 .rd xPsA84 (.num 30))) (.c2 .rd (.var 2) (.c2 .add (.c2 .mul (.var 6) (.num 73)) (.num 30)))) (.c2 .and (.c2 .eq (.wr .u8 (.c2 .rd xPsA84 (.num 31))) (.c2 .rd (.var 2) (.c2 .add (.c2 .mul (.var 6) (.num 73)) (.num 31)))) (.c2 .and (.c2 .eq (.wr .u8 (.c2 .rd xPsA84 (.num 32))) (.c2 .rd (.var 2) (.c2 .add (.c2 .mul (.var 6) (.num 73)) (.num 32)))) (.c2 .and (.c2 .eq (.wr .u8 (.c2 .rd xPsA84 (.num 33))) (.c2 .rd (.var 2) (.c2 .add (.c2 .mul (.var 6) (.num 73)) (.num 33)))) (.c2 .and (.c2 .eq (.wr .u8 (.c2 .rd xPsA84 (.num 34))) (.c2 .rd (.var 2) (.c2 .add (.c2 .mul (.var 6) (.num 73)) (.num 34)))) (.c2 .and (.c2 .eq (.wr .u8 (.c2 .rd xPsA84 (.num 35))) (.c2 .rd (.var 2) (.c2 .add (.c2 .mul (.var 6) (.num 73)) (.num 35)))) (.c2 .and (.c2 .eq (.wr .u8 (.c2 .rd xPsA84 (.num 36))) (.c2 .rd (.var 2) (.c2 .add (.c2 .mul (.var 6) (.num 73)) (.num 36)))) (.c2 .and (.c2 .eq (.wr .u8 (.c2 .rd xPsA84 (.num 37))) (.c2 .rd (.var 2) (.c2 .add (.c2 .mul (.var 6) (.num 73)) (.num 37)))) (.c2 .and (.c2 .eq (.wr .u8 (.c2 .rd xPsA84 (.num 38))) (.c2 .rd (.var 2) (.c2 .add (.c2 .mul (.var 6) (.num 73)) (.num 38)))) (.c2 .and (.c2 .eq (.wr .u8 (.c2 .rd xPsA84 (.num 39))) (.c2 .rd (.var 2) (.c2 .add (.c2 .mul (.var 6) (.num 73)) (.num 39)))) (.c2 .and (.c2 .eq (.wr .u8 (.c2 .rd xPsA84 (.num 40))) (.c2 .rd (.var 2) (.c2 .add (.c2 .mul (.var 6) (.num 73)) (.num 40)))) (.c2 .and (.c2 .eq (.wr .u8 (.c2 .rd xPsA84 (.num 41))) (.c2 .rd (.var 2) (.c2 .add (.c2 .mul (.var 6) (.num 73)) (.num 41)))) (.c2 .and (.c2 .eq (.wr .u8 (.c2 .rd xPsA84 (.num 42))) (.c2 .rd (.var 2) (.c2 .add (.c2 .mul (.var 6) (.num 73)) (.num 42)))) (.c2 .and (.c2 .eq (.wr .u8 (.c2 .rd xPsA84 (.num 43))) (.c2 .rd (.var 2) (.c2 .add (.c2 .mul (.var 6) (.num 73)) (.num 43)))) (.c2 .and (.c2 .eq (.wr .u8 (.c2 .rd xPsA84 (.num 44))) (.c2 .rd (.var 2) (.c2 .add (.c2 .mul (.var 6) (.num 73)) (.num 44)))) (.c2 .and (.c2 .eq (.wr .u8 (.c2 .rd xPsA84 (.num 45))) (.c2 .rd (.var 2) (.c2 .add (.c2 .mul (.var 6) (.num 73)) (.num 45)))) (.c2 .and (.c2 .eq (.wr .u8 (.c2 .rd xPsA84 (.num 46))) (.c2 .rd (.var 2) (.c2 .add (.c2 .mul (.var 6) (.num 73)) (.num 46)))) (.c2 .and (.c2 .eq (.wr .u8 (.c2 .rd xPsA84 (.num 47))) (.c2 .rd (.var 2) (.c2 .add (.c2 .mul (.var 6) (.num 73)) (.num 47)))) (.c2 .and (.c2 .eq (.wr .u8 (.c2 .rd xPsA84 (.num 48))) (.c2 .rd (.var 2) (.c2 .add (.c2 .mul (.var 6) (.num 73)) (.num 48)))) (.c2 .and (.c2 .eq (.wr .u8 (.c2 .rd xPsA84 (.num 49))) (.c2 .rd (.var 2) (.c2 .add (.c2 .mul (.var 6) (.num 73)) (.num 49)))) (.c2 .and (.c2 .eq (.wr .u8 (.c2 .rd xPsA84 (.num 50))) (.c2 .rd (.var 2) (.c2 .add (.c2 .mul (.var 6) (.num 73)) (.num 50)))) (.c2 .and (.c2 .eq (.wr .u8 (.c2 .rd xPsA84 (.num 51))) (.c2 .rd (.var 2) (.c2 .add (.c2 .mul (.var 6) (.num 73)) (.num 51)))) (.c2 .and (.c2 .eq (.wr .u8 (.c2 .rd xPsA84 (.num 52))) (.c2 .rd (.var 2) (.c2 .add (.c2 .mul (.var 6) (.num 73)) (.num 52)))) (.c2 .and (.c2 .eq (.wr .u8 (.c2 .rd xPsA84 (.num 53))) (.c2 .rd (.var 2) (.c2 .add (.c2 .mul (.var 6) (.num 73)) (.num 53)))) (.c2 .and (.c2 .eq (.wr .u8 (.c2 .rd xPsA84 (.num 54))) (.c2 .rd (.var 2) (.c2 .add (.c2 .mul (.var 6) (.num 73)) (.num 54)))) (.c2 .and (.c2 .eq (.wr .u8 (.c2 .rd xPsA84 (.num 55))) (.c2 .rd (.var 2) (.c2 .add (.c2 .mul (.var 6) (.num 73)) (.num 55)))) (.c2 .and (.c2 .eq (.wr .u8 (.c2 .rd xPsA84 (.num 56))) (.c2 .rd (.var 2) (.c2 .add (.c2 .mul (.var 6) (.num 73)) (.num 56)))) (.c2 .and (.c2 .eq (.wr .u8 (.c2 .rd xPsA84 (.num 57))) (.c2 .rd (.var 2) (.c2 .add (.c2 .mul (.var 6) (.num 73)) (.num 57)))) (.c2 .and (.c2 .eq (.wr .u8 (.c2 .rd xPsA84 (.num 58))) (.c2 .rd (.var 2) (.c2 .add (.c2 .mul (.var 6) (.num 73)) (.num 58)))) (.c2 .and (.c2 .eq (.wr .u8 (.c2 .rd xPsA84 (.num 59))) (.c2 .rd (.var 2) (.c2 .add (.c2 .mul (.var 6) (.num 73)) (.num 59)))) (.c2 .and (.c2 .eq (.wr .u8 (.c2 .rd xPsA84 (.num 60))) (.c2 .rd (.var 2) (.c2 .add (.c2 .mul (.var 6) (.num 73)) (.num 60)))) (.c2 .and (.c2 .eq (.wr .u8 (.c2 .rd xPsA84 (.num 61))) (.c2 .rd (.var 2) (.c2 .add (.c2 .mul (.var 6) (.num 73)) (.num 61)))) (.c2 .and (.c2 .eq (.wr .u8 (.c2 .rd xPsA84 (.num 62))) (.c2 .rd (.var 2) (.c2 .add (.c2 .mul (.var 6) (.num 73)) (.num 62)))) (.c2 .and (.c2 .eq (.wr .u8 (.c2 .rd xPsA84 (.num 63))) (.c2 .rd (.var 2) (.c2 .add (.c2 .mul (.var 6) (.num 73)) (.num 63)))) (.c2 .and (.c2 .eq (.wr .u8 (.c2 .rd xPsA84 (.num 64))) (.c2 .rd (.var 2) (.c2 .add (.c2 .mul (.var 6) (.num 73)) (.num 64)))) (.c2 .and (.c2 .eq (.wr .u16 (.c2 .rd xPsA84 (.num 65))) (.c2 .rd (.var 2) (.c2 .add (.c2 .mul (.var 6) (.num 73)) (.num 65)))) (.c2 .and (.c2 .eq (.wr .u16 (.c2 .rd xPsA84 (.num 66))) (.c2 .rd (.var 2) (.c2 .add (.c2 .mul (.var 6) (.num 73)) (.num 66)))) (.c2 .and (.c2 .eq (.wr .u32 (.c2 .rd xPsA84 (.num 67))) (.c2 .rd (.var 2) (.c2 .add (.c2 .mul (.var 6) (.num 73)) (.num 67)))) (.c2 .and (.c2 .eq (.wr .u32 (.c2 .rd xPsA84 (.num 68))) (.c2 .rd (.var 2) (.c2 .add (.c2 .mul (.var 6) (.num 73)) (.num 68)))) (.c2 .and (.c2 .eq (.wr .u8 (.c2 .rd xPsA84 (.num 69))) (.c2 .rd (.var 2) (.c2 .add (.c2 .mul (.var 6) (.num 73)) (.num 69)))) (.c2 .and (.c2 .eq (.wr .u16 (.c2 .rd xPsA84 (.num 70))) (.c2 .rd (.var 2) (.c2 .add (.c2 .mul (.var 6) (.num 73)) (.num 70)))) (.c2 .and (.c2 .eq (.wr .u16 (.c2 .rd xPsA84 (.num 71))) (.c2 .rd (.var 2) (.c2 .add (.c2 .mul (.var 6) (.num 73)) (.num 71)))) (.c2 .eq (.wr .u16 (.c2 .rd xPsA84 (.num 72))) (.c2 .rd (.var 2) (.c2 .add (.c2 .mul (.var 6) (.num 73)) (.num 72)))))))))))))))))))))))))))))))))))))))))))))))))))))))))))))))))))))))))))))
              (.ret (.w (.c (.b (.bol false))), ⟨[], [], 5906, 9, []⟩))
              (.back 2 6 [(.wr .i64 (.c2 .add (.var 6) (.num 1))), (.c1 .len xPsA83), xPsA83])))))
             (.ret (.w (.c (.b (.bol false))), ⟨[], [], 5906, 9, []⟩))))
            (.ret (.w (.c (.b (.c2 .leq (.var 8) (.var 0)))), ⟨[], [], 5607, 9, []⟩))))))))))))))
      (.ret (.w (.c (.b (.bol false))), ⟨[], [], 5602, 5, []⟩)))
     (.loop 2 5 3 [(.num 0), (.c1 .len (.fn 81 (.var 2) (.var 0) .nil)), (.fn 81 (.var 2) (.var 0) .nil)] [((.c2 .le (.num 0) (.var 5)), true), ((.c2 .le (.num 0) (.var 6)), true), ((.c2 .le (.var 6) (.num 140737488351232)), true), ((.c2 .eq (.c1 .len (.var 7)) (.var 6)), true), ((.c1 (.kin [.u8]) (.var 7)), true)]
      (.split (.c2 .lt (.var 5) (.var 1))
       (.chk (.c2 .le (.c2 .add (.c2 .mul (.var 5) (.num 73)) (.num 1)) (.c1 .len (.var 2)))
       (.split (.c2 .eq (.fn 75 (.var 7) (.c2 .rd (.var 2) (.c2 .mul (.var 5) (.num 73))) .nil) (.num 0))
        (.chk (.c1 (.kin [.u8]) xPsA85)
        (.chk (.c2 .le (.c1 .len xPsA85) (.c1 .len (.var 7)))
        (.chk xPsA10
        (.split (.c1 .not (.c2 .and (.c2 .eq (.wr .u8 (.c2 .rd xPsA86 (.num 0))) (.c2 .rd (.var 2) (.c2 .mul (.var 5) (.num 73)))) (.c2 .and (.c2 .eq (.wr .u8 (.c2 .rd xPsA86 (.num 1))) xPsA11) (.c2 .and (.c2 .eq (.wr .u8 (.c2 .rd xPsA86 (.num 2))) xPsA12) (.c2 .and (.c2 .eq (.wr .u8 (.c2 .rd xPsA86 (.num 3))) xPsA13) (.c2 .and (.c2 .eq (.wr .u8 (.c2 .rd xPsA86 (.num 4))) xPsA14) (.c2 .and (.c2 .eq (.wr .u8 (.c2 .rd xPsA86 (.num 5))) xPsA15) (.c2 .and (.c2 .eq (.wr .u8 (.c2 .rd xPsA86 (.num 6))) xPsA16) (.c2 .and (.c2 .eq (.wr .u8 (.c2 .rd xPsA86 (.num 7))) xPsA17) (.c2 .and (.c2 .eq (.wr .u8 (.c2 .rd xPsA86 (.num 8))) xPsA18) (.c2 .and (.c2 .eq (.wr .u8 (.c2 .rd xPsA86 (.num 9))) xPsA19) (.c2 .and (.c2 .eq (.wr .u8 (.c2 .rd xPsA86 (.num 10))) xPsA20) (.c2 .and (.c2 .eq (.wr .u8 (.c2 .rd xPsA86 (.num 11))) xPsA21) (.c2 .and (.c2 .eq (.wr .u8 (.c2 .rd xPsA86 (.num 12))) xPsA22) (.c2 .and (.c2 .eq (.wr .u16 (.c2 .rd xPsA86 (.num 13))) xPsA23) (.c2 .and (.c2 .eq (.wr .u8 (.c2 .rd xPsA86 (.num 14))) xPsA24) (.c2 .and (.c2 .eq (.wr .u16 (.c2 .rd xPsA86 (.num 15))) xPsA25) (.c2 .and (.c2 .eq (.wr .u16 (.c2 .rd xPsA86 (.num 16))) xPsA26) (.c2 .and (.c2 .eq (.wr .u8 (.c2 .rd xPsA86 (.num 17))) xPsA27) (.c2 .and (.c2 .eq (.wr .u8 (.c2 .rd xPsA86 (.num 18))) xPsA28) (.c2 .and (.c2 .eq (.wr .u8 (.c2 .rd xPsA86 (.num 19))) xPsA29) (.c2 .and (.c2 .eq (.wr .u16 (.c2 .rd xPsA86 (.num 20))) xPsA30) (.c2 .and (.c2 .eq (.wr .u8 (.c2 .rd xPsA86 (.num 21))) xPsA31) (.c2 .and (.c2 .eq (.wr .u8 (.c2 .rd xPsA86 (.num 22))) xPsA32) (.c2 .and (.c2 .eq (.wr .u8 (.c2 .rd xPsA86 (.num 23))) xPsA33) (.c2 .and (.c2 .eq (.wr .u8 (.c2 .rd xPsA86 (.num 24))) xPsA34) (.c2 .and (.c2 .eq (.wr .u8 (.c2 .rd xPsA86 (.num 25))) xPsA35) (.c2 .and (.c2 .eq (.wr .u8 (.c2 .rd xPsA86 (.num 26))) xPsA36) (.c2 .and (.c2 .eq (.wr .u8 (.c2 .rd xPsA86 (.num 27))) xPsA37) (.c2 .and (.c2 .eq (.wr .u8 (.c2 .rd xPsA86 (.num 28))) xPsA38) (.c2 .and (.c2 .eq (.wr .u8 (.c2 .rd xPsA86 (.num 29))) xPsA39) (.c2 .and (.c2 .eq (.wr .u32 (.c2 .rd xPsA86 (.num 30))) xPsA40) (.c2 .and (.c2 .eq (.wr .u8 (.c2 .rd xPsA86 (.num 31))) xPsA41) (.c2 .and (.c2 .eq (.wr .u8 (.c2 .rd xPsA86 (.num 32))) xPsA42) (.c2 .and (.c2 .eq (.wr .u8 (.c2 .rd xPsA86 (.num 33))) xPsA43) (.c2 .and (.c2 .eq (.wr .u8 (.c2 .rd xPsA86 (.num 34))) xPsA44) (.c2 .and (.c2 .eq (.wr .u8 (.c2 .rd xPsA86 (.num 35))) xPsA45) (.c2 .and (.c2 .eq (.wr .u8 (.c2 .rd xPsA86 (.num 36))) xPsA46) (.c2 .and (.c2 .eq (.wr .u8 (.c2 .rd xPsA86 (.num 37))) xPsA47) (.c2 .and (.c2 .eq (.wr .u8 (.c2 .rd xPsA86 (.num 38))) xPsA48) (.c2 .and (.c2 .eq (.wr .u8 (.c2 .rd xPsA86 (.num 39))) xPsA49) (.c2 .and (.c2 .eq (.wr .u8 (.c2 .rd xPsA86 (.num 40))) xPsA50) (.c2 .and (.c2 .eq (.wr .u8 (.c2 .rd xPsA86 (.num 41))) xPsA51) (.c2 .and (.c2 .eq (.wr .u8 (.c2 .rd xPsA86 (.num 42))) xPsA52) (.c2 .and (.c2 .eq (.wr .u8 (.c2 .rd xPsA86 (.num 43))) xPsA53) (.c2 .and (.c2 .eq (.wr .u8 (.c2 .rd xPsA86 (.num 44))) xPsA54) (.c2 .and (.c2 .eq (.wr .u8 (.c2 .rd xPsA86 (.num 45))) xPsA55) (.c2 .and (.c2 .eq (.wr .u8 (.c2 .rd xPsA86 (.num 46))) xPsA56) (.c2 .and (.c2 .eq (.wr .u8 (.c2 .rd xPsA86 (.num 47))) xPsA57) (.c2 .and (.c2 .eq (.wr .u8 (.c2 .rd xPsA86 (.num 48))) xPsA58) (.c2 .and (.c2 .eq (.wr .u8 (.c2 .rd xPsA86 (.num 49))) xPsA59) (.c2 .and (.c2 .eq (.wr .u8 (.c2 .rd xPsA86 (.num 50))) xPsA60) (.c2 .and (.c2 .eq (.wr .u8 (.c2 .rd xPsA86 (.num 51))) xPsA61) (.c2 .and (.c2 .eq (.wr .u8 (.c2 .rd xPsA86 (.num 52))) xPsA62) (.c2 .and (.c2 .eq (.wr .u8 (.c2 .rd xPsA86 (.num 53))) xPsA63) (.c2 .and (.c2 .eq (.wr .u8 (.c2 .rd xPsA86 (.num 54))) xPsA64) (.c2 .and (.c2 .eq (.wr .u8 (.c2 .rd xPsA86 (.num 55))) xPsA65) (.c2 .and (.c2 .eq (.wr .u8 (.c2 .rd xPsA86 (.num 56))) xPsA66) (.c2 .and (.c2 .eq (.wr .u8 (.c2 .rd xPsA86 (.num 57))) xPsA67) (.c2 .and (.c2 .eq (.wr .u8 (.c2 .rd xPsA86 (.num 58))) xPsA68) (.c2 .and (.c2 .eq (.wr .u8 (.c2 .rd xPsA86 (.num 59))) xPsA69) (.c2 .and (.c2 .eq (.wr .u8 (.c2 .rd xPsA86 (.num 60))) xPsA70) (.c2 .and (.c2 .eq (.wr .u8 (.c2 .rd xPsA86 (.num 61))) xPsA71) (.c2 .and (.c2 .eq (.wr .u8 (.c2 .rd xPsA86 (.num 62))) xPsA72) (.c2 .and (.c2 .eq (.wr .u8 (.c2 .rd xPsA86 (.num 63))) xPsA73) (.c2 .and (.c2 .eq (.wr .u8 (.c2 .rd xPsA86 (.num 64))) xPsA74) (.c2 .and (.c2 .eq (.wr .u16 (.c2 .rd xPsA86 (.num 65))) xPsA75) (.c2 .and (.c2 .eq (.wr .u16 (.c2 .rd xPsA86 (.num 66))) xPsA76) (.c2 .and (.c2 .eq (.wr .u32 (.c2 .rd xPsA86 (.num 67))) xPsA77) (.c2 .and (.c2 .eq (.wr .u32 (.c2 .rd xPsA86 (.num 68))) xPsA78) (.c2 .and (.c2 .eq (.wr .u8 (.c2 .rd xPsA86 (.num 69))) xPsA79) (.c2 .and (.c2 .eq (.wr .u16 (.c2 .rd xPsA86 (.num 70))) xPsA80) (.c2 .and (.c2 .eq (.wr .u16 (.c2 .rd xPsA86 (.num 71))) xPsA81) (.c2 .eq (.wr .u16 (.c2 .rd xPsA86 (.num 72))) xPsA82))))))))))))))))))))))))))))))))))))))))))))))))))))))))))))))))))))))))))
         (.ret (.w (.c (.b (.bol false))), ⟨[], [], 5704, 8, []⟩))
         (.back 2 5 [(.wr .i64 (.c2 .add (.var 5) (.num 1))), (.c1 .len xPsA85), xPsA85])))))
        (.ret (.w (.c (.b (.bol false))), ⟨[], [], 5704, 8, []⟩))))
       (.ret (.w (.c (.b (.c2 .leq (.var 7) (.var 0)))), ⟨[], [], 5405, 8, []⟩)))))))
  (.loop 0 3 2 [(.num 0), (.bol false)] [((.c2 .le (.num 0) (.var 3)), true)]
   (.split (.var 4)
    (.split xPsA2
     (.chk xPsA3
     (.chk xPsA4
     (.chk xPsA6
     (.chk xPsA7
     (.chk xPsA8
     (.chk xPsA9
     (.ret (.w (.c (.b (.bol false))), ⟨[], [], 5602, 5, []⟩))))))))
     (.ret (.w (.c (.b (.bol false))), ⟨[], [], 5602, 5, []⟩)))
    (.loop 2 5 3 [(.num 0), (.c1 .len (.fn 81 (.var 2) (.var 0) .nil)), (.fn 81 (.var 2) (.var 0) .nil)] [((.c2 .le (.num 0) (.var 5)), true), ((.c2 .le (.num 0) (.var 6)), true), ((.c2 .le (.var 6) (.num 140737488351232)), true), ((.c2 .eq (.c1 .len (.var 7)) (.var 6)), true), ((.c1 (.kin [.u8]) (.var 7)), true)]
     (.ret (.w (.c (.b (.c2 .leq (.var 7) (.var 0)))), ⟨[], [], 5405, 8, []⟩))))))))
 (.ret (.w (.c (.b (.bol true))), ⟨[], [], 5402, 3, []⟩)))
theorem treePsA_is : funTree (ctxN Go.Proofs.Tryz.prog annsPs consPs 8) annsPs 6 tWPeelsA.vs tWPeelsA.bs tWPeelsA.n (preF tWPeelsA.res) = treePsA := by kernel_rfl
end Go.Proofs.YtfhjlimdakphcaaGreat.Sx
set_option maxRecDepth 100000
namespace Go.Proofs.YtfhjlimdakphcaaGreat.Sx
open Go
def xPsB0 : T := (.c1 .len (.fn 81 (.c2 .take (.num 584) (.var 2)) (.var 0) .nil))
def xPsB1 : T := (.wr .u8 (.fn 54 (.cons (.c2 .rd (.var 2) (.c2 .mul (.var 3) (.num 73))) (.cons (.c2 .rd (.var 2) (.c2 .add (.c2 .mul (.var 3) (.num 73)) (.num 1))) (.cons (.c2 .rd (.var 2) (.c2 .add (.c2 .mul (.var 3) (.num 73)) (.num 2))) (.cons (.c2 .rd (.var 2) (.c2 .add (.c2 .mul (.var 3) (.num 73)) (.num 3))) (.cons (.c2 .rd (.var 2) (.c2 .add (.c2 .mul (.var 3) (.num 73)) (.num 4))) (.cons (.c2 .rd (.var 2) (.c2 .add (.c2 .mul (.var 3) (.num 73)) (.num 5))) (.cons (.c2 .rd (.var 2) (.c2 .add (.c2 .mul (.var 3) (.num 73)) (.num 6))) (.cons (.c2 .rd (.var 2) (.c2 .add (.c2 .mul (.var 3) (.num 73)) (.num 7))) (.cons (.c2 .rd (.var 2) (.c2 .add (.c2 .mul (.var 3) (.num 73)) (.num 8))) (.cons (.c2 .rd (.var 2) (.c2 .add (.c2 .mul (.var 3) (.num 73)) (.num 9))) (.cons (.c2 .rd (.var 2) (.c2 .add (.c2 .mul (.var 3) (.num 73)) (.num 10))) (.cons (.c2 .rd (.var 2) (.c2 .add (.c2 .mul (.var 3) (.num 73)) (.num 11))) (.cons (.c2 .rd (.var 2) (.c2 .add (.c2 .mul (.var 3) (.num 73)) (.num 12))) (.cons (.c2 .rd (.var 2) (.c2 .add (.c2 .mul (.var 3) (.num 73)) (.num 13))) (.cons (.c2 .rd (.var 2) (.c2 .add (.c2 .mul (.var 3) (.num 73)) (.num 14))) (.cons (.c2 .rd (.var 2) (.c2 .add (.c2 .mul (.var 3) (.num 73)) (.num 15))) (.cons (.c2 .rd (.var 2) (.c2 .add (.c2 .mul (.var 3) (.num 73)) (.num 16))) (.cons (.c2 .rd (.var 2) (.c2 .add (.c2 .mul (.var 3) (.num 73)) (.num 17))) (.cons (.c2 .rd (.var 2) (.c2 .add (.c2 .mul (.var 3) (.num 73)) (.num 18))) (.cons (.c2 .rd (.var 2) (.c2 .add (.c2 .mul (.var 3) (.num 73)) (.num 19))) (.cons (.c2 .rd (.var 2) (.c2 .add (.c2 .mul (.var 3) (.num 73)) (.num 20))) (.cons (.c2 .rd (.var 2) (.c2 .add (.c2 .mul (.var 3) (.num 73)) (.num 21))) (.cons (.c2 .rd (.var 2) (.c2 .add (.c2 .mul (.var 3) (.num 73)) (.num 22))) (.cons (.c2 .rd (.var 2) (.c2 .add (.c2 .mul (.var 3) (.num 73)) (.num 23))) (.cons (.c2 .rd (.var 2) (.c2 .add (.c2 .mul (.var 3) (.num 73)) (.num 24))) (.cons (.c2 .rd (.var 2) (.c2 .add (.c2 .mul (.var 3) (.num 73)) (.num 25))) (.cons (.c2 .rd (.var 2) (.c2 .add (.c2 .mul (.var 3) (.num 73)) (.num 26))) (.cons (.c2 .rd (.var 2) (.c2 .add (.c2 .mul (.var 3) (.num 73)) (.num 27))) (.cons (.c2 .rd (.var 2) (.c2 .add (.c2 .mul (.var 3) (.num 73)) (.num 28))) (.cons (.c2 .rd (.var 2) (.c2 .add (.c2 .mul (.var 3) (.num 73)) (.num 29))) (.cons (.c2 .rd (.var 2) (.c2 .add (.c2 .mul (.var 3) (.num 73)) (.num 30))) (.cons (.c2 .rd (.var 2) (.c2 .add (.c2 .mul (.var 3) (.num 73)) (.num 31))) (.cons (.c2 .rd (.var 2) (.c2 .add (.c2 .mul (.var 3) (.num 73)) (.num 32))) (.cons (.c2 .rd (.var 2) (.c2 .add (.c2 .mul (.var 3) (.num 73)) (.num 33))) (.cons (.c2 .rd (.var 2) (.c2 .add (.c2 .mul (.var 3) (.num 73)) (.num 34))) (.cons (.c2 .rd (.var 2) (.c2 .add (.c2 .mul (.var 3) (.num 73)) (.num 35))) (.cons (.c2 .rd (.var 2) (.c2 .add (.c2 .mul (.var 3) (.num 73)) (.num 36))) (.cons (.c2 .rd (.var 2) (.c2 .add (.c2 .mul (.var 3) (.num 73)) (.num 37))) (.cons (.c2 .rd (.var 2) (.c2 .add (.c2 .mul (.var 3) (.num 73)) (.num 38))) (.cons (.c2 .rd (.var 2) (.c2 .add (.c2 .mul (.var 3) (.num 73)) (.num 39))) (.cons (.c2 .rd (.var 2) (.c2 .add (.c2 .mul (.var 3) (.num 73)) (.num 40))) (.cons (.c2 .rd (.var 2) (.c2 .add (.c2 .mul (.var 3) (.num 73)) (.num 41))) (.cons (.c2 .rd (.var 2) (.c2 .add (.c2 .mul (.var 3) (.num 73)) (.num 42))) (.cons (.c2 .rd (.var 2) (.c2 .add (.c2 .mul (.var 3) (.num 73)) (.num 43))) (.cons (.c2 .rd (.var 2) (.c2 .add (.c2 .mul (.var 3) (.num 73)) (.num 44))) (.cons (.c2 .rd (.var 2) (.c2 .add (.c2 .mul (.var 3) (.num 73)) (.num 45))) (.cons (.c2 .rd (.var 2) (.c2 .add (.c2 .mul (.var 3) (.num 73)) (.num 46))) (.cons (.c2 .rd (.var 2) (.c2 .add (.c2 .mul (.var 3) (.num 73)) (.num 47))) (.cons (.c2 .rd (.var 2) (.c2 .add (.c2 .mul (.var 3) (.num 73)) (.num 48))) (.cons (.c2 .rd (.var 2) (.c2 .add (.c2 .mul (.var 3) (.num 73)) (.num 49))) (.cons (.c2 .rd (.var 2) (.c2 .add (.c2 .mul (.var 3) (.num 73)) (.num 50))) (.cons (.c2 .rd (.var 2) (.c2 .add (.c2 .mul (.var 3) (.num 73)) (.num 51))) (.cons (.c2 .rd (.var 2) (.c2 .add (.c2 .mul (.var 3) (.num 73)) (.num 52))) (.cons (.c2 .rd (.var 2) (.c2 .add (.c2 .mul (.var 3) (.num 73)) (.num 53))) (.cons (.c2 .rd (.var 2) (.c2 .add (.c2 .mul (.var 3) (.num 73)) (.num 54))) (.cons (.c2 .rd (.var 2) (.c2 .add (.c2 .mul (.var 3) (.num 73)) (.num 55))) (.cons (.c2 .rd (.var 2) (.c2 .add (.c2 .mul (.var 3) (.num 73)) (.num 56))) (.cons (.c2 .rd (.var 2) (.c2 .add (.c2 .mul (.var 3) (.num 73)) (.num 57))) (.cons (.c2 .rd (.var 2) (.c2 .add (.c2 .mul (.var 3) (.num 73)) (.num 58))) (.cons (.c2 .rd (.var 2) (.c2 .add (.c2 .mul (.var 3) (.num 73)) (.num 59))) (.cons (.c2 .rd (.var 2) (.c2 .add (.c2 .mul (.var 3) (.num 73)) (.num 60))) (.cons (.c2 .rd (.var 2) (.c2 .add (.c2 .mul (.var 3) (.num 73)) (.num 61))) (.cons (.c2 .rd (.var 2) (.c2 .add (.c2 .mul (.var 3) (.num 73)) (.num 62))) (.cons (.c2 .rd (.var 2) (.c2 .add (.c2 .mul (.var 3) (.num 73)) (.num 63))) (.cons (.c2 .rd (.var 2) (.c2 .add (.c2 .mul (.var 3) (.num 73)) (.num 64))) (.cons (.c2 .rd (.var 2) (.c2 .add (.c2 .mul (.var 3) (.num 73)) (.num 65))) (.cons (.c2 .rd (.var 2) (.c2 .add (.c2 .mul (.var 3) (.num 73)) (.num 66))) (.cons (.c2 .rd (.var 2) (.c2 .add (.c2 .mul (.var 3) (.num 73)) (.num 67))) (.cons (.c2 .rd (.var 2) (.c2 .add (.c2 .mul (.var 3) (.num 73)) (.num 68))) (.cons (.c2 .rd (.var 2) (.c2 .add (.c2 .mul (.var 3) (.num 73)) (.num 69))) (.cons (.c2 .rd (.var 2) (.c2 .add (.c2 .mul (.var 3) (.num 73)) (.num 70))) (.cons (.c2 .rd (.var 2) (.c2 .add (.c2 .mul (.var 3) (.num 73)) (.num 71))) (.cons (.c2 .rd (.var 2) (.c2 .add (.c2 .mul (.var 3) (.num 73)) (.num 72))) .nil))))))))))))))))))))))))))))))))))))))))))))))))))))))))))))))))))))))))) .nil .nil))
def xPsB2 : T := (.fn 52 (.fn 81 (.c2 .take (.num 584) (.var 2)) (.var 0) .nil) .nil .nil)
def xPsB3 : T := (.fn 50 (.fn 81 (.c2 .take (.num 584) (.var 2)) (.var 0) .nil) .nil .nil)
def xPsB4 : T := (.fn 53 (.fn 81 (.c2 .take (.num 584) (.var 2)) (.var 0) .nil) .nil .nil)
def xPsB5 : T := (.c2 .rd (.var 2) (.c2 .add (.c2 .mul (.var 5) (.num 73)) (.num 1)))
def xPsB6 : T := (.c2 .rd (.var 2) (.c2 .add (.c2 .mul (.var 5) (.num 73)) (.num 2)))
def xPsB7 : T := (.c2 .rd (.var 2) (.c2 .add (.c2 .mul (.var 5) (.num 73)) (.num 3)))
def xPsB8 : T := (.c2 .rd (.var 2) (.c2 .add (.c2 .mul (.var 5) (.num 73)) (.num 4)))
def xPsB9 : T := (.c2 .rd (.var 2) (.c2 .add (.c2 .mul (.var 5) (.num 73)) (.num 5)))
def xPsB10 : T := (.c2 .rd (.var 2) (.c2 .add (.c2 .mul (.var 5) (.num 73)) (.num 6)))
def xPsB11 : T := (.c2 .rd (.var 2) (.c2 .add (.c2 .mul (.var 5) (.num 73)) (.num 7)))
def xPsB12 : T := (.c2 .rd (.var 2) (.c2 .add (.c2 .mul (.var 5) (.num 73)) (.num 8)))
def xPsB13 : T := (.c2 .rd (.var 2) (.c2 .add (.c2 .mul (.var 5) (.num 73)) (.num 9)))
def xPsB14 : T := (.c2 .rd (.var 2) (.c2 .add (.c2 .mul (.var 5) (.num 73)) (.num 10)))
def xPsB15 : T := (.c2 .rd (.var 2) (.c2 .add (.c2 .mul (.var 5) (.num 73)) (.num 11)))
def xPsB16 : T := (.c2 .rd (.var 2) (.c2 .add (.c2 .mul (.var 5) (.num 73)) (.num 12)))
def xPsB17 : T := (.c2 .rd (.var 2) (.c2 .add (.c2 .mul (.var 5) (.num 73)) (.num 13)))
def xPsB18 : T := (.c2 .rd (.var 2) (.c2 .add (.c2 .mul (.var 5) (.num 73)) (.num 14)))
def xPsB19 : T := (.c2 .rd (.var 2) (.c2 .add (.c2 .mul (.var 5) (.num 73)) (.num 15)))
def xPsB20 : T := (.c2 .rd (.var 2) (.c2 .add (.c2 .mul (.var 5) (.num 73)) (.num 16)))
def xPsB21 : T := (.c2 .rd (.var 2) (.c2 .add (.c2 .mul (.var 5) (.num 73)) (.num 17)))
def xPsB22 : T := (.c2 .rd (.var 2) (.c2 .add (.c2 .mul (.var 5) (.num 73)) (.num 18)))
def xPsB23 : T := (.c2 .rd (.var 2) (.c2 .add (.c2 .mul (.var 5) (.num 73)) (.num 19)))
def xPsB24 : T := (.c2 .rd (.var 2) (.c2 .add (.c2 .mul (.var 5) (.num 73)) (.num 20)))
def xPsB25 : T := (.c2 .rd (.var 2) (.c2 .add (.c2 .mul (.var 5) (.num 73)) (.num 21)))
def xPsB26 : T := (.c2 .rd (.var 2) (.c2 .add (.c2 .mul (.var 5) (.num 73)) (.num 22)))
def xPsB27 : T := (.c2 .rd (.var 2) (.c2 .add (.c2 .mul (.var 5) (.num 73)) (.num 23)))
def xPsB28 : T := (.c2 .rd (.var 2) (.c2 .add (.c2 .mul (.var 5) (.num 73)) (.num 24)))
def xPsB29 : T := (.c2 .rd (.var 2) (.c2 .add (.c2 .mul (.var 5) (.num 73)) (.num 25)))
def xPsB30 : T := (.c2 .rd (.var 2) (.c2 .add (.c2 .mul (.var 5) (.num 73)) (.num 26)))
def xPsB31 : T := (.c2 .rd (.var 2) (.c2 .add (.c2 .mul (.var 5) (.num 73)) (.num 27)))
def xPsB32 : T := (.c2 .rd (.var 2) (.c2 .add (.c2 .mul (.var 5) (.num 73)) (.num 28)))
def xPsB33 : T := (.c2 .rd (.var 2) (.c2 .add (.c2 .mul (.var 5) (.num 73)) (.num 29)))
def xPsB34 : T := (.c2 .rd (.var 2) (.c2 .add (.c2 .mul (.var 5) (.num 73)) (.num 30)))
def xPsB35 : T := (.c2 .rd (.var 2) (.c2 .add (.c2 .mul (.var 5) (.num 73)) (.num 31)))
def xPsB36 : T := (.c2 .rd (.var 2) (.c2 .add (.c2 .mul (.var 5) (.num 73)) (.num 32)))
def xPsB37 : T := (.c2 .rd (.var 2) (.c2 .add (.c2 .mul (.var 5) (.num 73)) (.num 33)))
def xPsB38 : T := (.c2 .rd (.var 2) (.c2 .add (.c2 .mul (.var 5) (.num 73)) (.num 34)))
def xPsB39 : T := (.c2 .rd (.var 2) (.c2 .add (.c2 .mul (.var 5) (.num 73)) (.num 35)))
def xPsB40 : T := (.c2 .rd (.var 2) (.c2 .add (.c2 .mul (.var 5) (.num 73)) (.num 36)))
def xPsB41 : T := (.c2 .rd (.var 2) (.c2 .add (.c2 .mul (.var 5) (.num 73)) (.num 37)))
def xPsB42 : T := (.c2 .rd (.var 2) (.c2 .add (.c2 .mul (.var 5) (.num 73)) (.num 38)))
def xPsB43 : T := (.c2 .rd (.var 2) (.c2 .add (.c2 .mul (.var 5) (.num 73)) (.num 39)))
def xPsB44 : T := (.c2 .rd (.var 2) (.c2 .add (.c2 .mul (.var 5) (.num 73)) (.num 40)))
def xPsB45 : T := (.c2 .rd (.var 2) (.c2 .add (.c2 .mul (.var 5) (.num 73)) (.num 41)))
def xPsB46 : T := (.c2 .rd (.var 2) (.c2 .add (.c2 .mul (.var 5) (.num 73)) (.num 42)))
def xPsB47 : T := (.c2 .rd (.var 2) (.c2 .add (.c2 .mul (.var 5) (.num 73)) (.num 43)))
def xPsB48 : T := (.c2 .rd (.var 2) (.c2 .add (.c2 .mul (.var 5) (.num 73)) (.num 44)))
def xPsB49 : T := (.c2 .rd (.var 2) (.c2 .add (.c2 .mul (.var 5) (.num 73)) (.num 45)))
def xPsB50 : T := (.c2 .rd (.var 2) (.c2 .add (.c2 .mul (.var 5) (.num 73)) (.num 46)))
def xPsB51 : T := (.c2 .rd (.var 2) (.c2 .add (.c2 .mul (.var 5) (.num 73)) (.num 47)))
def xPsB52 : T := (.c2 .rd (.var 2) (.c2 .add (.c2 .mul (.var 5) (.num 73)) (.num 48)))
def xPsB53 : T := (.c2 .rd (.var 2) (.c2 .add (.c2 .mul (.var 5) (.num 73)) (.num 49)))
def xPsB54 : T := (.c2 .rd (.var 2) (.c2 .add (.c2 .mul (.var 5) (.num 73)) (.num 50)))
def xPsB55 : T := (.c2 .rd (.var 2) (.c2 .add (.c2 .mul (.var 5) (.num 73)) (.num 51)))
def xPsB56 : T := (.c2 .rd (.var 2) (.c2 .add (.c2 .mul (.var 5) (.num 73)) (.num 52)))
def xPsB57 : T := (.c2 .rd (.var 2) (.c2 .add (.c2 .mul (.var 5) (.num 73)) (.num 53)))
def xPsB58 : T := (.c2 .rd (.var 2) (.c2 .add (.c2 .mul (.var 5) (.num 73)) (.num 54)))
def xPsB59 : T := (.c2 .rd (.var 2) (.c2 .add (.c2 .mul (.var 5) (.num 73)) (.num 55)))
def xPsB60 : T := (.c2 .rd (.var 2) (.c2 .add (.c2 .mul (.var 5) (.num 73)) (.num 56)))
def xPsB61 : T := (.c2 .rd (.var 2) (.c2 .add (.c2 .mul (.var 5) (.num 73)) (.num 57)))
def xPsB62 : T := (.c2 .rd (.var 2) (.c2 .add (.c2 .mul (.var 5) (.num 73)) (.num 58)))
def xPsB63 : T := (.c2 .rd (.var 2) (.c2 .add (.c2 .mul (.var 5) (.num 73)) (.num 59)))
def xPsB64 : T := (.c2 .rd (.var 2) (.c2 .add (.c2 .mul (.var 5) (.num 73)) (.num 60)))
def xPsB65 : T := (.c2 .rd (.var 2) (.c2 .add (.c2 .mul (.var 5) (.num 73)) (.num 61)))
def xPsB66 : T := (.c2 .rd (.var 2) (.c2 .add (.c2 .mul (.var 5) (.num 73)) (.num 62)))
def xPsB67 : T := (.c2 .rd (.var 2) (.c2 .add (.c2 .mul (.var 5) (.num 73)) (.num 63)))
def xPsB68 : T := (.c2 .rd (.var 2) (.c2 .add (.c2 .mul (.var 5) (.num 73)) (.num 64)))
def xPsB69 : T := (.c2 .rd (.var 2) (.c2 .add (.c2 .mul (.var 5) (.num 73)) (.num 65)))
def xPsB70 : T := (.c2 .rd (.var 2) (.c2 .add (.c2 .mul (.var 5) (.num 73)) (.num 66)))
def xPsB71 : T := (.c2 .rd (.var 2) (.c2 .add (.c2 .mul (.var 5) (.num 73)) (.num 67)))
def xPsB72 : T := (.c2 .rd (.var 2) (.c2 .add (.c2 .mul (.var 5) (.num 73)) (.num 68)))
def xPsB73 : T := (.c2 .rd (.var 2) (.c2 .add (.c2 .mul (.var 5) (.num 73)) (.num 69)))
def xPsB74 : T := (.c2 .rd (.var 2) (.c2 .add (.c2 .mul (.var 5) (.num 73)) (.num 70)))
def xPsB75 : T := (.c2 .rd (.var 2) (.c2 .add (.c2 .mul (.var 5) (.num 73)) (.num 71)))
def xPsB76 : T := (.c2 .rd (.var 2) (.c2 .add (.c2 .mul (.var 5) (.num 73)) (.num 72)))
def xPsB77 : T := (.fn 77 (.var 8) (.c2 .rd (.var 2) (.c2 .mul (.var 6) (.num 73))) .nil)
def xPsB78 : T := (.fn 76 (.var 8) (.c2 .rd (.var 2) (.c2 .mul (.var 6) (.num 73))) .nil)
def xPsB79 : T := (.fn 77 (.var 7) (.c2 .rd (.var 2) (.c2 .mul (.var 5) (.num 73))) .nil)
def xPsB80 : T := (.fn 76 (.var 7) (.c2 .rd (.var 2) (.c2 .mul (.var 5) (.num 73))) .nil)
def treePsB : M (V × St) :=
(.split (.c2 .eq (.fn 80 (.c2 .take (.num 584) (.var 2)) (.var 0) .nil) (.num 0))
 (.chk (.c1 (.kin [.u8]) (.fn 81 (.c2 .take (.num 584) (.var 2)) (.var 0) .nil))
 (.chk (.c2 .le xPsB0 (.num 140737488351232))
 (.loop 0 3 2 [(.num 0), (.c2 .eq (.c2 .rd (.var 2) (.num 0)) (.num 1))] [((.c2 .le (.num 0) (.var 3)), true)]
  (.split (.c2 .lt (.var 3) (.num 8))
   (.split (.var 4)
    (.split (.c2 .beq (.c1 .not (.c2 .eq xPsB1 (.num 0))) (.c2 .lt (.var 3) (.num 7)))
     (.split (.c2 .eq xPsB1 (.num 0))
      (.back 0 3 [(.c2 .add (.var 3) (.num 1)), (.bol true)])
      (.chk (.c2 .lt (.var 3) (.num 7))
      (.back 0 3 [(.c2 .add (.var 3) (.num 1)), (.c2 .eq xPsB1 (.c2 .rd (.var 2) (.c2 .mul (.c2 .add (.var 3) (.num 1)) (.num 73))))])))
     (.back 0 3 [(.c2 .add (.var 3) (.num 1)), (.bol false)]))
    (.back 0 3 [(.c2 .add (.var 3) (.num 1)), (.bol false)]))
   (.split (.var 4)
    (.split (.c2 .eq (.fn 51 (.fn 81 (.c2 .take (.num 584) (.var 2)) (.var 0) .nil) .nil .nil) (.num 0))
     (.chk (.c2 .le (.num 1) xPsB2)
     (.chk (.c2 .le xPsB2 (.num 8))
     (.chk (.c2 .eq (.c1 .len xPsB3) (.c2 .mul xPsB2 (.num 73)))
     (.chk (.c1 (.kin [.u8, .u8, .u8, .u8, .u8, .u8, .u8, .u8, .u8, .u8, .u8, .u8, .u8, .u16, .u8, .u16, .u16, .u8, .u8, .u8, .u16, .u8, .u8, .u8, .u8, .u8, .u8, .u8, .u8, .u8, .u32, .u8, .u8, .u8, .u8, .u8, .u8, .u8, .u8, .u8, .u8, .u8, .u8, .u8, .u8, .u8, .u8, .u8, .u8, .u8, .u8, .u8, .u8, .u8, .u8, .u8, .u8, .u8, .u8, .u8, .u8, .u8, .u8, .u8, .u8, .u16, .u16, .u32, .u32, .u8, .u16, .u16, .u16]) xPsB3)
     (.chk (.c1 (.kin [.u8]) xPsB4)
     (.chk (.c2 .le (.c1 .len xPsB4) xPsB0)
     (.split (.c1 .not (.c2 .eq xPsB2 (.num 8)))
      (.ret (.w (.c (.b (.bol false))), ⟨[], [], 5602, 5, []⟩))
      (.split (.c1 .not (.c2 .leq xPsB4 (.var 0)))
       (.ret (.w (.c (.b (.bol false))), ⟨[], [], 5604, 5, []⟩))
       (.loop 1 5 1 [(.num 0)] [((.c2 .le (.num 0) (.var 5)), true)]
        (.split (.c2 .lt (.var 5) (.num 8))
         (.split (.c1 .not (.c2 .and (.c2 .eq (.c2 .rd xPsB3 (.c2 .mul (.var 5) (.num 73))) (.c2 .rd (.var 2) (.c2 .mul (.var 5) (.num 73)))) (.c2 .and (.c2 .eq (.c2 .rd xPsB3 (.c2 .add (.c2 .mul (.var 5) (.num 73)) (.num 1))) xPsB5) (.c2 .and (.c2 .eq (.c2 .rd xPsB3 (.c2 .add (.c2 .mul (.var 5) (.num 73)) (.num 2))) xPsB6) (.c2 .and (.c2 .eq (.c2 .rd xPsB3 (.c2 .add (.c2 .mul (.var 5) (.num 73)) (.num 3))) xPsB7) (.c2 .and (.c2 .eq (.c2 .rd xPsB3 (.c2 .add (.c2 .mul (.var 5) (.num 73)) (.num 4))) xPsB8) (.c2 .and (.c2 .eq (.c2 .rd xPsB3 (.c2 .add (.c2 .mul (.var 5) (.num 73)) (.num 5))) xPsB9) (.c2 .and (.c2 .eq (.c2 .rd xPsB3 (.c2 .add (.c2 .mul (.var 5) (.num 73)) (.num 6))) xPsB10) (.c2 .and (.c2 .eq (.c2 .rd xPsB3 (.c2 .add (.c2 .mul (.var 5) (.num 73)) (.num 7))) xPsB11) (.c2 .and (.c2 .eq (.c2 .rd xPsB3 (.c2 .add (.c2 .mul (.var 5) (.num 73)) (.num 8))) xPsB12) (.c2 .and (.c2 .eq (.c2 .rd xPsB3 (.c2 .add (.c2 .mul (.var 5) (.num 73)) (.num 9))) xPsB13) (.c2 .and (.c2 .eq (.c2 .rd xPsB3 (.c2 .add (.c2 .mul (.var 5) (.num 73)) (.num 10))) xPsB14) (.c2 .and (.c2 .eq (.c2 .rd xPsB3 (.c2 .add (.c2 .mul (.var 5) (.num 73)) (.num 11))) xPsB15) (.c2 .and (.c2 .eq (.c2 .rd xPsB3 (.c2 .add (.c2 .mul (.var 5) (.num 73)) (.num 12))) xPsB16) (.c2 .and (.c2 .eq (.c2 .rd xPsB3 (.c2 .add (.c2 .mul (.var 5) (.num 73)) (.num 13))) xPsB17) (.c2 .and (.c2 .eq (.c2 .rd xPsB3 (.c2 .add (.c2 .mul (.var 5) (.num 73)) (.num 14))) xPsB18) (.c2 .and (.c2 .eq (.c2 .rd xPsB3 (.c2 .add (.c2 .mul (.var 5) (.num 73)) (.num 15))) xPsB19) (.c2 .and (.c2 .eq (.c2 .rd xPsB3 (.c2 .add (.c2 .mul (.var 5) (.num 73)) (.num 16))) xPsB20) (.c2 .and (.c2 .eq (.c2 .rd xPsB3 (.c2 .add (.c2 .mul (.var 5) (.num 73)) (.num 17))) xPsB21) (.c2 .and (.c2 .eq (.c2 .rd xPsB3 (.c2 .add (.c2 .mul (.var 5) (.num 73)) (.num 18))) xPsB22) (.c2 .and (.c2 .eq (.c2 .rd xPsB3 (.c2 .add (.c2 .mul (.var 5) (.num 73)) (.num 19))) xPsB23) (.c2 .and (.c2 .eq (.c2 .rd xPsB3 (.c2 .add (.c2 .mul (.var 5) (.num 73)) (.num 20))) xPsB24) (.c2 .and (.c2 .eq (.c2 .rd xPsB3 (.c2 .add (.c2 .mul (.var 5) (.num 73)) (.num 21))) xPsB25) (.c2 .and (.c2 .eq (.c2 .rd xPsB3 (.c2 .add (.c2 .mul (.var 5) (.num 73)) (.num 22))) xPsB26) (.c2 .and (.c2 .eq (.c2 .rd xPsB3 (.c2 .add (.c2 .mul (.var 5) (.num 73)) (.num 23))) xPsB27) (.c2 .and (.c2 .eq (.c2 .rd xPsB3 (.c2 .add (.c2 .mul (.var 5) (.num 73)) (.num 24))) xPsB28) (.c2 .and (.c2 .eq (.c2 .rd xPsB3 (.c2 .add (.c2 .mul (.var 5) (.num 73)) (.num 25))) xPsB29) (.c2 .and (.c2 .eq (.c2 .rd xPsB3 (.c2 .add (.c2 .mul (.var 5) (.num 73)) (.num 26))) xPsB30) (.c2 .and (.c2 .eq (.c2 .rd xPsB3 (.c2 .add (.c2 .mul (.var 5) (.num 73)) (.num 27))) xPsB31) (.c2 .and (.c2 .eq (.c2 .rd xPsB3 (.c2 .add (.c2 .mul (.var 5) (.num 73)) (.num 28))) xPsB32) (.c2 .and (.c2 .eq (.c2 .rd xPsB3 (.c2 .add (.c2 .mul (.var 5) (.num 73)) (.num 29))) xPsB33) (.c2 .and (.c2 .eq (.c2 .rd xPsB3 (.c2 .add (.c2 .mul (.var 5) (.num 73)) (.num 30))) xPsB34) (.c2 .and (.c2 .eq (.c2 .rd xPsB3 (.c2 .add (.c2 .mul (.var 5) (.num 73)) (.num 31))) xPsB35) (.c2 .and (.c2 .eq (.c2 .rd xPsB3 (.c2 .add (.c2 .mul (.var 5) (.num 73)) (.num 32))) xPsB36) (.c2 .and (.c2 .eq (.c2 .rd xPsB3 (.c2 .add (.c2 .mul (.var 5) (.num 73)) (.num 33))) xPsB37) (.c2 .and (.c2 .eq (.c2 .rd xPsB3 (.c2 .add (.c2 .mul (.var 5) (.num 73)) (.num 34))) xPsB38) (.c2 .and (.c2 .eq (.c2 .rd xPsB3 (.c2 .add (.c2 .mul (.var 5) (.num 73)) (.num 35))) xPsB39) (.c2 .and (.c2 .eq (.c2 .rd xPsB3 (.c2 .add (.c2 .mul (.var 5) (.num 73)) (.num 36))) xPsB40) (.c2 .and (.c2 .eq (.c2 .rd xPsB3 (.c2 .add (.c2 .mul (.var 5) (.num 73)) (.num 37))) xPsB41) (.c2 .and (.c2 .eq (.c2 .rd xPsB3 (.c2 .add (.c2 .mul (.var 5) (.num 73)) (.num 38))) xPsB42) (.c2 .and (.c2 .eq (.c2 .rd xPsB3 (.c2 .add (.c2 .mul (.var 5) (.num 73)) (.num 39))) xPsB43) (.c2 .and (.c2 .eq (.c2 .rd xPsB3 (.c2 .add (.c2 .mul (.var 5) (.num 73)) (.num 40))) xPsB44) (.c2 .and (.c2 .eq (.c2 .rd xPsB3 (.c2 .add (.c2 .mul (.var 5) (.num 73)) (.num 41))) xPsB45) (.c2 .and (.c2 .eq (.c2 .rd xPsB3 (.c2 .add (.c2 .mul (.var 5) (.num 73)) (.num 42))) xPsB46) (.c2 .and (.c2 .eq (.c2 .rd xPsB3 (.c2 .add (.c2 .mul (.var 5) (.num 73)) (.num 43))) xPsB47) (.c2 .and (.c2 .eq (.c2 .rd xPsB3 (.c2 .add (.c2 .mul (.var 5) (.num 73)) (.num 44))) xPsB48) (.c2 .and (.c2 .eq (.c2 .rd xPsB3 (.c2 .add (.c2 .mul (.var 5) (.num 73)) (.num 45))) xPsB49) (.c2 .and (.c2 .eq (.c2 .rd xPsB3 (.c2 .add (.c2 .mul (.var 5) (.num 73)) (.num 46))) xPsB50) (.c2 .and (.c2 .eq (.c2 .rd xPsB3 (.c2 .add (.c2 .mul (.var 5) (.num 73)) (.num 47))) xPsB51) (.c2 .and (.c2 .eq (.c2 .rd xPsB3 (.c2 .add (.c2 .mul (.var 5) (.num 73)) (.num 48))) xPsB52) (.c2 .and (.c2 .eq (.c2 .rd xPsB3 (.c2 .add (.c2 .mul (.var 5) (.num 73)) (.num 49))) xPsB53) (.c2 .and (.c2 .eq (.c2 .rd xPsB3 (.c2 .add (.c2 .mul (.var 5) (.num 73)) (.num 50))) xPsB54) (.c2 .and (.c2 .eq (.c2 .rd xPsB3 (.c2 .add (.c2 .mul (.var 5) (.num 73)) (.num 51))) xPsB55) (.c2 .and (.c2 .eq (.c2 .rd xPsB3 (.c2 .add (.c2 .mul (.var 5) (.num 73)) (.num 52))) xPsB56) (.c2 .and (.c2 .eq (.c2 .rd xPsB3 (.c2 .add (.c2 .mul (.var 5) (.num 73)) (.num 53))) xPsB57) (.c2 .and (.c2 .eq (.c2 .rd xPsB3 (.c2 .add (.c2 .mul (.var 5) (.num 73)) (.num 54))) xPsB58) (.c2 .and (.c2 .eq (.c2 .rd xPsB3 (.c2 .add (.c2 .mul (.var 5) (.num 73)) (.num 55))) xPsB59) (.c2 .and (.c2 .eq (.c2 .rd xPsB3 (.c2 .add (.c2 .mul (.var 5) (.num 73)) (.num 56))) xPsB60) (.c2 .and (.c2 .eq (.c2 .rd xPsB3 (.c2 .add (.c2 .mul (.var 5) (.num 73)) (.num 57))) xPsB61) (.c2 .and (.c2 .eq (.c2 .rd xPsB3 (.c2 .add (.c2 .mul (.var 5) (.num 73)) (.num 58))) xPsB62) (.c2 .and (.c2 .eq (.c2 .rd xPsB3 (.c2 .add (.c2 .mul (.var 5) (.num 73)) (.num 59))) xPsB63) (.c2 .and (.c2 .eq (.c2 .rd xPsB3 (.c2 .add (.c2 .mul (.var 5) (.num 73)) (.num 60))) xPsB64) (.c2 .and (.c2 .eq (.c2 .rd xPsB3 (.c2 .add (.c2 .mul (.var 5) (.num 73)) (.num 61))) xPsB65) (.c2 .and (.c2 .eq (.c2 .rd xPsB3 (.c2 .add (.c2 .mul (.var 5) (.num 73)) (.num 62))) xPsB66) (.c2 .and (.c2 .eq (.c2 .rd xPsB3 (.c2 .add (.c2 .mul (.var 5) (.num 73)) (.num 63))) xPsB67) (.c2 .and (.c2 .eq (.c2 .rd xPsB3 (.c2 .add (.c2 .mul (.var 5) (.num 73)) (.num 64))) xPsB68) (.c2 .and (.c2 .eq (.c2 .rd xPsB3 (.c2 .add (.c2 .mul (.var 5) (.num 73)) (.num 65))) xPsB69) (.c2 .and (.c2 .eq (.c2 .rd xPsB3 (.c2 .add (.c2 .mul (.var 5) (.num 73)) (.num 66))) xPsB70) (.c2 .and (.c2 .eq (.c2 .rd xPsB3 (.c2 .add (.c2 .mul (.var 5) (.num 73)) (.num 67))) xPsB71) (.c2 .and (.c2 .eq (.c2 .rd xPsB3 (.c2 .add (.c2 .mul (.var 5) (.num 73)) (.num 68))) xPsB72) (.c2 .and (.c2 .eq (.c2 .rd xPsB3 (.c2 .add (.c2 .mul (.var 5) (.num 73)) (.num 69))) xPsB73) (.c2 .and (.c2 .eq (.c2 .rd xPsB3 (.c2 .add (.c2 .mul (.var 5) (.num 73)) (.num 70))) xPsB74) (.c2 .and (.c2 .eq (.c2 .rd xPsB3 (.c2 .add (.c2 .mul (.var 5) (.num 73)) (.num 71))) xPsB75) (.c2 .eq (.c2 .rd xPsB3 (.c2 .add (.c2 .mul (.var 5) (.num 73)) (.num 72))) xPsB76))))))))))))))))))))))))))))))))))))))))))))))))))))))))))))))))))))))))))
          (.ret (.w (.c (.b (.bol false))), ⟨[], [], 5604, 6, []⟩))
          (.back 1 5 [(.c2 .add (.var 5) (.num 1))]))
         (.loop 2 6 3 [(.num 0), xPsB0, (.fn 81 (.c2 .take (.num 584) (.var 2)) (.var 0) .nil)] [((.c2 .le (.num 0) (.var 6)), true), ((.c2 .le (.num 0) (.var 7)), true), ((.c2 .le (.var 7) (.num 140737488351232)), true), ((.c2 .eq (.c1 .len (.var 8)) (.var 7)), true), ((.c1 (.kin [.u8]) (.var 8)), true)]
          (.split (.c2 .lt (.var 6) (.num 8))
           (.split (.c2 .eq (.fn 75 (.var 8) (.c2 .rd (.var 2) (.c2 .mul (.var 6) (.num 73))) .nil) (.num 0))
            (.chk (.c1 (.kin [.u8]) xPsB77)
            (.chk (.c2 .le (.c1 .len xPsB77) (.c1 .len (.var 8)))
            (.split (.c1 .not (.c2 .and (.c2 .eq (.wr .u8 (.c2 .rd xPsB78 (.num 0))) (.c2 .rd (.var 2) (.c2 .mul (.var 6) (.num 73)))) (.c2 .and (.c2 .eq (.wr .u8 (.c2 .rd xPsB78 (.num 1))) (.c2 .rd (.var 2) (.c2 .add (.c2 .mul (.var 6) (.num 73)) (.num 1)))) (.c2 .and (.c2 .eq (.wr .u8 (.c2 .rd xPsB78 (.num 2))) (.c2 .rd (.var 2) (.c2 .add (.c2 .mul (.var 6) (.num 73)) (.num 2)))) (.c2 .and (.c2 .eq (.wr .u8 (.c2 .rd xPsB78 (.num 3))) (.c2 .rd (.var 2) (.c2 .add (.c2 .mul (.var 6) (.num 73)) (.num 3)))) (.c2 .and (.c2 .eq (.wr .u8 (.c2 .rd xPsB78 (.num 4))) (.c2 .rd (.var 2) (.c2 .add (.c2 .mul (.var 6) (.num 73)) (.num 4)))) (.c2 .and (.c2 .eq (.wr .u8 (.c2 .rd xPsB78 (.num 5))) (.c2 .rd (.var 2) (.c2 .add (.c2 .mul (.var 6) (.num 73)) (.num 5)))) (.c2 .and (.c2 .eq (.wr .u8 (.c2 .rd xPsB78 (.num 6))) (.c2 .rd (.var 2) (.c2 .add (.c2 .mul (.var 6) (.num 73)) (.num 6)))) (.c2 .and (.c2 .eq (.wr .u8 (.c2 .rd xPsB78 (.num 7))) (.c2 .rd (.var 2) (.c2 .add (.c2 .mul (.var 6) (.num 73)) (.num 7)))) (.c2 .and (.c2 .eq (.wr .u8 (.c2 .rd xPsB78 (.num 8))) (.c2 .rd (.var 2) (.c2 .add (.c2 .mul (.var 6) (.num 73)) (.num 8)))) (.c2 .and (.c2 .eq (.wr .u8 (.c2 .rd xPsB78 (.num 9))) (.c2 .rd (.var 2) (.c2 .add (.c2 .mul (.var 6) (.num 73)) (.num 9)))) (.c2 .and (.c2 .eq (.wr .u8 (.c2 .rd xPsB78 (.num 10))) (.c2 .rd (.var 2) (.c2 .add (.c2 .mul (.var 6) (.num 73)) (.num 10)))) (.c2 .and (.c2 .eq (.wr .u8 (.c2 .rd xPsB78 (.num 11))) (.c2 .rd (.var 2) (.c2 .add (.c2 .mul (.var 6) (.num 73)) (.num 11)))) (.c2 .and (.c2 .eq (.wr .u8 (.c2 .rd xPsB78 (.num 12))) (.c2 .rd (.var 2) (.c2 .add (.c2 .mul (.var 6) (.num 73)) (.num 12)))) (.c2 .and (.c2 .eq (.wr .u16 (.c2 .rd xPsB78 (.num 13))) (.c2 .rd (.var 2) (.c2 .add (.c2 .mul (.var 6) (.num 73)) (.num 13)))) (.c2 .and (.c2 .eq (.wr .u8 (.c2 .rd xPsB78 (.num 14))) (.c2 .rd (.var 2) (.c2 .add (.c2 .mul (.var 6) (.num 73)) (.num 14)))) (.c2 .and (.c2 .eq (.wr .u16 (.c2 .rd xPsB78 (.num 15))) (.c2 .rd (.var 2) (.c2 .add (.c2 .mul (.var 6) (.num 73)) (.num 15)))) (.c2 .and (.c2 .eq (.wr .u16 (.c2 .rd xPsB78 (.num 16))) (.c2 .rd (.var 2) (.c2 .add (.c2 .mul (.var 6) (.num 73)) (.num 16)))) (.c2 .and (.c2 .eq (.wr .u8 (.c2 .rd xPsB78 (.num 17))) (.c2 .rd (.var 2) (.c2 .add (.c2 .mul (.var 6) (.num 73)) (.num 17)))) (.c2 .and (.c2 .eq (.wr .u8 (.c2 .rd xPsB78 (.num 18))) (.c2 .rd (.var 2) (.c2 .add (.c2 .mul (.var 6) (.num 73)) (.num 18)))) (.c2 .and (.c2 .eq (.wr .u8 (.c2 .rd xPsB78 (.num 19))) (.c2 .rd (.var 2) (.c2 .add (.c2 .mul (.var 6) (.num 73)) (.num 19)))) (.c2 .and (.c2 .eq (.wr .u16 (.c2 .rd xPsB78 (.num 20))) (.c2 .rd (.var 2) (.c2 .add (.c2 .mul (.var 6) (.num 73)) (.num 20)))) (.c2 .and (.c2 .eq (.wr .u8 (.c2 .rd xPsB78 (.num 21))) (.c2 .rd (.var 2) (.c2 .add (.c2 .mul (.var 6) (.num 73)) (.num 21)))) (.c2 .and (.c2 .eq (.wr .u8 (.c2 .rd xPsB78 (.num 22))) (.c2 .rd (.var 2) (.c2 .add (.c2 .mul (.var 6) (.num 73)) (.num 22)))) (.c2 .and (.c2 .eq (.wr .u8 (.c2 .rd xPsB78 (.num 23))) (.c2 .rd (.var 2) (.c2 .add (.c2 .mul (.var 6) (.num 73)) (.num 23)))) (.c2 .and (.c2 .eq (.wr .u8 (.c2 .rd xPsB78 (.num 24))) (.c2 .rd (.var 2) (.c2 .add (.c2 .mul (.var 6) (.num 73)) (.num 24)))) (.c2 .and (.c2 .eq (.wr .u8 (.c2 .rd xPsB78 (.num 25))) (.c2 .rd (.var 2) (.c2 .add (.c2 .mul (.var 6) (.num 73)) (.num 25)))) (.c2 .and (.c2 .eq (.wr .u8 (.c2 .rd xPsB78 (.num 26))) (.c2 .rd (.var 2) (.c2 .add (.c2 .mul (.var 6) (.num 73)) (.num 26)))) (.c2 .and (.c2 .eq (.wr .u8 (.c2 .rd xPsB78 (.num 27))) (.c2 .rd (.var 2) (.c2 .add (.c2 .mul (.var 6) (.num 73)) (.num 27)))) (.c2 .and (.c2 .eq (.wr .u8 (.c2 .rd xPsB78 (.num 28))) (.c2 .rd (.var 2) (.c2 .add (.c2 .mul (.var 6) (.num 73)) (.num 28)))) (.c2 .and (.c2 .eq (.wr .u8 (.c2 .rd xPsB78 (.num 29))) (.c2 .rd (.var 2) (.c2 .add (.c2 .mul (.var 6) (.num 73)) (.num 29)))) (.c2 .and (.c2 .eq (.wr .u32 (.c2 .rd xPsB78 (.num 30))) (.c2 .rd (.var 2) (.c2 .add (.c2 .mul (.var 6) (.num 73)) (.num 30)))) (.c2 .and (.c2 .eq (.wr .u8 (.c2 .rd xPsB78 (.num 31))) (.c2 .rd (.var 2) (.c2 .add (.c2 .mul (.var 6) (.num 73)) (.num 31)))) (.c2 .and (.c2 .eq (.wr .u8 (.c2 .rd xPsB78 (.num 32))) (.c2 .rd (.var 2) (.c2 .add (.c2 .mul (.var 6) (.num 73)) (.num 32)))) (.c2 .and (.c2 .eq (.wr .u8 (.c2 .rd xPsB78 (.num 33))) (.c2 .rd (.var 2) (.c2 .add (.c2 .mul (.var 6) (.num 73)) (.num 33)))) (.c2 .and (.c2 .eq (.wr .u8 (.c2 .rd xPsB78 (.num 34))) (.c2 .rd (.var 2) (.c2 .add (.c2 .mul (.var 6) (.num 73)) (.num 34)))) (.c2 .and (.c2 .eq (.wr .u8 (.c2 .rd xPsB78 (.num 35))) (.c2 .rd (.var 2) (.c2 .add (.c2 .mul (.var 6) (.num 73)) (.num 35)))) (.c2 .and (.c2 .eq (.wr .u8 (.c2 .rd xPsB78 (.num 36))) (.c2 .rd (.var 2) (.c2 .add (.c2 .mul (.var 6) (.num 73)) (.num 36)))) (.c2 .and (.c2 .eq (.wr .u8 (.c2 .rd xPsB78 (.num 37))) (.c2 .rd (.var 2) (.c2 .add (.c2 .mul (.var 6) (.num 73)) (.num 37)))) (.c2 .and (.c2 .eq (.wr .u8 (.c2 .rd xPsB78 (.num 38))) (.c2 .rd (.var 2) (.c2 .add (.c2 .mul (.var 6) (.num 73)) (.num 38)))) (.c2 .and (.c2 .eq (.wr .u8 (.c2 .rd xPsB78 (.num 39))) (.c2 .rd (.var 2) (.c2 .add (.c2 .mul (.var 6) (.num 73)) (.num 39)))) (.c2 .and (.c2 .eq (.wr .u8 (.c2 .rd xPsB78 (.num 40))) (.c2 .rd (.var 2) (.c2 .add (.c2 .mul (.var 6) (.num 73)) (.num 40)))) (.c2 .and (.c2 .eq (.wr .u8 (.c2 .rd xPsB78 (.num 41))) (.c2 .rd (.var 2) (.c2 .add (.c2 .mul (.var 6) (.num 73)) (.num 41)))) (.c2 .and (.c2 .eq (.wr .u8 (.c2 .rd xPsB78 (.num 42))) (.c2 .rd (.var 2) (.c2 .add (.c2 .mul (.var 6) (.num 73)) (.num 42)))) (.c2 .and (.c2 .eq (.wr .u8 (.c2 .rd xPsB78 (.num 43))) (.c2 .rd (.var 2) (.c2 .add (.c2 .mul (.var 6) (.num 73)) (.num 43)))) (.c2 .and (.c2 .eq (.wr .u8 (.c2 .rd xPsB78 (.num 44))) (.c2 .rd (.var 2) (.c2 .add (.c2 .mul (.var 6) (.num 73)) (.num 44)))) (.c2 .and (.c2 .eq (.wr .u8 (.c2 .rd xPsB78 (.num 45))) (.c2 .rd (.var 2) (.c2 .add (.c2 .mul (.var 6) (.num 73)) (.num 45)))) (.c2 .and (.c2 .eq (.wr .u8 (.c2 .rd xPsB78 (.num 46))) (.c2 .rd (.var 2) (.c2 .add (.c2 .mul (.var 6) (.num 73)) (.num 46)))) (.c2 .and (.c2 .eq (.wr .u8 (.c2 .rd xPsB78 (.num 47))) (.c2 .rd (.var 2) (.c2 .add (.c2 .mul (.var 6) (.num 73)) (.num 47)))) (.c2 .and (.c2 .eq (.wr .u8 (.c2 .rd xPsB78 (.num 48))) (.c2 .rd (.var 2) (.c2 .add (.c2 .mul (.var 6) (.num 73)) (.num 48)))) (.c2 .and (.c2 .eq (.wr .u8 (.c2 .rd xPsB78 (.num 49))) (.c2 .rd (.var 2) (.c2 .add (.c2 .mul (.var 6) (.num 73)) (.num 49)))) (.c2 .and (.c2 .eq (.wr .u8 (.c2 .rd xPsB78 (.num 50))) (.c2 .rd (.var 2) (.c2 .add (.c2 .mul (.var 6) (.num 73)) (.num 50)))) (.c2 .and (.c2 .eq (.wr .u8 (.c2 .rd xPsB78 (.num 51))) (.c2 .rd (.var 2) (.c2 .add (.c2 .mul (.var 6) (.num 73)) (.num 51)))) (.c2 .and (.c2 .eq (.wr .u8 (.c2 .rd xPsB78 (.num 52))) (.c2 .rd (.var 2) (.c2 .add (.c2 .mul (.var 6) (.num 73)) (.num 52)))) (.c2 .and (.c2 .eq (.wr .u8 (.c2 .rd xPsB78 (.num 53))) (.c2 .rd (.var 2) (.c2 .add (.c2 .mul (.var 6) (.num 73)) (.num 53)))) (.c2 .and (.c2 .eq (.wr .u8 (.c2 .rd xPsB78 (.num 54))) (.c2 .rd (.var 2) (.c2 .add (.c2 .mul (.var 6) (.num 73)) (.num 54)))) (.c2 .and (.c2 .eq (.wr .u8 (.c2 .rd xPsB78 (.num 55))) (.c2 .rd (.var 2) (.c2 .add (.c2 .mul (.var 6) (.num 73)) (.num 55)))) (.c2 .and (.c2 .eq (.wr .u8 (.c2 .rd xPsB78 (.num 56))) (.c2 .rd (.var 2) (.c2 .add (.c2 .mul (.var 6) (.num 73)) (.num 56)))) (.c2 .and (.c2 .eq (.wr .u8 (.c2 .rd xPsB78 (.num 57))) (.c2 .rd (.var 2) (.c2 .add (.c2 .mul (.var 6) (.num 73)) (.num 57)))) (.c2 .and (.c2 .eq (.wr .u8 (.c2 .rd xPsB78 (.num 58))) (.c2 .rd (.var 2) (.c2 .add (.c2 .mul (.var 6) (.num 73)) (.num 58)))) (.c2 .and (.c2 .eq (.wr .u8 (.c2 .rd xPsB78 (.num 59))) (.c2 .rd (.var 2) (.c2 .add (.c2 .mul (.var 6) (.num 73)) (.num 59)))) (.c2 .and (.c2 .eq (.wr .u8 (.c2 .rd xPsB78 (.num 60))) (.c2 .rd (.var 2) (.c2 .add (.c2 .mul (.var 6) (.num 73)) (.num 60)))) (.c2 .and (.c2 .eq (.wr .u8 (.c2 .rd xPsB78 (.num 61))) (.c2 .rd (.var 2) (.c2 .add (.c2 .mul (.var 6) (.num 73)) (.num 61)))) (.c2 .and (.c2 .eq (.wr .u8 (.c2 .rd xPsB78 (.num 62))) (.c2 .rd (.var 2) (.c2 .add (.c2 .mul (.var 6) (.num 73)) (.num 62)))) (.c2 .and (.c2 .eq (.wr .u8 (.c2 .rd xPsB78 (.num 63))) (.c2 .rd (.var 2) (.c2 .add (.c2 .mul (.var 6) (.num 73)) (.num 63)))) (.c2 .and (.c2 .eq (.wr .u8 (.c2 .rd xPsB78 (.num 64))) (.c2 .rd (.var 2) (.c2 .add (.c2 .mul (.var 6) (.num 73)) (.num 64)))) (.c2 .and (.c2 .eq (.wr .u16 (.c2 .rd xPsB78 (.num 65))) (.c2 .rd (.var 2) (.c2 .add (.c2 .mul (.var 6) (.num 73)) (.num 65)))) (.c2 .and (.c2 .eq (.wr .u16 (.c2 .rd xPsB78 (.num 66))) (.c2 .rd (.var 2) (.c2 .add (.c2 .mul (.var 6) (.num 73)) (.num 66)))) (.c2 .and (.c2 .eq (.wr .u32 (.c2 .rd xPsB78 (.num 67))) (.c2 .rd (.var 2) (.c2 .add (.c2 .mul (.var 6) (.num 73)) (.num 67)))) (.c2 .and (.c2 .eq (.wr .u32 (.c2 .rd xPsB78 (.num 68))) (.c2 .rd (.var 2) (.c2 .add (.c2 .mul (.var 6) (.num 73)) (.num 68)))) (.c2 .and (.c2 .eq (.wr .u8 (.c2 .rd xPsB78 (.num 69))) (.c2 .rd (.var 2) (.c2 .add (.c2 .mul (.var 6) (.num 73)) (.num 69)))) (.c2 .and (.c2 .eq (.wr .u16 (.c2 .rd xPsB78 (.num 70))) (.c2 .rd (.var 2) (.c2 .add (.c2 .mul (.var 6) (.num 73)) (.num 70)))) (.c2 .and (.c2 .eq (.wr .u16 (.c2 .rd xPsB78 (.num 71))) (.c2 .rd (.var 2) (.c2 .add (.c2 .mul (.var 6) (.num 73)) (.num 71)))) (.c2 .eq (.wr .u16 (.c2 .rd xPsB78 (.num 72))) (.c2 .rd (.var 2) (.c2 .add (.c2 .mul (.var 6) (.num 73)) (.num 72)))))))))))))))))))))))))))))))))))))))))))))))))))))))))))))))))))))))))))))
             (.ret (.w (.c (.b (.bol false))), ⟨[], [], 5906, 9, []⟩))
             (.back 2 6 [(.c2 .add (.var 6) (.num 1)), (.c1 .len xPsB77), xPsB77]))))
            (.ret (.w (.c (.b (.bol false))), ⟨[], [], 5906, 9, []⟩)))
           (.ret (.w (.c (.b (.c2 .leq (.var 8) (.var 0)))), ⟨[], [], 5607, 9, []⟩))))))))))))))
     (.ret (.w (.c (.b (.bol false))), ⟨[], [], 5602, 5, []⟩)))
    (.loop 2 5 3 [(.num 0), xPsB0, (.fn 81 (.c2 .take (.num 584) (.var 2)) (.var 0) .nil)] [((.c2 .le (.num 0) (.var 5)), true), ((.c2 .le (.num 0) (.var 6)), true), ((.c2 .le (.var 6) (.num 140737488351232)), true), ((.c2 .eq (.c1 .len (.var 7)) (.var 6)), true), ((.c1 (.kin [.u8]) (.var 7)), true)]
     (.split (.c2 .lt (.var 5) (.num 8))
      (.split (.c2 .eq (.fn 75 (.var 7) (.c2 .rd (.var 2) (.c2 .mul (.var 5) (.num 73))) .nil) (.num 0))
       (.chk (.c1 (.kin [.u8]) xPsB79)
       (.chk (.c2 .le (.c1 .len xPsB79) (.c1 .len (.var 7)))
       (.split (.c1 .not (.c2 .and (.c2 .eq (.wr .u8 (.c2 .rd xPsB80 (.num 0))) (.c2 .rd (.var 2) (.c2 .mul (.var 5) (.num 73)))) (.c2 .and (.c2 .eq (.wr .u8 (.c2 .rd xPsB80 (.num 1))) xPsB5) (.c2 .and (.c2 .eq (.wr .u8 (.c2 .rd xPsB80 (.num 2))) xPsB6) (.c2 .and (.c2 .eq (.wr .u8 (.c2 .rd xPsB80 (.num 3))) xPsB7) (.c2 .and (.c2 .eq (.wr .u8 (.c2 .rd xPsB80 (.num 4))) xPsB8) (.c2 .and (.c2 .eq (.wr .u8 (.c2 .rd xPsB80 (.num 5))) xPsB9) (.c2 .and (.c2 .eq (.wr .u8 (.c2 .rd xPsB80 (.num 6))) xPsB10) (.c2 .and (.c2 .eq (.wr .u8 (.c2 .rd xPsB80 (.num 7))) xPsB11) (.c2 .and (.c2 .eq (.wr .u8 (.c2 .rd xPsB80 (.num 8))) xPsB12) (.c2 .and (.c2 .eq (.wr .u8 (.c2 .rd xPsB80 (.num 9))) xPsB13) (.c2 .and (.c2 .eq (.wr .u8 (.c2 .rd xPsB80 (.num 10))) xPsB14) (.c2 .and (.c2 .eq (.wr .u8 (.c2 .rd xPsB80 (.num 11))) xPsB15) (.c2 .and (.c2 .eq (.wr .u8 (.c2 .rd xPsB80 (.num 12))) xPsB16) (.c2 .and (.c2 .eq (.wr .u16 (.c2 .rd xPsB80 (.num 13))) xPsB17) (.c2 .and (.c2 .eq (.wr .u8 (.c2 .rd xPsB80 (.num 14))) xPsB18) (.c2 .and (.c2 .eq (.wr .u16 (.c2 .rd xPsB80 (.num 15))) xPsB19) (.c2 .and (.c2 .eq (.wr .u16 (.c2 .rd xPsB80 (.num 16))) xPsB20) (.c2 .and (.c2 .eq (.wr .u8 (.c2 .rd xPsB80 (.num 17))) xPsB21) (.c2 .and (.c2 .eq (.wr .u8 (.c2 .rd xPsB80 (.num 18))) xPsB22) (.c2 .and (.c2 .eq (.wr .u8 (.c2 .rd xPsB80 (.num 19))) xPsB23) (.c2 .and (.c2 .eq (.wr .u16 (.c2 .rd xPsB80 (.num 20))) xPsB24) (.c2 .and (.c2 .eq (.wr .u8 (.c2 .rd xPsB80 (.num 21))) xPsB25) (.c2 .and (.c2 .eq (.wr .u8 (.c2 .rd xPsB80 (.num 22))) xPsB26) (.c2 .and (.c2 .eq (.wr .u8 (.c2 .rd xPsB80 (.num 23))) xPsB27) (.c2 .and (.c2 .eq (.wr .u8 (.c2 .rd xPsB80 (.num 24))) xPsB28) (.c2 .and (.c2 .eq (.wr .u8 (.c2 .rd xPsB80 (.num 25))) xPsB29) (.c2 .and (.c2 .eq (.wr .u8 (.c2 .rd xPsB80 (.num 26))) xPsB30) (.c2 .and (.c2 .eq (.wr .u8 (.c2 .rd xPsB80 (.num 27))) xPsB31) (.c2 .and (.c2 .eq (.wr .u8 (.c2 .rd xPsB80 (.num 28))) xPsB32) (.c2 .and (.c2 .eq (.wr .u8 (.c2 .rd xPsB80 (.num 29))) xPsB33) (.c2 .and (.c2 .eq (.wr .u32 (.c2 .rd xPsB80 (.num 30))) xPsB34) (.c2 .and (.c2 .eq (.wr .u8 (.c2 .rd xPsB80 (.num 31))) xPsB35) (.c2 .and (.c2 .eq (.wr .u8 (.c2 .rd xPsB80 (.num 32))) xPsB36) (.c2 .and (.c2 .eq (.wr .u8 (.c2 .rd xPsB80 (.num 33))) xPsB37) (.c2 .and (.c2 .eq (.wr .u8 (.c2 .rd xPsB80 (.num 34))) xPsB38) (.c2 .and (.c2 .eq (.wr .u8 (.c2 .rd xPsB80 (.num 35))) xPsB39) (.c2 .and (.c2 .eq (.wr .u8 (.c2 .rd xPsB80 (.num 36))) xPsB40) (.c2 .and (.c2 .eq (.wr .u8 (.c2 .rd xPsB80 (.num 37))) xPsB41) (.c2 .and (.c2 .eq (.wr .u8 (.c2 .rd xPsB80 (.num 38))) xPsB42) (.c2 .and (.c2 .eq (.wr .u8 (.c2 .rd xPsB80 (.num 39))) xPsB43) (.c2 .and (.c2 .eq (.wr .u8 (.c2 .rd xPsB80 (.num 40))) xPsB44) (.c2 .and (.c2 .eq (.wr .u8 (.c2 .rd xPsB80 (.num 41))) xPsB45) (.c2 .and (.c2 .eq (.wr .u8 (.c2 .rd xPsB80 (.num 42))) xPsB46) (.c2 .and (.c2 .eq (.wr .u8 (.c2 .rd xPsB80 (.num 43))) xPsB47) (.c2 .and (.c2 .eq (.wr .u8 (.c2 .rd xPsB80 (.num 44))) xPsB48) (.c2 .and (.c2 .eq (.wr .u8 (.c2 .rd xPsB80 (.num 45))) xPsB49) (.c2 .and (.c2 .eq (.wr .u8 (.c2 .rd xPsB80 (.num 46))) xPsB50) (.c2 .and (.c2 .eq (.wr .u8 (.c2 .rd xPsB80 (.num 47))) xPsB51) (.c2 .and (.c2 .eq (.wr .u8 (.c2 .rd xPsB80 (.num 48))) xPsB52) (.c2 .and (.c2 .eq (.wr .u8 (.c2 .rd xPsB80 (.num 49))) xPsB53) (.c2 .and (.c2 .eq (.wr .u8 (.c2 .rd xPsB80 (.num 50))) xPsB54) (.c2 .and (.c2 .eq (.wr .u8 (.c2 .rd xPsB80 (.num 51))) xPsB55) (.c2 .and (.c2 .eq (.wr .u8 (.c2 .rd xPsB80 (.num 52))) xPsB56) (.c2 .and (.c2 .eq (.wr .u8 (.c2 .rd xPsB80 (.num 53))) xPsB57) (.c2 .and (.c2 .eq (.wr .u8 (.c2 .rd xPsB80 (.num 54))) xPsB58) (.c2 .and (.c2 .eq (.wr .u8 (.c2 .rd xPsB80 (.num 55))) xPsB59) (.c2 .and (.c2 .eq (.wr .u8 (.c2 .rd xPsB80 (.num 56))) xPsB60) (.c2 .and (.c2 .eq (.wr .u8 (.c2 .rd xPsB80 (.num 57))) xPsB61) (.c2 .and (.c2 .eq (.wr .u8 (.c2 .rd xPsB80 (.num 58))) xPsB62) (.c2 .and (.c2 .eq (.wr .u8 (.c2 .rd xPsB80 (.num 59))) xPsB63) (.c2 .and (.c2 .eq (.wr .u8 (.c2 .rd xPsB80 (.num 60))) xPsB64) (.c2 .and (.c2 .eq (.wr .u8 (.c2 .rd xPsB80 (.num 61))) xPsB65) (.c2 .and (.c2 .eq (.wr .u8 (.c2 .rd xPsB80 (.num 62))) xPsB66) (.c2 .and (.c2 .eq (.wr .u8 (.c2 .rd xPsB80 (.num 63))) xPsB67) (.c2 .and (.c2 .eq (.wr .u8 (.c2 .rd xPsB80 (.num 64))) xPsB68) (.c2 .and (.c2 .eq (.wr .u16 (.c2 .rd xPsB80 (.num 65))) xPsB69) (.c2 .and (.c2 .eq (.wr .u16 (.c2 .rd xPsB80 (.num 66))) xPsB70) (.c2 .and (.c2 .eq (.wr .u32 (.c2 .rd xPsB80 (.num 67))) xPsB71) (.c2 .and (.c2 .eq (.wr .u32 (.c2 .rd xPsB80 (.num 68))) xPsB72) (.c2 .and (.c2 .eq (.wr .u8 (.c2 .rd xPsB80 (.num 69))) xPsB73) (.c2 .and (.c2 .eq (.wr .u16 (.c2 .rd xPsB80 (.num 70))) xPsB74) (.c2 .and (.c2 .eq (.wr .u16 (.c2 .rd xPsB80 (.num 71))) xPsB75) (.c2 .eq (.wr .u16 (.c2 .rd xPsB80 (.num 72))) xPsB76))))))))))))))))))))))))))))))))))))))))))))))))))))))))))))))))))))))))))
        (.ret (.w (.c (.b (.bol false))), ⟨[], [], 5704, 8, []⟩))
        (.back 2 5 [(.c2 .add (.var 5) (.num 1)), (.c1 .len xPsB79), xPsB79]))))
       (.ret (.w (.c (.b (.bol false))), ⟨[], [], 5704, 8, []⟩)))
      (.ret (.w (.c (.b (.c2 .leq (.var 7) (.var 0)))), ⟨[], [], 5405, 8, []⟩)))))))))
 (.ret (.w (.c (.b (.bol true))), ⟨[], [], 5402, 3, []⟩)))
theorem treePsB_is : funTree (ctxN Go.Proofs.Tryz.prog annsPs consPs 8) annsPs 6 tWPeelsB.vs tWPeelsB.bs tWPeelsB.n (preF tWPeelsB.res) = treePsB := by kernel_rfl
end Go.Proofs.YtfhjlimdakphcaaGreat.Sx
set_option linter.unusedVariables false
set_option linter.unusedSimpArgs false
set_option maxRecDepth 100000
namespace Go.Proofs.YtfhjlimdakphcaaGreat.Sx
open Go
theorem consPs_ok : ConsOk Go.Proofs.Tryz.prog ΦP consPs := moreCons (con_ok wlAwake_ok) (moreCons (con_ok wlEq_ok) (moreCons (con_ok stack_ok) (moreCons (con_ok (next_ok sigW.toPeSig)) (moreCons (con_ok (peel_ok sigW.toPeSig)) (moreCons (con_ok (wpo_ok sigW)) noCons)))))
def cntT (cut : Bool) : T := match cut with | true => .num 8 | false => .var 1
def moreT (cut : Bool) (b : Nat) : T := match cut with | true => .c2 .add (.var b) (.num 1) | false => .wr .i64 (.c2 .add (.var b) (.num 1))
def retF (nb nv : Nat) : M (V × St) := .ret (.w (.c (.b (.bol false))), ⟨[], [], nb, nv, []⟩)
def at73 (b : Nat) : T := .c2 .mul (.var b) (.num 73)
def chkIf (cut : Bool) (t : T) (x : M (V × St)) : M (V × St) := match cut with | true => x | false => .chk t x
def popK (b : Nat) : T := .c2 .rd (.var 2) (at73 b)
def popR (b : Nat) : T := .fn 77 (.var (b + 2)) (popK b) .nil
def lp2 (cut : Bool) (b n1 n2 : Nat) (R : T) : M (V × St) :=
  .loop 2 b 3 [.num 0, .c1 .len R, R] [(.c2 .le (.num 0) (.var b), true), (.c2 .le (.num 0) (.var (b + 1)), true), (.c2 .le (.var (b + 1)) (.num 140737488351232), true), (.c2 .eq (.c1 .len (.var (b + 2))) (.var (b + 1)), true), (.c1 (.kin [.u8]) (.var (b + 2)), true)]
    (.split (.c2 .lt (.var b) (cntT cut))
      (chkIf cut (.c2 .le (.c2 .add (at73 b) (.num 1)) (.c1 .len (.var 2)))
        (.split (.c2 .eq (.fn 75 (.var (b + 2)) (popK b) .nil) (.num 0))
          (.chk (.c1 (.kin [.u8]) (popR b)) (.chk (.c2 .le (.c1 .len (popR b)) (.c1 .len (.var (b + 2))))
            (chkIf cut (.c2 .le (.c2 .add (at73 b) (.num 73)) (.c1 .len (.var 2)))
              (.split (.c1 .not (eqwT (.fn 76 (.var (b + 2)) (popK b) .nil) (.var 2) (at73 b) kHead 0)) (retF n1 (b + 3))
                (.back 2 b [moreT cut b, .c1 .len (popR b), popR b])))))
          (retF n1 (b + 3))))
      (.ret (.w (.c (.b (.c2 .leq (.var (b + 2)) (.var 0)))), ⟨[], [], n2, b + 3, []⟩)))
def lp1 (cut : Bool) (R : T) (rest : M (V × St)) : M (V × St) :=
  .loop 1 5 1 [.num 0] [(.c2 .le (.num 0) (.var 5), true)]
    (.split (.c2 .lt (.var 5) (cntT cut))
      (chkIf cut (.c2 .lt (.var 5) (.fn 52 R .nil .nil)) (chkIf cut (.c2 .le (.c2 .add (at73 5) (.num 73)) (.c1 .len (.fn 50 R .nil .nil))) (chkIf cut (.c2 .le (.c2 .add (at73 5) (.num 73)) (.c1 .len (.var 2)))
        (.split (.c1 .not (eqsT (.fn 50 R .nil .nil) (.var 2) (at73 5) 0 72)) (retF 5604 6) (.back 1 5 [moreT cut 5])))))
      rest)
def psX : T := .wr .u8 (.fn 54 (cellT (.var 2) (at73 3) 0 73) .nil .nil)
def lp0b (cut : Bool) : M (V × St) := match cut with
  | true => .split (.var 4) (.split (.c2 .beq (.c1 .not (.c2 .eq psX (.num 0))) (.c2 .lt (.var 3) (.num 7)))
      (.split (.c2 .eq psX (.num 0)) (.back 0 3 [moreT true 3, .bol true]) (.chk (.c2 .lt (.var 3) (.num 7)) (.back 0 3 [moreT true 3, .c2 .eq psX (.c2 .rd (.var 2) (.c2 .mul (moreT true 3) (.num 73)))])))
      (.back 0 3 [moreT true 3, .bol false])) (.back 0 3 [moreT true 3, .bol false])
  | false => .chk (.c2 .le (.c2 .add (at73 3) (.num 73)) (.c1 .len (.var 2))) (.split (.var 4) (.split (.c2 .beq (.c1 .not (.c2 .eq psX (.num 0))) (.c2 .lt (moreT false 3) (.var 1)))
      (.split (.c2 .eq psX (.num 0)) (.back 0 3 [moreT false 3, .bol true]) (.chk (.c2 .le (.num 0) (moreT false 3)) (.chk (.c2 .lt (moreT false 3) (.var 1)) (.chk (.c2 .le (.c2 .add (.c2 .mul (moreT false 3) (.num 73)) (.num 1)) (.c1 .len (.var 2)))
        (.back 0 3 [moreT false 3, .c2 .eq psX (.c2 .rd (.var 2) (.c2 .mul (moreT false 3) (.num 73)))])))))
      (.back 0 3 [moreT false 3, .bol false])) (.back 0 3 [moreT false 3, .bol false]))
def lp0 (cut : Bool) (rest : M (V × St)) : M (V × St) :=
  .loop 0 3 2 [.num 0, .c2 .eq (.c2 .rd (.var 2) (.num 0)) (.num 1)] [(.c2 .le (.num 0) (.var 3), true)] (.split (.c2 .lt (.var 3) (cntT cut)) (lp0b cut) rest)
def peChk (R : T) (x : M (V × St)) : M (V × St) :=
  .chk (.c2 .le (.num 1) (.fn 52 R .nil .nil)) (.chk (.c2 .le (.fn 52 R .nil .nil) (.num 8)) (.chk (.c2 .eq (.c1 .len (.fn 50 R .nil .nil)) (.c2 .mul (.fn 52 R .nil .nil) (.num 73))) (.chk (.c1 (.kin kHead) (.fn 50 R .nil .nil)) (.chk (.c1 (.kin [.u8]) (.fn 53 R .nil .nil)) (.chk (.c2 .le (.c1 .len (.fn 53 R .nil .nil)) (.c1 .len R)) x)))))
def psRest (cut : Bool) (R : T) : M (V × St) :=
  .split (.var 4)
    (.split (.c2 .eq (.fn 51 R .nil .nil) (.num 0))
      (peChk R (.split (.c1 .not (.c2 .eq (.fn 52 R .nil .nil) (cntT cut))) (retF 5602 5) (.split (.c1 .not (.c2 .leq (.fn 53 R .nil .nil) (.var 0))) (retF 5604 5) (lp1 cut R (lp2 cut 6 5906 5607 R)))))
      (retF 5602 5))
    (lp2 cut 5 5704 5405 R)
def nOf (ρ : Env) : Nat := min (ρ 1).int.toNat 8
def lOf (ρ : Env) : List Int := (ρ 2).list.take (73 * nOf ρ)
def psJ : Inv := ⟨fun id ρ ds => match id with
  | 0 => ∃ i : Nat, (nthD ds 0).int = i ∧ i ≤ nOf ρ ∧ ((nthD ds 1).bool = true → Tl (lOf ρ) (nOf ρ) i)
  | 1 => ∃ i : Nat, (nthD ds 0).int = i ∧ i ≤ nOf ρ
  | _ => ∃ i : Nat, (nthD ds 0).int = i ∧ i ≤ nOf ρ ∧ (nthD ds 1).int = (nthD ds 2).list.length ∧ StkAt (lOf ρ) (ρ 0).list i (nthD ds 2).list, fun _ ρ ds => nOf ρ - (nthD ds 0).int.toNat⟩
structure PsD (ρ : Env) (cut : Bool) (n0 : Nat) : Prop where
  i : StkIn (lOf ρ) (ρ 0).list (nOf ρ)
  n1 : (ρ 1).int = n0
  len : (ρ 2).list.length = 73 * n0
  no : cut = false → nOf ρ = n0
  yes : cut = true → nOf ρ = 8 ∧ 8 ≤ n0
section
variable {ρ ρ' : Env} {cut : Bool} {n0 : Nat}
theorem PsD.le (D : PsD ρ cut n0) : nOf ρ ≤ n0 ∧ nOf ρ ≤ 8 := by
  have h8 : nOf ρ ≤ 8 := Nat.min_le_right _ _
  cases cut with
  | true => have := D.yes rfl; omega
  | false => have := D.no rfl; omega
theorem same3 (h : ∀ j, j < 3 → ρ' j = ρ j) : nOf ρ' = nOf ρ ∧ lOf ρ' = lOf ρ := by
  have e : nOf ρ' = nOf ρ := by rw [nOf, nOf, h 1 (by decide)]
  exact ⟨e, by rw [lOf, lOf, e, h 2 (by decide)]⟩
theorem PsD.to (D : PsD ρ cut n0) (h : ∀ j, j < 3 → ρ' j = ρ j) : PsD ρ' cut n0 := by
  obtain ⟨e1, e2⟩ := same3 h
  exact ⟨by rw [e1, e2, h 0 (by decide)]; exact D.i, by rw [h 1 (by decide)]; exact D.n1, by rw [h 2 (by decide)]; exact D.len, by rw [e1]; exact D.no, by rw [e1]; exact D.yes⟩
theorem PsD.at_ (D : PsD ρ cut n0) {j : Nat} (hj : j < 73 * nOf ρ) : (ρ 2).list[j]? = (lOf ρ)[j]? := by rw [lOf, List.getElem?_take, if_pos hj]
theorem PsD.hd (D : PsD ρ cut n0) {i : Nat} (hi : i < nOf ρ) : hdAt (ρ 2).list i = hdAt (lOf ρ) i := by
  apply List.ext_getElem?
  intro j
  rw [hdAt, hdAt, List.getElem?_take, List.getElem?_take]
  split
  · rw [List.getElem?_drop, List.getElem?_drop]; exact D.at_ (by omega)
  · rfl
theorem PsD.cnt (D : PsD ρ cut n0) : (T.den ΦP ρ (cntT cut)).int = nOf ρ := by
  cases cut with
  | true => rw [(D.yes rfl).1]; rfl
  | false => rw [D.no rfl]; exact D.n1
theorem more_is {b i : Nat} (hv : (ρ b).int = i) (hi : i < 9) : (T.den ΦP ρ (moreT cut b)).int = ((i + 1 : Nat) : Int) := by
  cases cut with
  | true => show (ρ b).int + 1 = _; rw [hv]; rfl
  | false =>
    show IntKind.i64.wrap ((ρ b).int + 1) = _
    rw [hv, wrap_is (by simp only [kmin]; omega) (by simp only [kmax]; omega)]; rfl
theorem at73_is {b i : Nat} (hv : (ρ b).int = i) : (T.den ΦP ρ (at73 b)).int = ((73 * i : Nat) : Int) := by
  show (ρ b).int * 73 = _; rw [hv]; omega
theorem chkIf_ok {t : T} {x : M (V × St)} {J : Inv} {B : BK} {K : BK → Env → V × St → Prop} (ht : cut = false → (T.den ΦP ρ t).bool = true) (hx : x.ok ΦP J B ρ K) : (chkIf cut t x).ok ΦP J B ρ K := by
  cases cut with
  | true => exact hx
  | false => exact ⟨ht rfl, hx⟩
theorem g_at (D : PsD ρ cut n0) {i : Nat} (hi : i < nOf ρ) : (ρ 2).list[73 * i]?.getD 0 = g (lOf ρ) (73 * i) := by rw [D.at_ (by omega)]
abbrev psRes : Res := ⟨.c (.b (.bol true)), [], 200000⟩
theorem lp2_ok {ρ0 : Env} {b n1 n2 : Nat} {R : T} {B : BK} (hb : 3 ≤ b) (h2 : n2 ≤ 200000) (D : PsD ρ cut n0) (hat : StkAt (lOf ρ) (ρ 0).list 0 (T.den ΦP ρ R).list) :
    (lp2 cut b n1 n2 R).ok ΦP psJ B ρ (fun _ ρ' r => Leaf ΦP ρ0 ρ' psRes r) := by
  refine ⟨⟨0, rfl, Nat.zero_le _, ?_, hat⟩, ?_⟩
  · show (T.den ΦP ρ (.c1 .len R)).int = _; rw [int_len]; rfl
  rintro ds hds ⟨i, i0, i1, i2, i3⟩
  have lo : ∀ j, j < 3 → upd ρ b ds j = ρ j := fun j hj => upd_lo ds (by omega)
  have e0 : upd ρ b ds b = nthD ds 0 := by have := upd_at (ρ := ρ) (b := b) (ds := ds) (i := 0) (by omega); rwa [Nat.add_zero] at this
  have e1 : upd ρ b ds (b + 1) = nthD ds 1 := upd_at (i := 1) (by omega)
  have e2 : upd ρ b ds (b + 2) = nthD ds 2 := upd_at (i := 2) (by omega)
  have D' := D.to lo
  obtain ⟨s1, s2⟩ := same3 lo
  generalize upd ρ b ds = ρ' at *
  rw [← s1] at i1
  rw [← s2, ← lo 0 (by decide)] at i3
  have v0 : (ρ' b).int = i := by rw [e0]; exact i0
  have v1 : (ρ' (b + 1)).int = (ρ' (b + 2)).list.length := by rw [e1, e2]; exact i2
  have v2 : (ρ' (b + 2)).list = (nthD ds 2).list := by rw [e2]
  rw [← v2] at i3
  have hl8 := D'.le
  have hs := i3.short
  refine ⟨?_, fun c => ?_, fun c => ?_⟩
  · intro t p hm
    simp only [List.mem_cons, Prod.mk.injEq, List.not_mem_nil, or_false] at hm
    rcases hm with ⟨rfl, rfl⟩ | ⟨rfl, rfl⟩ | ⟨rfl, rfl⟩ | ⟨rfl, rfl⟩ | ⟨rfl, rfl⟩
    · rw [le_t, den_var, v0]; exact Int.natCast_nonneg _
    · rw [le_t, den_var, v1]; exact Int.natCast_nonneg _
    · rw [le_t, den_var, v1]; show ((ρ' (b + 2)).list.length : Int) ≤ 140737488351232; omega
    · rw [eq_t, int_len, den_var, den_var, v1]
    · rw [bytes_t, den_var]; exact i3.bytes
  · rw [lt_t, den_var, v0, D'.cnt] at c
    have hin : i < nOf ρ' := by omega
    have hM := at73_is (b := b) v0
    obtain ⟨q', p1, p2, p3, p4⟩ := pop_step D'.i i3 hin
    have hk : (T.den ΦP ρ' (popK b)).int = g (lOf ρ') (73 * i) := by
      show (ρ' 2).list[(T.den ΦP ρ' (at73 b)).int.toNat]?.getD 0 = _
      rw [hM, Int.toNat_natCast]; exact g_at D' hin
    have hR : (T.den ΦP ρ' (popR b)).list = q' := by
      show popRest (ρ' (b + 2)).list (T.den ΦP ρ' (popK b)).int = _
      rw [hk]; exact p4
    have hqs := p1.short
    refine chkIf_ok (fun hc => ?_) ⟨fun d => ⟨?_, ?_, chkIf_ok (fun hc => ?_) ⟨fun e => ?_, fun e => ?_⟩⟩, fun d => ?_⟩
    · rw [le_t, int_add, hM, int_len, den_var, D'.len]; show ((73 * i : Nat) : Int) + 1 ≤ _; omega
    · rw [bytes_t, hR]; exact p1.bytes
    · rw [le_t, int_len, int_len, hR, den_var]
      have : q'.length ≤ (ρ' (b + 2)).list.length := by rw [← p4, popRest, List.length_drop]; omega
      omega
    · rw [le_t, int_add, hM, int_len, den_var, D'.len]; show ((73 * i : Nat) : Int) + 73 ≤ _; omega
    · exfalso
      rw [not_t] at e
      have hF : (T.den ΦP ρ' (.fn 76 (.var (b + 2)) (popK b) .nil)).list = hdAt (lOf ρ') i := by
        show popHead (ρ' (b + 2)).list (T.den ΦP ρ' (popK b)).int = _
        rw [hk]; exact p3
      have hg := D'.i.good hin
      have := eqwT_t (ρ := ρ') (F := .fn 76 (.var (b + 2)) (popK b) .nil) (b := .var 2) hM kHead 0 (fun j k hkj => by
        have hj : j < 73 := (List.getElem?_eq_some_iff.1 hkj).1
        rw [Nat.zero_add, hF, den_var, D'.at_ (by omega)]
        have hx : (hdAt (lOf ρ') i)[j]? = (lOf ρ')[73 * i + j]? := by rw [hdAt, List.getElem?_take, if_pos hj, List.getElem?_drop]
        rw [hx]
        have hlt : 73 * i + j < (lOf ρ').length := by have := D'.i.len; omega
        rw [List.getElem?_eq_getElem hlt]
        rw [List.getElem?_eq_getElem hlt] at hx
        have hr := hg.2 j k _ hkj hx
        exact wrap_is hr.1 hr.2)
      rw [this] at e; cases e
    · refine ok_back ⟨⟨i + 1, more_is v0 (by omega), by rw [← s1]; omega, ?_, ?_⟩, ?_⟩
      · show (T.den ΦP ρ' (.c1 .len (popR b))).int = ((T.den ΦP ρ' (popR b)).list.length : Int); rw [int_len]
      · show StkAt (lOf ρ) (ρ 0).list (i + 1) (T.den ΦP ρ' (popR b)).list
        rw [hR, ← s2, ← lo 0 (by decide)]; exact p1
      · show nOf ρ - (T.den ΦP ρ' (moreT cut b)).int.toNat < nOf ρ - (nthD ds 0).int.toNat
        rw [more_is v0 (by omega), i0, ← s1]; omega
    · exfalso
      rw [eq_f] at d
      apply d
      show popErr (ρ' (b + 2)).list (T.den ΦP ρ' (popK b)).int = 0
      rw [hk]; exact p2
  · rw [lt_f, den_var, v0, D'.cnt] at c
    have hin : i = nOf ρ' := by omega
    subst hin
    have hq : (ρ' (b + 2)).list = (ρ' 0).list := by
      have := i3.put
      have hall := rows_all (l := lOf ρ')
      rw [D'.i.rows] at hall
      rw [hall] at this
      injection this with _ h
      exact h.symm
    refine ⟨?_, trivial, h2⟩
    show decide ((ρ' (b + 2)).list = (ρ' 0).list) = true
    rw [hq]; exact decide_eq_true rfl
theorem lo_more : ∀ {t : T} , t.lo 3 = true → t.lo 5 = true := by
  intro t
  induction t with
  | var i => intro h; have := Nat.le_of_ble_eq_true h; exact Nat.ble_eq_true_of_le (by omega)
  | num _ => intro _; rfl
  | bol _ => intro _; rfl
  | nil => intro _; rfl
  | wr k x ih => exact ih
  | c1 o x ih => exact ih
  | cons x y h1 h2 | bits _ _ x y h1 h2 | c2 _ x y h1 h2 =>
    intro h
    simp only [T.lo, Bool.and_eq_true] at h ⊢
    exact ⟨h1 h.1, h2 h.2⟩
  | ite x y z h1 h2 h3 | set x y z h1 h2 h3 | spl x y z h1 h2 h3 | fn _ x y z h1 h2 h3 =>
    intro h
    simp only [T.lo, Bool.and_eq_true] at h ⊢
    exact ⟨h1 h.1, h2 h.2.1, h3 h.2.2⟩
theorem lp1_ok {R : T} {rest : M (V × St)} {B : BK} {K : BK → Env → V × St → Prop} (D : PsD ρ cut n0) (hlo : R.lo 5 = true) (h50 : (T.den ΦP ρ (.fn 50 R .nil .nil)).list = lOf ρ) (h52 : (T.den ΦP ρ (.fn 52 R .nil .nil)).int = nOf ρ) (hrest : ∀ B' ds, rest.ok ΦP psJ B' (upd ρ 5 ds) K) : (lp1 cut R rest).ok ΦP psJ B ρ K := by
  refine ⟨⟨0, rfl, Nat.zero_le _⟩, ?_⟩
  rintro ds hds ⟨i, i0, i1⟩
  have lo : ∀ j, j < 5 → upd ρ 5 ds j = ρ j := fun j hj => upd_lo ds hj
  have e5 : upd ρ 5 ds 5 = nthD ds 0 := upd_at (i := 0) (by omega)
  have hr := hrest (B.at_ 5 fun ds' => psJ.I 1 ρ ds' ∧ psJ.μ 1 ρ ds' < psJ.μ 1 ρ ds) ds
  have D' := D.to (fun j hj => lo j (by omega))
  obtain ⟨s1, s2⟩ := same3 (fun j hj => lo j (by omega))
  have same : ∀ (t : T), t.lo 5 = true → T.den ΦP (upd ρ 5 ds) t = T.den ΦP ρ t := fun t ht => (lo_den (ρ := ρ) (ρ' := upd ρ 5 ds) (fun j hj => (lo j hj).symm) t ht).symm
  have g50 : (T.den ΦP (upd ρ 5 ds) (.fn 50 R .nil .nil)).list = lOf (upd ρ 5 ds) := by rw [same _ (by show (R.lo 5 && (T.nil.lo 5 && T.nil.lo 5)) = true; rw [hlo]; rfl), h50, s2]
  have g52 : (T.den ΦP (upd ρ 5 ds) (.fn 52 R .nil .nil)).int = nOf (upd ρ 5 ds) := by rw [same _ (by show (R.lo 5 && (T.nil.lo 5 && T.nil.lo 5)) = true; rw [hlo]; rfl), h52, s1]
  generalize upd ρ 5 ds = ρ' at *
  have v5 : (ρ' 5).int = i := by rw [e5]; exact i0
  have hl8 := D'.le
  refine ⟨?_, fun c => ?_, fun c => hr⟩
  · intro t p hm
    simp only [List.mem_cons, Prod.mk.injEq, List.not_mem_nil, or_false] at hm
    obtain ⟨rfl, rfl⟩ := hm
    rw [le_t, den_var, v5]; exact Int.natCast_nonneg _
  · rw [lt_t, den_var, v5, D'.cnt] at c
    have hin : i < nOf ρ' := by omega
    have hM := at73_is (b := 5) v5
    refine chkIf_ok (fun hc => ?_) (chkIf_ok (fun hc => ?_) (chkIf_ok (fun hc => ?_) ⟨fun e => ?_, fun e => ?_⟩))
    · rw [lt_t, den_var, v5, g52]; omega
    · rw [le_t, int_add, hM, int_len, g50, D'.i.len]; show ((73 * i : Nat) : Int) + 73 ≤ _; omega
    · rw [le_t, int_add, hM, int_len, den_var, D'.len]; show ((73 * i : Nat) : Int) + 73 ≤ _; omega
    · exfalso
      rw [not_t] at e
      have : (T.den ΦP ρ' (eqsT (.fn 50 R .nil .nil) (.var 2) (at73 5) 0 72)).bool = true := by
        rw [eqs_iff hM]
        intro j _ hj
        rw [g50, den_var, D'.at_ (by omega)]
      rw [this] at e; cases e
    · refine ok_back ⟨⟨i + 1, more_is v5 (by omega), by rw [← s1]; omega⟩, ?_⟩
      show nOf ρ - (T.den ΦP ρ' (moreT cut 5)).int.toNat < nOf ρ - (nthD ds 0).int.toNat
      rw [more_is v5 (by omega), i0, ← s1]; omega
theorem beq_iff {x y : T} : (T.den ΦP ρ (.c2 .beq x y)).bool = true ↔ ((T.den ΦP ρ x).bool = true ↔ (T.den ΦP ρ y).bool = true) := by
  show ((T.den ΦP ρ x).bool == (T.den ΦP ρ y).bool) = true ↔ _
  cases (T.den ΦP ρ x).bool <;> cases (T.den ΦP ρ y).bool <;> simp
theorem psX_is (D : PsD ρ cut n0) {i : Nat} (hv : (ρ 3).int = i) (hi : i < nOf ρ) : (T.den ΦP ρ psX).int = nextK (hdAt (lOf ρ) i) := by
  have hH : (T.den ΦP ρ (cellT (.var 2) (at73 3) 0 73)).list = hdAt (ρ 2).list i := den_hdAt (Φ := ΦP) (by rw [den_var]) hv D.len (by have := D.le; omega)
  have hr := nextK_range (hdAt (lOf ρ) i)
  show IntKind.u8.wrap (nextK (T.den ΦP ρ (cellT (.var 2) (at73 3) 0 73)).list) = _
  rw [hH, D.hd hi]
  exact wrap_is (by simp only [kmin]; omega) (by simp only [kmax]; omega)
theorem tl_more {L : List Int} {n i : Nat} (h : Tl L n i) (h1 : nextK (hdAt L i) ≠ 0 ↔ i + 1 < n) (h2 : nextK (hdAt L i) ≠ 0 → nextK (hdAt L i) = g L (73 * (i + 1))) : Tl L n (i + 1) :=
  ⟨h.1, fun j hj => by
    rcases Nat.lt_succ_iff_lt_or_eq.mp hj with hj | rfl
    · exact h.2 j hj
    · exact ⟨h1, h2⟩⟩
theorem ps_back {ds ds' : List D} {i : Nat} (h0 : (nthD ds 0).int = i) (hin : i < nOf ρ) (e0 : (nthD ds' 0).int = ((i + 1 : Nat) : Int)) (ht : (nthD ds' 1).bool = true → Tl (lOf ρ) (nOf ρ) (i + 1)) : psJ.I 0 ρ ds' ∧ psJ.μ 0 ρ ds' < psJ.μ 0 ρ ds := by
  refine ⟨⟨i + 1, e0, by omega, ht⟩, ?_⟩
  show nOf ρ - (nthD ds' 0).int.toNat < nOf ρ - (nthD ds 0).int.toNat
  rw [e0, h0]; omega
theorem lp0_ok {rest : M (V × St)} {B : BK} {K : BK → Env → V × St → Prop} (D : PsD ρ cut n0) (hpos : 0 < nOf ρ) (hrest : ∀ B' ds, ds.length = 2 → ((upd ρ 3 ds 4).bool = true → Tl (lOf ρ) (nOf ρ) (nOf ρ)) → rest.ok ΦP psJ B' (upd ρ 3 ds) K) : (lp0 cut rest).ok ΦP psJ B ρ K := by
  refine ⟨⟨0, rfl, Nat.zero_le _, fun h => ?_⟩, ?_⟩
  · replace h : (T.den ΦP ρ (.c2 .eq (.c2 .rd (.var 2) (.num 0)) (.num 1))).bool = true := h
    rw [eq_t] at h
    have h : (ρ 2).list[0]?.getD 0 = 1 := h
    rw [D.at_ (by omega)] at h
    exact ⟨⟨hpos, h⟩, fun j hj => by omega⟩
  rintro ds hds ⟨i, i0, i1, i2⟩
  have lo : ∀ j, j < 3 → upd ρ 3 ds j = ρ j := fun j hj => upd_lo ds hj
  have e3 : upd ρ 3 ds 3 = nthD ds 0 := upd_at (i := 0) (by omega)
  have e4 : upd ρ 3 ds 4 = nthD ds 1 := upd_at (i := 1) (by omega)
  have hr := hrest (B.at_ 3 fun ds' => psJ.I 0 ρ ds' ∧ psJ.μ 0 ρ ds' < psJ.μ 0 ρ ds) ds hds
  have D' := D.to lo
  obtain ⟨s1, s2⟩ := same3 lo
  generalize upd ρ 3 ds = ρ' at *
  have v3 : (ρ' 3).int = i := by rw [e3]; exact i0
  have v4 : (ρ' 4).bool = (nthD ds 1).bool := by rw [e4]
  have hl8 := D'.le
  refine ⟨?_, fun c => ?_, fun c => ?_⟩
  · intro t p hm
    simp only [List.mem_cons, Prod.mk.injEq, List.not_mem_nil, or_false] at hm
    obtain ⟨rfl, rfl⟩ := hm
    rw [le_t, den_var, v3]; exact Int.natCast_nonneg _
  · rw [lt_t, den_var, v3, D'.cnt] at c
    have hin' : i < nOf ρ' := by omega
    have hin : i < nOf ρ := by omega
    have hM := at73_is (b := 3) v3
    have hX := psX_is D' v3 hin'
    rw [s2] at hX
    have hmore := more_is (cut := cut) v3 (by omega)
    have hrange := nextK_range (hdAt (lOf ρ) i)
    have hnext : i + 1 < nOf ρ → (T.den ΦP ρ' (.c2 .rd (.var 2) (.c2 .mul (moreT cut 3) (.num 73)))).int = g (lOf ρ) (73 * (i + 1)) := fun h => by
      rw [int_rd, int_mul, hmore, den_var]
      show (ρ' 2).list[(((i + 1 : Nat) : Int) * 73).toNat]?.getD 0 = _
      rw [show (((i + 1 : Nat) : Int) * 73).toNat = 73 * (i + 1) from by omega, D'.at_ (by omega), s2]
    have hx : (T.den ΦP ρ' (.c1 .not (.c2 .eq psX (.num 0)))).bool = true ↔ nextK (hdAt (lOf ρ) i) ≠ 0 := by
      rw [not_t, eq_f, hX]; exact Iff.rfl
    have fin : ∀ {x : T}, (T.den ΦP ρ' x).int = g (lOf ρ) (73 * (i + 1)) → Tl (lOf ρ) (nOf ρ) i → (nextK (hdAt (lOf ρ) i) ≠ 0 ↔ i + 1 < nOf ρ) → (T.den ΦP ρ' (.c2 .eq psX x)).bool = true → Tl (lOf ρ) (nOf ρ) (i + 1) := fun hx hT h1 he => by
      rw [eq_t, hX, hx] at he
      exact tl_more hT h1 (fun _ => he)
    cases cut with
    | false =>
      have hy : (T.den ΦP ρ' (.c2 .lt (moreT false 3) (.var 1))).bool = true ↔ i + 1 < nOf ρ := by
        have hc := D'.cnt
        rw [lt_t, hmore]
        show ((i + 1 : Nat) : Int) < (ρ' 1).int ↔ _
        have hc : (ρ' 1).int = nOf ρ' := hc
        rw [hc, s1]; omega
      refine ⟨by rw [le_t, int_add, hM, int_len, den_var, D'.len]; show ((73 * i : Nat) : Int) + 73 ≤ _; omega, fun t => ⟨fun b => ?_, fun b => ok_back (ps_back i0 hin hmore (fun h => by cases h))⟩, fun t => ok_back (ps_back i0 hin hmore (fun h => by cases h))⟩
      have hT := i2 (v4.symm.trans t)
      have h1 : nextK (hdAt (lOf ρ) i) ≠ 0 ↔ i + 1 < nOf ρ := hx.symm.trans ((beq_iff.mp b).trans hy)
      refine ⟨fun z => ?_, fun z => ?_⟩
      · rw [eq_t, hX] at z
        exact ok_back (ps_back i0 hin hmore (fun _ => tl_more hT h1 (fun h => absurd z h)))
      · rw [eq_f, hX] at z
        have hlt := h1.mp z
        refine ⟨by rw [le_t, hmore]; exact Int.natCast_nonneg _, hy.mpr hlt, by rw [le_t, int_add, int_mul, hmore, int_len, den_var, D'.len]; show ((i + 1 : Nat) : Int) * 73 + 1 ≤ _; omega, ok_back (ps_back i0 hin hmore (fin (hnext hlt) hT h1))⟩
    | true =>
      have hy : (T.den ΦP ρ' (.c2 .lt (.var 3) (.num 7))).bool = true ↔ i + 1 < nOf ρ := by
        rw [lt_t, den_var, v3]
        show (i : Int) < 7 ↔ _
        have := (D.yes rfl).1
        omega
      refine ⟨fun t => ⟨fun b => ?_, fun b => ok_back (ps_back i0 hin hmore (fun h => by cases h))⟩, fun t => ok_back (ps_back i0 hin hmore (fun h => by cases h))⟩
      have hT := i2 (v4.symm.trans t)
      have h1 : nextK (hdAt (lOf ρ) i) ≠ 0 ↔ i + 1 < nOf ρ := hx.symm.trans ((beq_iff.mp b).trans hy)
      refine ⟨fun z => ?_, fun z => ?_⟩
      · rw [eq_t, hX] at z
        exact ok_back (ps_back i0 hin hmore (fun _ => tl_more hT h1 (fun h => absurd z h)))
      · rw [eq_f, hX] at z
        have hlt := h1.mp z
        exact ⟨hy.mpr hlt, ok_back (ps_back i0 hin hmore (fin (hnext hlt) hT h1))⟩
  · rw [lt_f, den_var, v3, D'.cnt] at c
    have : i = nOf ρ := by omega
    subst this
    exact hr (fun h => i2 (by rw [← v4]; exact h))
theorem psRest_ok {ρ0 : Env} {R : T} {B : BK} (D : PsD ρ cut n0) (hlo : R.lo 3 = true) (hat : StkAt (lOf ρ) (ρ 0).list 0 (T.den ΦP ρ R).list) (ht : (ρ 4).bool = true → Tl (lOf ρ) (nOf ρ) (nOf ρ)) :
    (psRest cut R).ok ΦP psJ B ρ (fun _ ρ' r => Leaf ΦP ρ0 ρ' psRes r) := by
  refine ⟨fun t => ?_, fun t => lp2_ok (by decide) (by decide) D hat⟩
  have hl8 := D.le
  obtain ⟨p1, p2, p3⟩ := peel_told D.i hl8.2 hat (ht t)
  have hn : (T.den ΦP ρ (.fn 52 R .nil .nil)).int = nOf ρ := by
    show (((peelOf (T.den ΦP ρ R).list).1.length / 73 : Nat) : Int) = _
    rw [p2, D.i.len, Nat.mul_div_cancel_left _ (by decide)]
  have h50 : (T.den ΦP ρ (.fn 50 R .nil .nil)).list = lOf ρ := p2
  have h53 : (T.den ΦP ρ (.fn 53 R .nil .nil)).list = (ρ 0).list := p3
  have hpos := (ht t).1.1
  have hs := D.i.short
  refine ⟨fun c => ⟨by rw [le_t, hn]; show (1 : Int) ≤ _; omega, by rw [le_t, hn]; show _ ≤ (8 : Int); omega, by rw [eq_t, int_len, h50, int_mul, hn, D.i.len]; show ((73 * nOf ρ : Nat) : Int) = (nOf ρ : Int) * 73; omega, ?_, by rw [bytes_t, h53]; exact D.i.bytes, ?_, fun e => ?_, fun _ => ⟨fun e => ?_, fun _ => ?_⟩⟩, fun c => ?_⟩
  · show inKinds kHead 0 (T.den ΦP ρ (.fn 50 R .nil .nil)).list = true
    rw [h50]; exact D.i.kin
  · rw [le_t, int_len, int_len, h53]
    have : (ρ 0).list.length ≤ (T.den ΦP ρ R).list.length := by rw [← p3, List.length_drop]; omega
    omega
  · exfalso; rw [not_t, eq_f, hn, D.cnt] at e; exact e rfl
  · exfalso; rw [not_t, leq_f] at e; exact e h53
  · refine lp1_ok D (lo_more hlo) h50 hn (fun B' ds => ?_)
    have lo : ∀ j, j < 3 → upd ρ 5 ds j = ρ j := fun j hj => upd_lo ds (by omega)
    have e : T.den ΦP (upd ρ 5 ds) R = T.den ΦP ρ R := (lo_den (ρ := ρ) (ρ' := upd ρ 5 ds) (fun j hj => (lo j hj).symm) R hlo).symm
    refine lp2_ok (by decide) (by decide) (D.to lo) ?_
    rw [e, (same3 lo).2, lo 0 (by decide)]; exact hat
  · exfalso; rw [eq_f] at c; exact c p1
end
end Go.Proofs.YtfhjlimdakphcaaGreat.Sx
set_option linter.unusedVariables false
set_option linter.unusedSimpArgs false
set_option maxRecDepth 100000
namespace Go.Proofs.YtfhjlimdakphcaaGreat.Sx
open Go
def stT : Bool → T
  | true => .c2 .take (.num 584) (.var 2)
  | false => .var 2
def psR (cut : Bool) : T := .fn 81 (stT cut) (.var 0) .nil
section
variable {ρ ρ' : Env} {cut : Bool} {n0 : Nat}
theorem stT_is (D : PsD ρ cut n0) : (T.den ΦP ρ (stT cut)).list = lOf ρ := by
  cases cut with
  | true =>
    rw [lOf, (D.yes rfl).1]
    show (T.den ΦP ρ (.c2 .take (.num 584) (.var 2))).list = _
    rw [list_take, den_var]; rfl
  | false =>
    show (ρ 2).list = _
    rw [lOf, D.no rfl, List.take_of_length_le (by rw [D.len]; exact Nat.le_refl _)]
theorem psR_is (D : PsD ρ cut n0) : (T.den ΦP ρ (psR cut)).list = (putH pushErr (rowsOf (lOf ρ)) (ρ 0).list).2 := by
  show (putH pushErr (rowsOf (T.den ΦP ρ (stT cut)).list) (ρ 0).list).2 = _
  rw [stT_is D]
theorem psE_is (D : PsD ρ cut n0) : (T.den ΦP ρ (.fn 80 (stT cut) (.var 0) .nil)).int = stkErr (lOf ρ) (ρ 0).list := by
  show stkErr (T.den ΦP ρ (stT cut)).list (ρ 0).list = _
  rw [stT_is D]
theorem psR_lo : (psR cut).lo 3 = true := by cases cut <;> decide
theorem stk_put {L p : List Int} (h8 : ¬ L.length / 73 > 8) (h : stkErr L p = 0) : (putH pushErr (rowsOf L) p).1 = 0 := by
  rw [stkErr, if_neg (by rw [rows_len]; omega)] at h
  exact h
theorem ps_at (D : PsD ρ cut n0) (h : stkErr (lOf ρ) (ρ 0).list = 0) : StkAt (lOf ρ) (ρ 0).list 0 (T.den ΦP ρ (psR cut)).list := by
  obtain ⟨g1, g2⟩ := stk_good D.i h
  refine ⟨?_, by rw [psR_is D]; exact g1, by rw [psR_is D]; exact g2⟩
  rw [psR_is D, List.drop_zero, ← stk_put (by rw [D.i.rows]; have := D.le; omega) h]
end
theorem psA_ok : TmplOk Go.Proofs.Tryz.prog ΦP 6 tWPeelsA := by
  refine tmpl_of consPs_ok treePsA_is (fun ρ res hres => ⟨psJ, ?_⟩)
  obtain ⟨hcut, hres⟩ := chk_some hres
  obtain ⟨n, hn, hn1, hi, hres⟩ := stk_some hres
  obtain rfl := ret_some hres
  rw [le_t, den_var, hn] at hcut
  replace hcut : (n : Int) ≤ 8 := hcut
  have hnO : nOf ρ = n := by rw [nOf, hn, Int.toNat_natCast]; omega
  have hlO : lOf ρ = (ρ 2).list := by rw [lOf, hnO, List.take_of_length_le (by rw [hi.len]; exact Nat.le_refl _)]
  have D : PsD ρ false n := ⟨by rw [hnO, hlO]; exact hi, hn, hi.len, fun _ => hnO, fun h => by cases h⟩
  refine ⟨fun c => ?_, fun c => leaf_true rfl (by decide)⟩
  replace c := (eq_t ΦP ρ (.fn 80 (stT false) (.var 0) .nil) (.num 0)).mp c
  rw [psE_is D] at c
  have hat := ps_at D c
  refine ⟨(bytes_t ΦP ρ (psR false)).mpr hat.bytes, (le_t ΦP ρ (.c1 .len (psR false)) (.num 140737488351232)).mpr ?_, fun h => ?_, fun h => ?_⟩
  · rw [int_len]; have := hat.short; show ((T.den ΦP ρ (psR false)).list.length : Int) ≤ 140737488351232; omega
  · rw [lt_t, den_var, hn] at h
    replace h : (0 : Int) < n := h
    refine lp0_ok (cut := false) (rest := psRest false (psR false)) D (by omega) (fun B' ds _ ht => ?_)
    have lo : ∀ j, j < 3 → upd ρ 3 ds j = ρ j := fun j hj => upd_lo ds hj
    have e := same3 lo
    refine psRest_ok (D.to lo) psR_lo ?_ (fun h4 => by rw [e.1, e.2]; exact ht h4)
    rw [psR_is (D.to lo), e.2, lo 0 (by decide), ← psR_is D]
    exact hat
  · rw [lt_f, den_var, hn] at h
    replace h : (n : Int) ≤ (0 : Int) := h
    have h0 : nOf ρ = 0 := by omega
    refine ⟨⟨0, rfl, Nat.zero_le _, fun h => by cases h⟩, ?_⟩
    rintro ds hds ⟨i, i0, i1, i2⟩
    have lo : ∀ j, j < 3 → upd ρ 3 ds j = ρ j := fun j hj => upd_lo ds hj
    have e3 : upd ρ 3 ds 3 = nthD ds 0 := upd_at (i := 0) (by omega)
    have e4 : upd ρ 3 ds 4 = nthD ds 1 := upd_at (i := 1) (by omega)
    have hno : (upd ρ 3 ds 4).bool = true → False := fun t => by
      have := (i2 (by rw [← e4]; exact t)).1.1
      omega
    have D' := D.to lo
    have hat' : StkAt (lOf (upd ρ 3 ds)) (upd ρ 3 ds 0).list 0 (T.den ΦP (upd ρ 3 ds) (psR false)).list := by
      rw [psR_is D', (same3 lo).2, lo 0 (by decide), ← psR_is D]; exact hat
    have hz : nOf (upd ρ 3 ds) = 0 := by rw [(same3 lo).1]; exact h0
    generalize upd ρ 3 ds = ρ1 at *
    refine ⟨?_, fun t => (hno t).elim, fun t => ?_⟩
    · intro t p hm
      simp only [List.mem_cons, Prod.mk.injEq, List.not_mem_nil, or_false] at hm
      obtain ⟨rfl, rfl⟩ := hm
      rw [le_t, den_var, e3, i0]; exact Int.natCast_nonneg _
    · refine ⟨⟨0, rfl, Nat.zero_le _, (int_len ΦP ρ1 (psR false)), hat'⟩, ?_⟩
      rintro es hes ⟨k, k0, k1, k2, k3⟩
      have lo2 : ∀ j, j < 5 → upd ρ1 5 es j = ρ1 j := fun j hj => upd_lo es hj
      have f5 : upd ρ1 5 es 5 = nthD es 0 := upd_at (i := 0) (by omega)
      have f6 : upd ρ1 5 es 6 = nthD es 1 := upd_at (i := 1) (by omega)
      have f7 : upd ρ1 5 es 7 = nthD es 2 := upd_at (i := 2) (by omega)
      have s1 := lo2 0 (by decide)
      generalize upd ρ1 5 es = ρ2 at *
      have hs := k3.short
      refine ⟨?_, ?_, trivial, (by decide)⟩
      · intro t p hm
        simp only [List.mem_cons, Prod.mk.injEq, List.not_mem_nil, or_false] at hm
        rcases hm with ⟨rfl, rfl⟩ | ⟨rfl, rfl⟩ | ⟨rfl, rfl⟩ | ⟨rfl, rfl⟩ | ⟨rfl, rfl⟩
        · rw [le_t, den_var, f5, k0]; exact Int.natCast_nonneg _
        · rw [le_t, den_var, f6, k2]; exact Int.natCast_nonneg _
        · rw [le_t, den_var, f6, k2]; show ((nthD es 2).list.length : Int) ≤ 140737488351232; omega
        · rw [eq_t, int_len, den_var, den_var, f7, f6, k2]
        · rw [bytes_t, den_var, f7]; exact k3.bytes
      · have hk : k = 0 := by omega
        subst hk
        have hp := k3.put
        have hr : rowsOf (lOf ρ1) = [] := by
          apply List.length_eq_zero_iff.mp
          rw [rows_len, D'.i.rows]; exact hz
        rw [hr] at hp
        show decide ((ρ2 7).list = (ρ2 0).list) = true
        rw [f7, s1]
        injection hp with _ hq
        rw [← hq]; exact decide_eq_true rfl
theorem psB_ok : TmplOk Go.Proofs.Tryz.prog ΦP 6 tWPeelsB := by
  refine tmpl_of consPs_ok treePsB_is (fun ρ res hres => ⟨psJ, ?_⟩)
  obtain ⟨hcut, hres⟩ := chk_some hres
  obtain ⟨n, hn, hn1, hi, hres⟩ := stk_some hres
  obtain rfl := ret_some hres
  rw [lt_t, den_var, hn] at hcut
  replace hcut : (8 : Int) < n := hcut
  have hnO : nOf ρ = 8 := by rw [nOf, hn, Int.toNat_natCast]; omega
  have hlO : (lOf ρ).length = 73 * 8 := by rw [lOf, hnO, List.length_take, hi.len]; omega
  have hk : inKinds kHead 0 (lOf ρ) = true := by
    have := hi.kin
    rw [inKinds_iff] at this ⊢
    intro j z hj
    rw [lOf, List.getElem?_take] at hj
    split at hj
    · exact this j z hj
    · cases hj
  have D : PsD ρ true n := ⟨(by rw [hnO]; exact ⟨hlO, hk, hi.bytes, hi.short⟩), hn, hi.len, (fun h => by cases h), (fun _ => ⟨hnO, by omega⟩)⟩
  refine ⟨fun c => ?_, fun c => leaf_true rfl (by decide)⟩
  replace c := (eq_t ΦP ρ (.fn 80 (stT true) (.var 0) .nil) (.num 0)).mp c
  rw [psE_is D] at c
  have hat := ps_at D c
  refine ⟨(bytes_t ΦP ρ (psR true)).mpr hat.bytes, (le_t ΦP ρ (.c1 .len (psR true)) (.num 140737488351232)).mpr ?_, ?_⟩
  · rw [int_len]; have := hat.short; show ((T.den ΦP ρ (psR true)).list.length : Int) ≤ 140737488351232; omega
  · refine lp0_ok (cut := true) (rest := psRest true (psR true)) D (by omega) (fun B' ds _ ht => ?_)
    have lo : ∀ j, j < 3 → upd ρ 3 ds j = ρ j := fun j hj => upd_lo ds hj
    have e := same3 lo
    refine psRest_ok (D.to lo) psR_lo ?_ (fun h4 => by rw [e.1, e.2]; exact ht h4)
    rw [psR_is (D.to lo), e.2, lo 0 (by decide), ← psR_is D]
    exact hat
theorem ps_val {ρ : Env} {t : T} {x : O Res} {res : Res} (h : (T.den ΦP ρ t).bool = true) (hx : x.val (T.den ΦP ρ) = some res) : (O.chk t x).val (T.den ΦP ρ) = some res := by simp only [O.val]; rw [if_pos h]; exact hx
theorem peels_ok : TmplOk Go.Proofs.Tryz.prog ΦP 6 tWPeels := by
  intro ρ res hres
  by_cases c : (T.den ΦP ρ (.c2 .le (.var 1) (.num 8))).bool = true
  · exact psA_ok ρ res (ps_val c hres)
  · refine psB_ok ρ res (ps_val ?_ hres)
    rw [le_t] at c
    rw [lt_t]
    omega
end Go.Proofs.YtfhjlimdakphcaaGreat.Sx
set_option linter.unusedVariables false
set_option linter.unusedSimpArgs false
namespace Go.Proofs.YtfhjlimdakphcaaGreat.Sx
open Go Go.RowKit Go.WideShapes Go.ChangeShapes
def flatS (K : TypeId → Option (List (Option IntKind))) (sz : TypeId → Nat) : List Field → Nat → Option (List (Option IntKind))
  | [], _ => some []
  | f :: fs, o => match K f.type with
    | some ks => if f.offset = o ∧ ks.length = sz f.type then (flatS K sz fs (o + ks.length)).map (ks ++ ·) else none
    | none => none
def repK (ks : List (Option IntKind)) : Nat → List (Option IntKind)
  | 0 => []
  | n + 1 => repK ks n ++ ks
def kflat (P : Program) : Nat → TypeId → Option (List (Option IntKind))
  | 0, _ => none
  | n + 1, t => match P.underlying t with
    | some .bool => some [none]
    | some (.int k) => some [some k]
    | some (.struct fs) => match flatS (kflat P n) P.cellsOf fs.toList 0 with
      | some ks => if ks.length = P.cellsOf t then some ks else none
      | none => none
    | some (.array m e) => match kflat P n e with
      | some ks => if ks.length = P.cellsOf e ∧ m * ks.length = P.cellsOf t then some (repK ks m) else none
      | none => none
    | _ => none
def fitC : Option IntKind → Value → Prop
  | none, v => ∃ b, v = .bool b
  | some k, v => ∃ n, v = .int k n ∧ (kmin k ≤ n ∧ n ≤ kmax k)
def fitsL : List (Option IntKind) → List Value → Prop
  | [], [] => True
  | k :: ks, v :: vs => fitC k v ∧ fitsL ks vs
  | _, _ => False
theorem fits_app : ∀ {a b : List (Option IntKind)} {x y : List Value}, fitsL a x → fitsL b y → fitsL (a ++ b) (x ++ y)
  | [], _, [], _, _, h => h
  | [], _, _ :: _, _, h, _ => h.elim
  | _ :: _, _, [], _, h, _ => h.elim
  | _ :: _, _, _ :: _, _, h, k => ⟨h.1, fits_app h.2 k⟩
theorem fits_get : ∀ {a : List (Option IntKind)} {x : List Value}, fitsL a x → ∀ {i : Nat} {k : Option IntKind}, a[i]? = some k → ∃ v, x[i]? = some v ∧ fitC k v
  | [], [], _, i, k, h => by simp at h
  | [], _ :: _, h, _, _, _ => h.elim
  | _ :: _, [], h, _, _, _ => h.elim
  | k :: a, v :: x, h, 0, k', e => by
    simp only [List.getElem?_cons_zero, Option.some.injEq] at e
    subst e; exact ⟨v, rfl, h.1⟩
  | k :: a, v :: x, h, i + 1, k', e => by
    simp only [List.getElem?_cons_succ] at e ⊢
    exact fits_get h.2 e
section
variable {H : Type} {enc : TypeId × Value → H} {P : Program} {W : World} {base : Nat} {spare : Nat → Bool} {held : Bool}
theorem flatS_fits {K : TypeId → Option (List (Option IntKind))} {sz : TypeId → Nat} {m : Nat} {cs : List Value} (ih : ∀ {t : TypeId} {ks : List (Option IntKind)}, K t = some ks → ∀ {cs : List Value} {x : DataW H × List MemPlace}, DataW.trod enc P W base spare held m t cs = some x → fitsL ks cs) :
    ∀ (l : List Field) (o : Nat) (ks : List (Option IntKind)), flatS K sz l o = some ks → (∀ f ∈ l, ∃ x, DataW.trod enc P W base spare held m f.type ((cs.drop f.offset).take (sz f.type)) = some x) → fitsL ks ((cs.drop o).take ks.length)
  | [], o, ks, h, _ => by
    simp only [flatS, Option.some.injEq] at h
    subst h; simp [fitsL]
  | f :: fs, o, ks, h, hx => by
    simp only [flatS] at h
    split at h
    · rename_i k1 hk1
      split at h
      · rename_i hc
        obtain ⟨k2, hk2, rfl⟩ := Option.map_eq_some_iff.mp h
        obtain ⟨x, hx1⟩ := hx f (List.mem_cons_self ..)
        have h1 := ih hk1 hx1
        rw [hc.1, ← hc.2] at h1
        have h2 := flatS_fits ih fs _ _ hk2 (fun g hg => hx g (List.mem_cons_of_mem _ hg))
        rw [List.length_append, List.take_add, List.drop_drop]
        exact fits_app h1 h2
      · cases h
    · cases h
theorem flat_trod : ∀ (F : Nat) {t : TypeId} {ks : List (Option IntKind)}, kflat P F t = some ks → ∀ {fuel : Nat} {cs : List Value} {x : DataW H × List MemPlace}, DataW.trod enc P W base spare held fuel t cs = some x → fitsL ks cs
  | 0, t, ks, h, _, _, _, _ => by cases h
  | F + 1, t, ks, h, fuel, cs, x, hx => by
    simp only [kflat] at h
    split at h
    · rename_i hu
      injection h with h; subst h
      obtain ⟨b, rfl, _⟩ := DataW.trod_bool hu hx
      exact ⟨⟨b, rfl⟩, trivial⟩
    · rename_i k hu
      injection h with h; subst h
      obtain ⟨n, rfl, _, hw⟩ := DataW.trod_int hu hx
      exact ⟨⟨n, rfl, wf_bounds hw⟩, trivial⟩
    · rename_i fs hu
      split at h
      · rename_i k1 hk1
        split at h
        · rename_i hc
          injection h with h; subst h
          obtain ⟨xs, n, rfl, _, hl, hxl, hf⟩ := DataW.trod_struct hu hx
          have := flatS_fits (m := n) (cs := cs) (fun hk => fun {cs x} hx => flat_trod F hk hx) fs.toList 0 k1 hk1 (fun f hf' => by
            obtain ⟨i, hi⟩ := List.getElem?_of_mem hf'
            have hi' : fs[i]? = some f := by rw [← Array.getElem?_toList]; exact hi
            have hlt : i < xs.length := by rw [hxl]; exact (Array.getElem?_eq_some_iff.1 hi').1
            exact ⟨xs[i], by rw [hf i f hi', List.getElem?_eq_getElem hlt]⟩)
          rw [List.drop_zero, List.take_of_length_le (by omega)] at this
          exact this
        · cases h
      · cases h
    · rename_i m e hu
      split at h
      · rename_i k1 hk1
        split at h
        · rename_i hc
          injection h with h; subst h
          obtain ⟨xs, n, rfl, _, hl, hxl, hf⟩ := DataW.trod_array hu hx
          have each : ∀ j, j ≤ m → fitsL (repK k1 j) (cs.take (j * k1.length)) := by
            intro j
            induction j with
            | zero => intro _; simp [repK, fitsL]
            | succ j ihj =>
              intro hj
              rw [Nat.succ_mul, List.take_add]
              refine fits_app (ihj (by omega)) ?_
              have := hf j (by omega)
              rw [List.getElem?_eq_getElem (by omega), ← hc.1] at this
              exact flat_trod F hk1 this
          have := each m (Nat.le_refl _)
          rw [List.take_of_length_le (by omega)] at this
          exact this
        · cases h
      · cases h
    · cases h
end
def encV : Value → Int
  | .int _ n => n
  | .bool b => if b then 1 else 0
  | _ => 0
def kAtM (mix : Bool) (ks : List IntKind) (i : Nat) : Option IntKind := if mix ∧ i = 0 then none else some (ks.getD i .u8)
structure RowS (mix : Bool) (ks : List IntKind) (w : World) (a : Option Addr) (len cap : Nat) (l : List Int) (pl : Place) : Prop where
  heap : pl.sz ≠ 0 → pl.b < w.heap.size
  row : (mix = false → rowRep w pl ks l) ∧ (mix = true → mixRep w pl ks l)
  long : l.length = len * ks.length
  le : len ≤ cap
  fit : cap * ks.length ≤ pl.sz
  at_ : 0 < cap → a = some ⟨pl.b, pl.o, none⟩
  kin : inKinds ks 0 l = true
theorem addr_add2 (b o i j : Nat) : ((⟨b, o, none⟩ : Addr).add i).add j = ⟨b, o + i + j, none⟩ := by
  simp only [Addr.add]
  by_cases hi : i = 0
  · subst hi
    by_cases hj : j = 0
    · subst hj; rfl
    · simp [hj]
  · by_cases hj : j = 0
    · subst hj; simp [hi]
    · simp [hi, hj]
theorem cell_spot {w : World} {x : Addr} {v : Value} (h : w.cell? x = some v) (hv : ∃ k, fitC k v) : x.spot = none := by
  cases hs : x.spot with
  | none => rfl
  | some s =>
    exfalso
    unfold World.cell? at h
    rw [hs] at h
    obtain ⟨k, hk⟩ := hv
    cases k with
    | none => obtain ⟨b, rfl⟩ := hk; revert h; split <;> simp
    | some k => obtain ⟨n, rfl, _⟩ := hk; revert h; split <;> simp
theorem rows_of {H : Type} {enc : TypeId × Value → H} {P : Program} {W : World} {base : Nat} {spare : Nat → Bool} {held : Bool} {t e F : Nat} {ks : List IntKind} {mix : Bool} {ko : List (Option IntKind)} {a : Option Addr} {len cap : Nat} {d : DataW H} {ps : List MemPlace} (hsp : ∀ b, spare b = true)
    (hu : P.underlying t = some (.slice e)) (hk : kflat P F e = some ko) (hko : ko = (List.range ks.length).map (kAtM mix ks)) (hc : P.cellsOf e = ks.length) (hpos : 0 < ks.length) (hm0 : mix = true → ks.getD 0 .u8 = .u8) (h : DataW.Trod enc P W base spare held t (.slice a len cap) d ps) :
    ∃ l pl, RowS mix ks W a len cap l pl := by
  obtain ⟨fuel, hf⟩ := h
  rcases DataW.trod_slice hu hf with ⟨hcs, _⟩ | ⟨x, len', cap', elems, rest, n, _, hcs, _, _, hl, hm, hlen, hel, hre, _⟩
  · simp [Value.cells] at hcs
    obtain ⟨rfl, rfl, rfl⟩ := hcs
    exact ⟨[], ⟨0, 0, 0⟩, fun h => absurd rfl h, ⟨fun _ => ⟨hpos, by simp, fun i z hz => by simp at hz⟩, fun _ => ⟨hpos, by simp, fun i z hz => by simp at hz⟩⟩, by simp, Nat.le_refl _, by simp, fun h => absurd h (by omega), by simp [inKinds]⟩
  · simp [Value.cells] at hcs
    obtain ⟨rfl, rfl, rfl⟩ := hcs
    have each : ∀ i, i < cap → ∃ cs, (∀ j, j < ks.length → W.cell? ((x.add (i * ks.length)).add j) = cs[j]?) ∧ fitsL ko cs := by
      intro i hi
      have : ∃ y, (W.cells? base (x.add (i * P.cellsOf e)) (P.cellsOf e)).bind (DataW.trod enc P W base spare held n e) = some y := by
        by_cases hil : i < len
        · exact ⟨elems[i]'(by omega), by rw [hel i hil, List.getElem?_eq_getElem (by omega)]⟩
        · obtain ⟨hrl, hr⟩ := hre (hsp _)
          have := hr (i - len) (by omega)
          rw [show len + (i - len) = i by omega] at this
          exact ⟨rest[i - len]'(by omega), by rw [this, List.getElem?_eq_getElem (by omega)]⟩
      obtain ⟨y, hy⟩ := this
      rw [Option.bind_eq_some_iff] at hy
      obtain ⟨cs, h1, h2⟩ := hy
      rw [hc] at h1
      exact ⟨cs, (World.cells?_some h1).2.2, flat_trod F hk h2⟩
    by_cases h0 : cap = 0
    · have : len = 0 := by omega
      subst this
      exact ⟨[], ⟨0, 0, 0⟩, fun h => absurd rfl h, ⟨fun _ => ⟨hpos, by simp, fun i z hz => by simp at hz⟩, fun _ => ⟨hpos, by simp, fun i z hz => by simp at hz⟩⟩, by simp, hl, by simp [h0], fun h => absurd h (by omega), by simp [inKinds]⟩
    · have hkol : ko.length = ks.length := by rw [hko]; simp
      have first : ∀ i, i < cap → ∀ j, j < ks.length → ∃ v, W.cell? ((x.add (i * ks.length)).add j) = some v ∧ fitC (kAtM mix ks j) v := by
        intro i hi j hj
        obtain ⟨cs, h1, h2⟩ := each i hi
        obtain ⟨v, hv, hfit⟩ := fits_get h2 (i := j) (k := kAtM mix ks j) (by rw [hko, List.getElem?_map, List.getElem?_range hj]; rfl)
        exact ⟨v, by rw [h1 j hj, hv], hfit⟩
      have hx : x.spot = none := by
        obtain ⟨v, hv, hfit⟩ := first 0 (by omega) 0 hpos
        have := cell_spot hv ⟨_, hfit⟩
        rw [Nat.zero_mul] at this
        cases x with
        | mk b o s =>
          cases s with
          | none => rfl
          | some s => simp [Addr.add] at this
      have ha : ∀ i j, (x.add i).add j = ⟨x.block, x.off + i + j, none⟩ := fun i j => by
        have e : x = ⟨x.block, x.off, none⟩ := by cases x; cases hx; rfl
        rw [e]; exact addr_add2 _ _ i j
      have cell : ∀ p, p < cap * ks.length → ∃ v, W.cell? ⟨x.block, x.off + p, none⟩ = some v ∧ fitC (kAtM mix ks (p % ks.length)) v := by
        intro p hp
        have h1 : p / ks.length < cap := (Nat.div_lt_iff_lt_mul hpos).mpr hp
        obtain ⟨v, hv, hfit⟩ := first (p / ks.length) h1 (p % ks.length) (Nat.mod_lt _ hpos)
        rw [ha] at hv
        refine ⟨v, ?_, hfit⟩
        rw [← hv]
        congr 2
        have := Nat.div_add_mod' p ks.length
        omega
      obtain ⟨l, hl'⟩ : ∃ l : List Int, l = (List.range (len * ks.length)).map fun p => encV ((W.cell? ⟨x.block, x.off + p, none⟩).getD undef) := ⟨_, rfl⟩
      have hll : l.length = len * ks.length := by rw [hl']; simp
      have get : ∀ p z, l[p]? = some z → ∃ v, W.cell? ⟨x.block, x.off + p, none⟩ = some v ∧ fitC (kAtM mix ks (p % ks.length)) v ∧ z = encV v := by
        intro p z hz
        have hp : p < len * ks.length := by rw [← hll]; exact (List.getElem?_eq_some_iff.1 hz).1
        obtain ⟨v, hv, hfit⟩ := cell p (Nat.lt_of_lt_of_le hp (Nat.mul_le_mul_right _ hl))
        rw [hl', List.getElem?_map, List.getElem?_range hp, Option.map_some, hv] at hz
        exact ⟨v, hv, hfit, by simpa using hz.symm⟩
      have hsz : len * ks.length ≤ cap * ks.length := Nat.mul_le_mul_right _ hl
      refine ⟨l, ⟨x.block, x.off, cap * ks.length⟩, fun _ => ?_, ⟨fun hm => ⟨hpos, by rw [hll]; exact hsz, fun i z hz => ?_⟩, fun hm => ⟨hpos, by rw [hll]; exact hsz, fun i z hz => ?_⟩⟩, hll, hl, Nat.le_refl _, fun _ => by rw [← hx], ?_⟩
      · obtain ⟨v, hv, _⟩ := cell 0 (Nat.mul_pos (by omega) hpos)
        exact cell_heap hv
      · obtain ⟨v, hv, hfit, rfl⟩ := get i z hz
        rw [hm] at hfit
        obtain ⟨n, rfl, _⟩ := hfit
        exact hv
      · obtain ⟨v, hv, hfit, rfl⟩ := get i z hz
        unfold mixV
        split
        · rename_i e
          rw [hm, e] at hfit
          obtain ⟨b, rfl⟩ := hfit
          rw [hv]; cases b <;> rfl
        · rename_i e
          have : kAtM mix ks (i % ks.length) = some (ks.getD (i % ks.length) .u8) := by simp [kAtM, e]
          rw [this] at hfit
          obtain ⟨n, rfl, _⟩ := hfit
          exact hv
      · rw [inKinds_iff]
        intro j z hz
        obtain ⟨v, hv, hfit, rfl⟩ := get j z hz
        rw [Nat.zero_add, kAt]
        by_cases e : mix = true ∧ j % ks.length = 0
        · have : kAtM mix ks (j % ks.length) = none := by simp [kAtM, e]
          rw [this] at hfit
          obtain ⟨b, rfl⟩ := hfit
          rw [e.2, hm0 e.1]
          cases b <;> decide
        · have : kAtM mix ks (j % ks.length) = some (ks.getD (j % ks.length) .u8) := by simp only [kAtM]; rw [if_neg e]
          rw [this] at hfit
          obtain ⟨n, rfl, hb⟩ := hfit
          exact hb
theorem rows_sized {H : Type} {enc : TypeId × Value → H} {P : Program} {W : World} {base : Nat} {spare : Nat → Bool} {held : Bool} {t e : TypeId} {a : Option Addr} {len cap : Nat} {d : DataW H} {ps : List MemPlace} {ts : List TypeId} {ds : List (DataW H)} {j : Nat}
    (hsz : (DataW.weightsEach P ts ds).all (· ≤ reachBytes) = true) (ht : ts[j]? = some t) (hd : ds[j]? = some d) (hu : P.underlying t = some (.slice e)) {B : Nat} (hB : P.bytesOf e = B) (hb1 : 1 ≤ B)
    (h : DataW.Trod enc P W base spare held t (.slice a len cap) d ps) : len ≤ 140737488351232 ∧ len * B ≤ 140737488351232 := by
  obtain ⟨fuel, hf⟩ := h
  rcases DataW.trod_slice hu hf with ⟨hcs, _⟩ | ⟨x, len', cap', elems, rest, n, _, hcs, hd', _, hl, hm, hlen, _, _, _⟩
  · simp [Value.cells] at hcs
    obtain ⟨rfl, rfl, rfl⟩ := hcs
    simp
  · simp [Value.cells] at hcs
    obtain ⟨rfl, rfl, rfl⟩ := hcs
    obtain ⟨hx, _⟩ := Prod.mk.inj hd'
    subst hx
    have z := sized_slice hsz ht hd hu
    rw [hB, List.length_map, List.length_map, hlen] at z
    have h1 : len * 1 ≤ (len + rest.length) * B := Nat.mul_le_mul (Nat.le_add_right _ _) hb1
    have h2 : len * B ≤ (len + rest.length) * B := Nat.mul_le_mul (Nat.le_add_right _ _) (Nat.le_refl _)
    have : (len + rest.length) * B ≤ 140737488351232 := z
    exact ⟨by omega, by omega⟩
section
variable {Φ : Sig} {ρ : Env} {β : Map} {w : World}
theorem slcS_rep {j v st : Nat} {a : Option Addr} {len cap : Nat} {l : List Int} {pl : Place} {ks : List IntKind} {mix : Bool} (hj : β j = some pl) (hst : ks.length = st) (hn : ρ v = .i len) (h : RowS mix ks w a len cap l pl) : (V.c (.s j st 0 (.num 0) (.var v))).rep (T.den Φ ρ) β (.slice a len cap) := by
  refine ⟨pl, hj, a, len, cap, rfl, ?_, h.le, by simp [T.den], ?_, fun hc => ?_⟩
  · simp [T.den, hn]
  · have := h.fit
    rw [hst] at this
    simp [T.den]; omega
  · have := h.at_ hc
    simpa [T.den] using this
theorem rowS_mem {v : Nat} {a : Option Addr} {len cap : Nat} {l : List Int} {pl : Place} {ks : List IntKind} (hv : ρ v = .l l) (h : RowS false ks w a len cap l pl) : (MB.mk false (.row ks (.var v))).rep (T.den Φ ρ) β w pl := by
  refine ⟨?_, fun h => by cases h⟩
  have := h.row.1 rfl
  simpa [Blk.rep, T.den, hv] using this
theorem rowS_val {n v st : Nat} {a : Option Addr} {len cap : Nat} {l : List Int} {pl : Place} {ks : List IntKind} {mix : Bool} {x : O Res} {res : Res} (hn : ρ n = .i len) (hv : ρ v = .l l) (hst : ks.length = st) (h : RowS mix ks w a len cap l pl) (hs : len ≤ 140737488351232) (hx : x.val (T.den Φ ρ) = some res) :
    (O.chk (.c2 .le (.num 0) (.var n)) (.chk (.c2 .le (.var n) (.num 140737488351232)) (.chk (.c2 .eq (.c1 .len (.var v)) (.c2 .mul (.var n) (.num (st : Int)))) (.chk (.c1 (.kin ks) (.var v)) x)))).val (T.den Φ ρ) = some res := by
  have h1 : (0 : Int) ≤ len := Int.natCast_nonneg _
  have h2 : (len : Int) ≤ 140737488351232 := by omega
  have h3 : (l.length : Int) = (len : Int) * (st : Int) := by rw [h.long, hst]; exact Int.natCast_mul _ _
  simp only [O.val, T.den, O2.den, U1.den, hn, hv, D.int_i, D.list_l, D.bool_b, h1, h2, h3, h.kin, decide_true, beq_self_eq_true, if_true]
  exact hx
end
end Go.Proofs.YtfhjlimdakphcaaGreat.Sx
