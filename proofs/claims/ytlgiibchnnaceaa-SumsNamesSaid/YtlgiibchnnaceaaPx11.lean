/- Contracts of the functions that the statements reach, and the statements: written by a program of this repo (wip/patch_print.py); Lean checks every line; no conditions. -/
import Derived.Test.YtlgiibchnnaceaaPx0
import Derived.Test.YtlgiibchnnaceaaPx3
import Derived.Test.YtlgiibchnnaceaaPx4
import Derived.Test.YtlgiibchnnaceaaPx5
import Derived.Test.YtlgiibchnnaceaaPx6
import Derived.Test.YtlgiibchnnaceaaPx7
import Derived.Test.YtlgiibchnnaceaaPx8
namespace Go.Proofs.Ytlgiibchnnaceaa.P
open Go.RowKit Go.Proofs.YtlgiibchnnaceaaW.PrintWords Go.Proofs.YtlgiibchnnaceaaW.PrintLast Go.Proofs.YtlgiibchnnaceaaW.PrintMore
attribute [local go_sem] max2_int min2_int max_two min_two max_three min_three max_four min_four Go.Proofs.YtlgiibchnnaceaaW.Own.u16_all   -- for this text's walks alone
set_option linter.unusedVariables false
set_option linter.unusedSimpArgs false

/-! ### sallyportlaw01_SumsNames: function 9 -/
def sallyportlaw01_SumsNames.l0 : Nat → List Int → Int → Option (Bool)
  | 0, _, _ => none
  | k + 1, x1, x2 => if x2 < (x1.length : Int) then (if 0 ≤ x2 then (sallyportlaw01_SumsNames.l0 k (x1.set (x2 : Int).toNat 255) (wrap64 (x2 + 1))) else (none)) else ((sums_Diff.f k (([10] : List Int)) (([11] : List Int))).bind fun bt197 => ((sums_Diff.f k (([0, 1] : List Int)) (([0, 1, 2, 3] : List Int))).bind fun bt205 => ((sums_Diff.f k ([] : List Int) (([] : List Int))).bind fun bt210 => ((sums_Sum.f k ([] : List Int)).bind fun t212 => (if t212 = 0 then ((sums_Sum.f k (([1, 2] : List Int))).bind fun t216 => (if t216 = 258 then ((sums_Sum.f k (([255, 255] : List Int))).bind fun t220 => (if t220 = 65535 then ((sums_Sum.f k (([255, 255, 0, 1] : List Int))).bind fun t224 => (if t224 = 1 then ((sums_Sum.f k (([255, 255, 255, 255, 0, 1] : List Int))).bind fun t228 => (if t228 = 1 then ((sums_Field.f k ([] : List Int)).bind fun t229 => (if t229 = 65535 then ((sums_Field.f k (([255, 255] : List Int))).bind fun t233 => ((sums_Add.f k 65535 65535).bind fun t234 => (if t234 = 65535 then ((sums_Sub.f k 5 5).bind fun t235 => (if t235 = 65535 then ((sums_Same.f 1 2).bind fun t236 => (if t236 = true then ((sallyportlaw01_awake.f k).bind fun t237 => (if t237 = true then (if t233 = 0 then (some false) else (some false)) else (some false))) else ((sums_Update.f k 0 0 0).bind fun t238 => ((sallyportlaw01_awake.f k).bind fun t239 => (if t239 = true then (if t233 = 0 then (if t238 = 0 then (if bt197.2 = 2 then (if bt205.2 = 2 then (if bt210.2 = 0 then (if bt210.1 = 65535 then (if 5000 ≤ (x1.length : Int) then ((sums_Sum.f k (x1.take 5000)).bind fun t244 => (if t244 = 65535 then ((sums_Sum.f k x1).bind fun t245 => (some (t245 == 65280))) else (some false))) else (none)) else (some false)) else (some false)) else (some false)) else (some false)) else (some false)) else (some false)) else (some false)))))) else ((sallyportlaw01_awake.f k).bind fun t246 => (if t246 = true then (if t233 = 0 then (some false) else (some false)) else (some false))))) else ((sallyportlaw01_awake.f k).bind fun t247 => (if t247 = true then (if t233 = 0 then (some false) else (some false)) else (some false)))))) else ((sums_Add.f k 65535 65535).bind fun t248 => (if t248 = 65535 then ((sums_Sub.f k 5 5).bind fun t249 => (if t249 = 65535 then ((sums_Same.f 1 2).bind fun t250 => (if t250 = true then ((sallyportlaw01_awake.f k).bind fun t251 => (if t251 = true then (some false) else (some false))) else ((sums_Update.f k 0 0 0).bind fun t252 => ((sallyportlaw01_awake.f k).bind fun t253 => (if t253 = true then (some false) else (some false)))))) else ((sallyportlaw01_awake.f k).bind fun t254 => (if t254 = true then (some false) else (some false))))) else ((sallyportlaw01_awake.f k).bind fun t255 => (if t255 = true then (some false) else (some false))))))) else ((sums_Add.f k 65535 65535).bind fun t256 => (if t256 = 65535 then ((sums_Sub.f k 5 5).bind fun t257 => (if t257 = 65535 then ((sums_Same.f 1 2).bind fun t258 => (if t258 = true then ((sallyportlaw01_awake.f k).bind fun t259 => (if t259 = true then (some false) else (some false))) else ((sums_Update.f k 0 0 0).bind fun t260 => ((sallyportlaw01_awake.f k).bind fun t261 => (if t261 = true then (some false) else (some false)))))) else ((sallyportlaw01_awake.f k).bind fun t262 => (if t262 = true then (some false) else (some false))))) else ((sallyportlaw01_awake.f k).bind fun t263 => (if t263 = true then (some false) else (some false))))))) else ((sums_Add.f k 65535 65535).bind fun t264 => (if t264 = 65535 then ((sums_Sub.f k 5 5).bind fun t265 => (if t265 = 65535 then ((sums_Same.f 1 2).bind fun t266 => (if t266 = true then ((sallyportlaw01_awake.f k).bind fun t267 => (if t267 = true then (some false) else (some false))) else ((sums_Update.f k 0 0 0).bind fun t268 => ((sallyportlaw01_awake.f k).bind fun t269 => (if t269 = true then (some false) else (some false)))))) else ((sallyportlaw01_awake.f k).bind fun t270 => (if t270 = true then (some false) else (some false))))) else ((sallyportlaw01_awake.f k).bind fun t271 => (if t271 = true then (some false) else (some false))))))) else ((sums_Add.f k 65535 65535).bind fun t272 => (if t272 = 65535 then ((sums_Sub.f k 5 5).bind fun t273 => (if t273 = 65535 then ((sums_Same.f 1 2).bind fun t274 => (if t274 = true then ((sallyportlaw01_awake.f k).bind fun t275 => (if t275 = true then (some false) else (some false))) else ((sums_Update.f k 0 0 0).bind fun t276 => ((sallyportlaw01_awake.f k).bind fun t277 => (if t277 = true then (some false) else (some false)))))) else ((sallyportlaw01_awake.f k).bind fun t278 => (if t278 = true then (some false) else (some false))))) else ((sallyportlaw01_awake.f k).bind fun t279 => (if t279 = true then (some false) else (some false))))))) else ((sums_Add.f k 65535 65535).bind fun t280 => (if t280 = 65535 then ((sums_Sub.f k 5 5).bind fun t281 => (if t281 = 65535 then ((sums_Same.f 1 2).bind fun t282 => (if t282 = true then ((sallyportlaw01_awake.f k).bind fun t283 => (if t283 = true then (some false) else (some false))) else ((sums_Update.f k 0 0 0).bind fun t284 => ((sallyportlaw01_awake.f k).bind fun t285 => (if t285 = true then (some false) else (some false)))))) else ((sallyportlaw01_awake.f k).bind fun t286 => (if t286 = true then (some false) else (some false))))) else ((sallyportlaw01_awake.f k).bind fun t287 => (if t287 = true then (some false) else (some false))))))) else ((sums_Add.f k 65535 65535).bind fun t288 => (if t288 = 65535 then ((sums_Sub.f k 5 5).bind fun t289 => (if t289 = 65535 then ((sums_Same.f 1 2).bind fun t290 => (if t290 = true then ((sallyportlaw01_awake.f k).bind fun t291 => (if t291 = true then (some false) else (some false))) else ((sums_Update.f k 0 0 0).bind fun t292 => ((sallyportlaw01_awake.f k).bind fun t293 => (if t293 = true then (some false) else (some false)))))) else ((sallyportlaw01_awake.f k).bind fun t294 => (if t294 = true then (some false) else (some false))))) else ((sallyportlaw01_awake.f k).bind fun t295 => (if t295 = true then (some false) else (some false))))))))))
def sallyportlaw01_SumsNames.f (k : Nat)  : Option (Bool) := if 5001 ≤ 281474976710656 then (sallyportlaw01_SumsNames.l0 k (List.replicate 5001 0) 0) else (none)
theorem sallyportlaw01_SumsNames.mono_l : ∀ k, (∀ y0 y1, LeO (sallyportlaw01_SumsNames.l0 k y0 y1) (sallyportlaw01_SumsNames.l0 (k + 1) y0 y1))
  | 0 => fun _ _ r h => by simp [sallyportlaw01_SumsNames.l0] at h
  | k + 1 => by
    have ih0 := sallyportlaw01_SumsNames.mono_l k
    · intro y0 y1
      unfold sallyportlaw01_SumsNames.l0
      repeat' first
      | (with_reducible exact ih0 _ _)
      | (with_reducible exact sallyportlaw01_awake.mono _)
      | (with_reducible exact sums_Add.mono _ _ _)
      | (with_reducible exact sums_Diff.mono _ _ _)
      | (with_reducible exact sums_Field.mono _ _)
      | (with_reducible exact sums_Sub.mono _ _ _)
      | (with_reducible exact sums_Sum.mono _ _)
      | (with_reducible exact sums_Update.mono _ _ _ _)
      | (with_reducible exact LeO.refl _)
      | (with_reducible exact LeO.none _)
      | (with_reducible refine LeO.ite ?_ ?_)
      | (with_reducible refine LeO.bind ?_ (fun _ => ?_))
      | exact ih0 _ _
      | exact sallyportlaw01_awake.mono _
      | exact sums_Add.mono _ _ _
      | exact sums_Diff.mono _ _ _
      | exact sums_Field.mono _ _
      | exact sums_Sub.mono _ _ _
      | exact sums_Sum.mono _ _
      | exact sums_Update.mono _ _ _ _
      | exact LeO.none _
      | refine LeO.ite ?_ ?_
      | refine LeO.bind ?_ (fun _ => ?_)
theorem sallyportlaw01_SumsNames.mono : ∀ k, LeO (sallyportlaw01_SumsNames.f k ) (sallyportlaw01_SumsNames.f (k + 1) ) := by
  intro  k
  have ih0 := sallyportlaw01_SumsNames.mono_l k
  unfold sallyportlaw01_SumsNames.f
  repeat' first
      | (with_reducible exact ih0 _ _)
      | (with_reducible exact sallyportlaw01_awake.mono _)
      | (with_reducible exact sums_Add.mono _ _ _)
      | (with_reducible exact sums_Diff.mono _ _ _)
      | (with_reducible exact sums_Field.mono _ _)
      | (with_reducible exact sums_Sub.mono _ _ _)
      | (with_reducible exact sums_Sum.mono _ _)
      | (with_reducible exact sums_Update.mono _ _ _ _)
      | (with_reducible exact LeO.refl _)
      | (with_reducible exact LeO.none _)
      | (with_reducible refine LeO.ite ?_ ?_)
      | (with_reducible refine LeO.bind ?_ (fun _ => ?_))
      | exact ih0 _ _
      | exact sallyportlaw01_awake.mono _
      | exact sums_Add.mono _ _ _
      | exact sums_Diff.mono _ _ _
      | exact sums_Field.mono _ _
      | exact sums_Sub.mono _ _ _
      | exact sums_Sum.mono _ _
      | exact sums_Update.mono _ _ _ _
      | exact LeO.none _
      | refine LeO.ite ?_ ?_
      | refine LeO.bind ?_ (fun _ => ?_)
set_option maxHeartbeats 8000000 in
set_option maxRecDepth 100000 in
theorem sallyportlaw01_SumsNames.calls (k : Nat)  (r : Bool) (hr_ : Aside0 (r = true)) (w : World) (h : sallyportlaw01_SumsNames.f k  = some r) :
    Calls Try.prog 9 #[] w fun e w' => e = .returned (.bool r) ∧ Below w.heap.size w w' := by
  have HB := Aside0.mk (Below.refl w.heap.size w)
  have H : (if 5001 ≤ 281474976710656 then (sallyportlaw01_SumsNames.l0 k (List.replicate 5001 0) 0) else (none)) = some r := h
  clear h
  by_cases c1 : 5001 ≤ 281474976710656
  · rw [if_pos c1] at H
    have c1b0 := eq_true c1
    have c1b1 : decide (5001 ≤ 281474976710656) = true := decide_eq_true c1
    clear c1
    obtain ⟨y187, hy187⟩ : ∃ y_ : List Int, y_ = (List.replicate 5001 0) := ⟨_, rfl⟩
    replace H : (sallyportlaw01_SumsNames.l0 k y187 0) = some r := by first | (rw [hy187]; with_reducible exact H) | (have H2_ := (Option.bind_some _ _).symm.trans H; rw [hy187]; with_reducible exact H2_) | (have H2_ := (Option.bind_some _ _).symm.trans H; with_reducible exact H2_) | with_reducible exact H | (rw [hy187]; exact H) | exact H
    have Ny187 := Aside0.mk hy187
    clear hy187
    have H' := Aside0.mk H
    clear H
    go_enter Try.func9, Try.ntmps9
    go_wp2_with (first | ((with_reducible refine gate_dst (N := 11) rfl ?_); (try (refine gate_guard (by rfl) ?_; dsimp only)); refine Kd.R_make (Kd.int .u8) _ 5 rfl (N := 11) rfl 22 _ _ rfl 5001 rfl rfl Try.underlying22 (.int .u8 0) 1 info5 rfl (by decide) (by omega) 0 (ok := fun _ => True) (okp := fun _ => True) rfl (fun _ hk => hk) trivial (by omega) (by omega) (Below.refl _ _) (Nat.le_refl _) ?_; intro v188 w2 ho3 hb hg_ hnew_; clear hg_ hnew_; (first | rw [← Ny187.out] at ho3 | (simp only [Int.reduceToNat] at ho3; rw [← Ny187.out] at ho3)); have n0_ := Aside0.mk (Kd.R_lower ho3 (below_size (by repeat (first | (with_reducible first | exact HB.out | apply below_alloc | apply pw_below_drewN | apply below_drew1) | exact HB.out)))); have n1_ := Aside0.mk (below_step (by repeat (first | (with_reducible first | exact HB.out | apply below_alloc | apply pw_below_drewN | apply below_drew1) | exact HB.out)) hb); clear HB; have HO189 := n0_; have HB := n1_; clear n0_ n1_; clear hb ho3))
    go_loopg [2] k (fun kq v2 w' => ∃ (x1_1 : List Int) (x2_1 : Int), v2 = .int .i64 x2_1 ∧ Aside0 (sallyportlaw01_SumsNames.l0 kq x1_1 x2_1 = some r) ∧ Aside0 (kq ≤ k) ∧ Aside0 (Kd.R (Kd.int .u8) 5 w' w.heap.size (fun _ => True) v188 x1_1) ∧ Aside0 (Below w.heap.size w w'))
    case atStart => exact ⟨(y187), (0), (by first | rfl | (simp; done) | (simp [*]; done)), H', ⟨Nat.le_refl _⟩, ⟨by (with_reducible repeat (first | apply Kd.R_alloc | apply Kd.R_drewN | apply Kd.R_drew)); exact HO189.out⟩, ⟨by repeat (first | (with_reducible first | exact HB.out | apply below_alloc | apply pw_below_drewN | apply below_drew1) | exact HB.out)⟩⟩
    case round =>
      clear H'
      try clear c1
      try clear c1b0
      try clear c1b1
      try clear p2
      obtain ⟨x1_1, x2_1, rfl, HA, HK1, HO_1, HB⟩ := hrel
      cases gk with
      | zero => exact absurd HA.out (by simp [sallyportlaw01_SumsNames.l0])
      | succ k1 =>
        have H := HA.out
        clear HA
        simp only [sallyportlaw01_SumsNames.l0] at H
        by_cases c4 : x2_1 < (x1_1.length : Int)
        · rw [if_pos c4] at H
          have c4b0 : decide (x2_1 < (x1_1.length : Int)) = true := decide_eq_true c4
          clear c4
          by_cases c5 : 0 ≤ x2_1
          · rw [if_pos c5] at H
            have c5b0 : decide (0 ≤ x2_1) = true := decide_eq_true c5
            clear c5
            obtain ⟨y190, hy190⟩ : ∃ y_ : List Int, y_ = (x1_1.set (x2_1 : Int).toNat 255) := ⟨_, rfl⟩
            replace H : (sallyportlaw01_SumsNames.l0 k1 y190 (wrap64 (x2_1 + 1))) = some r := by first | (rw [hy190]; with_reducible exact H) | (have H2_ := (Option.bind_some _ _).symm.trans H; rw [hy190]; with_reducible exact H2_) | (have H2_ := (Option.bind_some _ _).symm.trans H; with_reducible exact H2_) | with_reducible exact H | (rw [hy190]; exact H) | exact H
            have Ny190 := Aside0.mk hy190
            clear hy190
            have H' := Aside0.mk H
            clear H
            obtain ⟨Ao7, co7, eo7⟩ := Kd.R_slice HO_1.out
            subst eo7
            have p6 : 0 ≤ (x2_1 : Int) := of_decide_eq_true (by first | (with_reducible assumption) | assumption)
            have q6 : (x2_1 : Int) < ((x1_1.length : Int) : Int) := of_decide_eq_true (by first | (with_reducible assumption) | assumption)
            obtain ⟨go6, co6, eo6, gb6, gl6, cl6, HG6⟩ := Kd.R_form HO_1.out (by omega)
            (first | cases eo6 | (injection eo6 with ea_ en_ ec_; (first | subst ea_ | (injection ea_ with ea_; subst ea_)); subst ec_; clear en_))
            have GB6 := Aside0.mk gb6
            have GG6 := Aside0.mk HG6
            clear gb6 gl6 HG6
            obtain ⟨hx6_0, hf6_0⟩ := Kd.R_celln 0 HO_1.out (x2_1 : Int) p6 q6
            replace p6 := eq_true p6
            replace q6 := eq_true q6
            have HP8 := Kd.R_putg HO_1.out (x2_1 : Int) 255
            go_wp2_with (first | ((with_reducible refine gate_store (t := 5) (p := 20) rfl ?_); refine store_event (t := 5) (p := 20) (v := ?vo_w9) (w1 := (wr.setCell ⟨go6, (x2_1 : Int).toNat, none⟩ (.int .u8 255))) ?hg ?ho ?hn ?hr ?_; (case ho => rfl); (case hg => rfl); (case hn => rfl); (case hr => first | (go_simp; done) | (go_simp; rfl)); intro w9 hw; have hg : wr.grownBy w9 (some go6) := (by rw [hw]; exact HP8.2); have hp_ : Kd.R (Kd.int .u8) 5 w9 w.heap.size (fun _ => True) (.slice (some ⟨go6, 0, none⟩) x1_1.length co7) y190 := (by rw [hw, Ny190.out]; exact HP8.1); clear HP8; have n0_ := Aside0.mk (hp_); have n1_ := Aside0.mk ((by rw [hw]; exact below_set (HB.out) GB6.out : Below w.heap.size w w9)); clear HO_1; clear HB; have HO_1 := n0_; have HB := n1_; clear n0_ n1_; clear hg hw hp_))
            go_roundg k1
            case measure => have := HK1.out; omega
            case rel => exact ⟨(y190), (wrap64 (x2_1 + 1)), (by first | rfl | (simp; done) | (simp [*]; done)), H', ⟨by have := HK1.out; omega⟩, ⟨by (with_reducible repeat (first | apply Kd.R_alloc | apply Kd.R_drewN | apply Kd.R_drew)); exact HO_1.out⟩, ⟨by repeat (first | (with_reducible first | exact HB.out | apply below_alloc | apply pw_below_drewN | apply below_drew1) | exact HB.out)⟩⟩
          · rw [if_neg c5] at H
            exact absurd H (by simp)
        · rw [if_neg c4] at H
          have c4b0 : decide (x2_1 < (x1_1.length : Int)) = false := decide_eq_false c4
          clear c4
          obtain ⟨y191, hy191⟩ : ∃ y_ : List Int, y_ = (([10] : List Int)) := ⟨_, rfl⟩
          replace H : ((sums_Diff.f k1 y191 (([11] : List Int))).bind fun bt197 => ((sums_Diff.f k1 (([0, 1] : List Int)) (([0, 1, 2, 3] : List Int))).bind fun bt205 => ((sums_Diff.f k1 ([] : List Int) (([] : List Int))).bind fun bt210 => ((sums_Sum.f k1 ([] : List Int)).bind fun t212 => (if t212 = 0 then ((sums_Sum.f k1 (([1, 2] : List Int))).bind fun t216 => (if t216 = 258 then ((sums_Sum.f k1 (([255, 255] : List Int))).bind fun t220 => (if t220 = 65535 then ((sums_Sum.f k1 (([255, 255, 0, 1] : List Int))).bind fun t224 => (if t224 = 1 then ((sums_Sum.f k1 (([255, 255, 255, 255, 0, 1] : List Int))).bind fun t228 => (if t228 = 1 then ((sums_Field.f k1 ([] : List Int)).bind fun t229 => (if t229 = 65535 then ((sums_Field.f k1 (([255, 255] : List Int))).bind fun t233 => ((sums_Add.f k1 65535 65535).bind fun t234 => (if t234 = 65535 then ((sums_Sub.f k1 5 5).bind fun t235 => (if t235 = 65535 then ((sums_Same.f 1 2).bind fun t236 => (if t236 = true then ((sallyportlaw01_awake.f k1).bind fun t237 => (if t237 = true then (if t233 = 0 then (some false) else (some false)) else (some false))) else ((sums_Update.f k1 0 0 0).bind fun t238 => ((sallyportlaw01_awake.f k1).bind fun t239 => (if t239 = true then (if t233 = 0 then (if t238 = 0 then (if bt197.2 = 2 then (if bt205.2 = 2 then (if bt210.2 = 0 then (if bt210.1 = 65535 then (if 5000 ≤ (x1_1.length : Int) then ((sums_Sum.f k1 (x1_1.take 5000)).bind fun t244 => (if t244 = 65535 then ((sums_Sum.f k1 x1_1).bind fun t245 => (some (t245 == 65280))) else (some false))) else (none)) else (some false)) else (some false)) else (some false)) else (some false)) else (some false)) else (some false)) else (some false)))))) else ((sallyportlaw01_awake.f k1).bind fun t246 => (if t246 = true then (if t233 = 0 then (some false) else (some false)) else (some false))))) else ((sallyportlaw01_awake.f k1).bind fun t247 => (if t247 = true then (if t233 = 0 then (some false) else (some false)) else (some false)))))) else ((sums_Add.f k1 65535 65535).bind fun t248 => (if t248 = 65535 then ((sums_Sub.f k1 5 5).bind fun t249 => (if t249 = 65535 then ((sums_Same.f 1 2).bind fun t250 => (if t250 = true then ((sallyportlaw01_awake.f k1).bind fun t251 => (if t251 = true then (some false) else (some false))) else ((sums_Update.f k1 0 0 0).bind fun t252 => ((sallyportlaw01_awake.f k1).bind fun t253 => (if t253 = true then (some false) else (some false)))))) else ((sallyportlaw01_awake.f k1).bind fun t254 => (if t254 = true then (some false) else (some false))))) else ((sallyportlaw01_awake.f k1).bind fun t255 => (if t255 = true then (some false) else (some false))))))) else ((sums_Add.f k1 65535 65535).bind fun t256 => (if t256 = 65535 then ((sums_Sub.f k1 5 5).bind fun t257 => (if t257 = 65535 then ((sums_Same.f 1 2).bind fun t258 => (if t258 = true then ((sallyportlaw01_awake.f k1).bind fun t259 => (if t259 = true then (some false) else (some false))) else ((sums_Update.f k1 0 0 0).bind fun t260 => ((sallyportlaw01_awake.f k1).bind fun t261 => (if t261 = true then (some false) else (some false)))))) else ((sallyportlaw01_awake.f k1).bind fun t262 => (if t262 = true then (some false) else (some false))))) else ((sallyportlaw01_awake.f k1).bind fun t263 => (if t263 = true then (some false) else (some false))))))) else ((sums_Add.f k1 65535 65535).bind fun t264 => (if t264 = 65535 then ((sums_Sub.f k1 5 5).bind fun t265 => (if t265 = 65535 then ((sums_Same.f 1 2).bind fun t266 => (if t266 = true then ((sallyportlaw01_awake.f k1).bind fun t267 => (if t267 = true then (some false) else (some false))) else ((sums_Update.f k1 0 0 0).bind fun t268 => ((sallyportlaw01_awake.f k1).bind fun t269 => (if t269 = true then (some false) else (some false)))))) else ((sallyportlaw01_awake.f k1).bind fun t270 => (if t270 = true then (some false) else (some false))))) else ((sallyportlaw01_awake.f k1).bind fun t271 => (if t271 = true then (some false) else (some false))))))) else ((sums_Add.f k1 65535 65535).bind fun t272 => (if t272 = 65535 then ((sums_Sub.f k1 5 5).bind fun t273 => (if t273 = 65535 then ((sums_Same.f 1 2).bind fun t274 => (if t274 = true then ((sallyportlaw01_awake.f k1).bind fun t275 => (if t275 = true then (some false) else (some false))) else ((sums_Update.f k1 0 0 0).bind fun t276 => ((sallyportlaw01_awake.f k1).bind fun t277 => (if t277 = true then (some false) else (some false)))))) else ((sallyportlaw01_awake.f k1).bind fun t278 => (if t278 = true then (some false) else (some false))))) else ((sallyportlaw01_awake.f k1).bind fun t279 => (if t279 = true then (some false) else (some false))))))) else ((sums_Add.f k1 65535 65535).bind fun t280 => (if t280 = 65535 then ((sums_Sub.f k1 5 5).bind fun t281 => (if t281 = 65535 then ((sums_Same.f 1 2).bind fun t282 => (if t282 = true then ((sallyportlaw01_awake.f k1).bind fun t283 => (if t283 = true then (some false) else (some false))) else ((sums_Update.f k1 0 0 0).bind fun t284 => ((sallyportlaw01_awake.f k1).bind fun t285 => (if t285 = true then (some false) else (some false)))))) else ((sallyportlaw01_awake.f k1).bind fun t286 => (if t286 = true then (some false) else (some false))))) else ((sallyportlaw01_awake.f k1).bind fun t287 => (if t287 = true then (some false) else (some false))))))) else ((sums_Add.f k1 65535 65535).bind fun t288 => (if t288 = 65535 then ((sums_Sub.f k1 5 5).bind fun t289 => (if t289 = 65535 then ((sums_Same.f 1 2).bind fun t290 => (if t290 = true then ((sallyportlaw01_awake.f k1).bind fun t291 => (if t291 = true then (some false) else (some false))) else ((sums_Update.f k1 0 0 0).bind fun t292 => ((sallyportlaw01_awake.f k1).bind fun t293 => (if t293 = true then (some false) else (some false)))))) else ((sallyportlaw01_awake.f k1).bind fun t294 => (if t294 = true then (some false) else (some false))))) else ((sallyportlaw01_awake.f k1).bind fun t295 => (if t295 = true then (some false) else (some false)))))))))) = some r := by first | (rw [hy191]; with_reducible exact H) | (have H2_ := (Option.bind_some _ _).symm.trans H; rw [hy191]; with_reducible exact H2_) | (have H2_ := (Option.bind_some _ _).symm.trans H; with_reducible exact H2_) | with_reducible exact H | (rw [hy191]; exact H) | exact H
          have Ny191 := Aside0.mk hy191
          clear hy191
          obtain ⟨y194, hy194⟩ : ∃ y_ : List Int, y_ = (([11] : List Int)) := ⟨_, rfl⟩
          replace H : ((sums_Diff.f k1 y191 y194).bind fun bt197 => ((sums_Diff.f k1 (([0, 1] : List Int)) (([0, 1, 2, 3] : List Int))).bind fun bt205 => ((sums_Diff.f k1 ([] : List Int) (([] : List Int))).bind fun bt210 => ((sums_Sum.f k1 ([] : List Int)).bind fun t212 => (if t212 = 0 then ((sums_Sum.f k1 (([1, 2] : List Int))).bind fun t216 => (if t216 = 258 then ((sums_Sum.f k1 (([255, 255] : List Int))).bind fun t220 => (if t220 = 65535 then ((sums_Sum.f k1 (([255, 255, 0, 1] : List Int))).bind fun t224 => (if t224 = 1 then ((sums_Sum.f k1 (([255, 255, 255, 255, 0, 1] : List Int))).bind fun t228 => (if t228 = 1 then ((sums_Field.f k1 ([] : List Int)).bind fun t229 => (if t229 = 65535 then ((sums_Field.f k1 (([255, 255] : List Int))).bind fun t233 => ((sums_Add.f k1 65535 65535).bind fun t234 => (if t234 = 65535 then ((sums_Sub.f k1 5 5).bind fun t235 => (if t235 = 65535 then ((sums_Same.f 1 2).bind fun t236 => (if t236 = true then ((sallyportlaw01_awake.f k1).bind fun t237 => (if t237 = true then (if t233 = 0 then (some false) else (some false)) else (some false))) else ((sums_Update.f k1 0 0 0).bind fun t238 => ((sallyportlaw01_awake.f k1).bind fun t239 => (if t239 = true then (if t233 = 0 then (if t238 = 0 then (if bt197.2 = 2 then (if bt205.2 = 2 then (if bt210.2 = 0 then (if bt210.1 = 65535 then (if 5000 ≤ (x1_1.length : Int) then ((sums_Sum.f k1 (x1_1.take 5000)).bind fun t244 => (if t244 = 65535 then ((sums_Sum.f k1 x1_1).bind fun t245 => (some (t245 == 65280))) else (some false))) else (none)) else (some false)) else (some false)) else (some false)) else (some false)) else (some false)) else (some false)) else (some false)))))) else ((sallyportlaw01_awake.f k1).bind fun t246 => (if t246 = true then (if t233 = 0 then (some false) else (some false)) else (some false))))) else ((sallyportlaw01_awake.f k1).bind fun t247 => (if t247 = true then (if t233 = 0 then (some false) else (some false)) else (some false)))))) else ((sums_Add.f k1 65535 65535).bind fun t248 => (if t248 = 65535 then ((sums_Sub.f k1 5 5).bind fun t249 => (if t249 = 65535 then ((sums_Same.f 1 2).bind fun t250 => (if t250 = true then ((sallyportlaw01_awake.f k1).bind fun t251 => (if t251 = true then (some false) else (some false))) else ((sums_Update.f k1 0 0 0).bind fun t252 => ((sallyportlaw01_awake.f k1).bind fun t253 => (if t253 = true then (some false) else (some false)))))) else ((sallyportlaw01_awake.f k1).bind fun t254 => (if t254 = true then (some false) else (some false))))) else ((sallyportlaw01_awake.f k1).bind fun t255 => (if t255 = true then (some false) else (some false))))))) else ((sums_Add.f k1 65535 65535).bind fun t256 => (if t256 = 65535 then ((sums_Sub.f k1 5 5).bind fun t257 => (if t257 = 65535 then ((sums_Same.f 1 2).bind fun t258 => (if t258 = true then ((sallyportlaw01_awake.f k1).bind fun t259 => (if t259 = true then (some false) else (some false))) else ((sums_Update.f k1 0 0 0).bind fun t260 => ((sallyportlaw01_awake.f k1).bind fun t261 => (if t261 = true then (some false) else (some false)))))) else ((sallyportlaw01_awake.f k1).bind fun t262 => (if t262 = true then (some false) else (some false))))) else ((sallyportlaw01_awake.f k1).bind fun t263 => (if t263 = true then (some false) else (some false))))))) else ((sums_Add.f k1 65535 65535).bind fun t264 => (if t264 = 65535 then ((sums_Sub.f k1 5 5).bind fun t265 => (if t265 = 65535 then ((sums_Same.f 1 2).bind fun t266 => (if t266 = true then ((sallyportlaw01_awake.f k1).bind fun t267 => (if t267 = true then (some false) else (some false))) else ((sums_Update.f k1 0 0 0).bind fun t268 => ((sallyportlaw01_awake.f k1).bind fun t269 => (if t269 = true then (some false) else (some false)))))) else ((sallyportlaw01_awake.f k1).bind fun t270 => (if t270 = true then (some false) else (some false))))) else ((sallyportlaw01_awake.f k1).bind fun t271 => (if t271 = true then (some false) else (some false))))))) else ((sums_Add.f k1 65535 65535).bind fun t272 => (if t272 = 65535 then ((sums_Sub.f k1 5 5).bind fun t273 => (if t273 = 65535 then ((sums_Same.f 1 2).bind fun t274 => (if t274 = true then ((sallyportlaw01_awake.f k1).bind fun t275 => (if t275 = true then (some false) else (some false))) else ((sums_Update.f k1 0 0 0).bind fun t276 => ((sallyportlaw01_awake.f k1).bind fun t277 => (if t277 = true then (some false) else (some false)))))) else ((sallyportlaw01_awake.f k1).bind fun t278 => (if t278 = true then (some false) else (some false))))) else ((sallyportlaw01_awake.f k1).bind fun t279 => (if t279 = true then (some false) else (some false))))))) else ((sums_Add.f k1 65535 65535).bind fun t280 => (if t280 = 65535 then ((sums_Sub.f k1 5 5).bind fun t281 => (if t281 = 65535 then ((sums_Same.f 1 2).bind fun t282 => (if t282 = true then ((sallyportlaw01_awake.f k1).bind fun t283 => (if t283 = true then (some false) else (some false))) else ((sums_Update.f k1 0 0 0).bind fun t284 => ((sallyportlaw01_awake.f k1).bind fun t285 => (if t285 = true then (some false) else (some false)))))) else ((sallyportlaw01_awake.f k1).bind fun t286 => (if t286 = true then (some false) else (some false))))) else ((sallyportlaw01_awake.f k1).bind fun t287 => (if t287 = true then (some false) else (some false))))))) else ((sums_Add.f k1 65535 65535).bind fun t288 => (if t288 = 65535 then ((sums_Sub.f k1 5 5).bind fun t289 => (if t289 = 65535 then ((sums_Same.f 1 2).bind fun t290 => (if t290 = true then ((sallyportlaw01_awake.f k1).bind fun t291 => (if t291 = true then (some false) else (some false))) else ((sums_Update.f k1 0 0 0).bind fun t292 => ((sallyportlaw01_awake.f k1).bind fun t293 => (if t293 = true then (some false) else (some false)))))) else ((sallyportlaw01_awake.f k1).bind fun t294 => (if t294 = true then (some false) else (some false))))) else ((sallyportlaw01_awake.f k1).bind fun t295 => (if t295 = true then (some false) else (some false)))))))))) = some r := by first | (rw [hy194]; with_reducible exact H) | (have H2_ := (Option.bind_some _ _).symm.trans H; rw [hy194]; with_reducible exact H2_) | (have H2_ := (Option.bind_some _ _).symm.trans H; with_reducible exact H2_) | with_reducible exact H | (rw [hy194]; exact H) | exact H
          have Ny194 := Aside0.mk hy194
          clear hy194
          replace H := Option.bind_eq_some_iff.mp H
          obtain ⟨⟨t197, t198⟩, A100, H⟩ := H
          replace H : ((sums_Diff.f k1 (([0, 1] : List Int)) (([0, 1, 2, 3] : List Int))).bind fun bt205 => ((sums_Diff.f k1 ([] : List Int) (([] : List Int))).bind fun bt210 => ((sums_Sum.f k1 ([] : List Int)).bind fun t212 => (if t212 = 0 then ((sums_Sum.f k1 (([1, 2] : List Int))).bind fun t216 => (if t216 = 258 then ((sums_Sum.f k1 (([255, 255] : List Int))).bind fun t220 => (if t220 = 65535 then ((sums_Sum.f k1 (([255, 255, 0, 1] : List Int))).bind fun t224 => (if t224 = 1 then ((sums_Sum.f k1 (([255, 255, 255, 255, 0, 1] : List Int))).bind fun t228 => (if t228 = 1 then ((sums_Field.f k1 ([] : List Int)).bind fun t229 => (if t229 = 65535 then ((sums_Field.f k1 (([255, 255] : List Int))).bind fun t233 => ((sums_Add.f k1 65535 65535).bind fun t234 => (if t234 = 65535 then ((sums_Sub.f k1 5 5).bind fun t235 => (if t235 = 65535 then ((sums_Same.f 1 2).bind fun t236 => (if t236 = true then ((sallyportlaw01_awake.f k1).bind fun t237 => (if t237 = true then (if t233 = 0 then (some false) else (some false)) else (some false))) else ((sums_Update.f k1 0 0 0).bind fun t238 => ((sallyportlaw01_awake.f k1).bind fun t239 => (if t239 = true then (if t233 = 0 then (if t238 = 0 then (if t198 = 2 then (if bt205.2 = 2 then (if bt210.2 = 0 then (if bt210.1 = 65535 then (if 5000 ≤ (x1_1.length : Int) then ((sums_Sum.f k1 (x1_1.take 5000)).bind fun t244 => (if t244 = 65535 then ((sums_Sum.f k1 x1_1).bind fun t245 => (some (t245 == 65280))) else (some false))) else (none)) else (some false)) else (some false)) else (some false)) else (some false)) else (some false)) else (some false)) else (some false)))))) else ((sallyportlaw01_awake.f k1).bind fun t246 => (if t246 = true then (if t233 = 0 then (some false) else (some false)) else (some false))))) else ((sallyportlaw01_awake.f k1).bind fun t247 => (if t247 = true then (if t233 = 0 then (some false) else (some false)) else (some false)))))) else ((sums_Add.f k1 65535 65535).bind fun t248 => (if t248 = 65535 then ((sums_Sub.f k1 5 5).bind fun t249 => (if t249 = 65535 then ((sums_Same.f 1 2).bind fun t250 => (if t250 = true then ((sallyportlaw01_awake.f k1).bind fun t251 => (if t251 = true then (some false) else (some false))) else ((sums_Update.f k1 0 0 0).bind fun t252 => ((sallyportlaw01_awake.f k1).bind fun t253 => (if t253 = true then (some false) else (some false)))))) else ((sallyportlaw01_awake.f k1).bind fun t254 => (if t254 = true then (some false) else (some false))))) else ((sallyportlaw01_awake.f k1).bind fun t255 => (if t255 = true then (some false) else (some false))))))) else ((sums_Add.f k1 65535 65535).bind fun t256 => (if t256 = 65535 then ((sums_Sub.f k1 5 5).bind fun t257 => (if t257 = 65535 then ((sums_Same.f 1 2).bind fun t258 => (if t258 = true then ((sallyportlaw01_awake.f k1).bind fun t259 => (if t259 = true then (some false) else (some false))) else ((sums_Update.f k1 0 0 0).bind fun t260 => ((sallyportlaw01_awake.f k1).bind fun t261 => (if t261 = true then (some false) else (some false)))))) else ((sallyportlaw01_awake.f k1).bind fun t262 => (if t262 = true then (some false) else (some false))))) else ((sallyportlaw01_awake.f k1).bind fun t263 => (if t263 = true then (some false) else (some false))))))) else ((sums_Add.f k1 65535 65535).bind fun t264 => (if t264 = 65535 then ((sums_Sub.f k1 5 5).bind fun t265 => (if t265 = 65535 then ((sums_Same.f 1 2).bind fun t266 => (if t266 = true then ((sallyportlaw01_awake.f k1).bind fun t267 => (if t267 = true then (some false) else (some false))) else ((sums_Update.f k1 0 0 0).bind fun t268 => ((sallyportlaw01_awake.f k1).bind fun t269 => (if t269 = true then (some false) else (some false)))))) else ((sallyportlaw01_awake.f k1).bind fun t270 => (if t270 = true then (some false) else (some false))))) else ((sallyportlaw01_awake.f k1).bind fun t271 => (if t271 = true then (some false) else (some false))))))) else ((sums_Add.f k1 65535 65535).bind fun t272 => (if t272 = 65535 then ((sums_Sub.f k1 5 5).bind fun t273 => (if t273 = 65535 then ((sums_Same.f 1 2).bind fun t274 => (if t274 = true then ((sallyportlaw01_awake.f k1).bind fun t275 => (if t275 = true then (some false) else (some false))) else ((sums_Update.f k1 0 0 0).bind fun t276 => ((sallyportlaw01_awake.f k1).bind fun t277 => (if t277 = true then (some false) else (some false)))))) else ((sallyportlaw01_awake.f k1).bind fun t278 => (if t278 = true then (some false) else (some false))))) else ((sallyportlaw01_awake.f k1).bind fun t279 => (if t279 = true then (some false) else (some false))))))) else ((sums_Add.f k1 65535 65535).bind fun t280 => (if t280 = 65535 then ((sums_Sub.f k1 5 5).bind fun t281 => (if t281 = 65535 then ((sums_Same.f 1 2).bind fun t282 => (if t282 = true then ((sallyportlaw01_awake.f k1).bind fun t283 => (if t283 = true then (some false) else (some false))) else ((sums_Update.f k1 0 0 0).bind fun t284 => ((sallyportlaw01_awake.f k1).bind fun t285 => (if t285 = true then (some false) else (some false)))))) else ((sallyportlaw01_awake.f k1).bind fun t286 => (if t286 = true then (some false) else (some false))))) else ((sallyportlaw01_awake.f k1).bind fun t287 => (if t287 = true then (some false) else (some false))))))) else ((sums_Add.f k1 65535 65535).bind fun t288 => (if t288 = 65535 then ((sums_Sub.f k1 5 5).bind fun t289 => (if t289 = 65535 then ((sums_Same.f 1 2).bind fun t290 => (if t290 = true then ((sallyportlaw01_awake.f k1).bind fun t291 => (if t291 = true then (some false) else (some false))) else ((sums_Update.f k1 0 0 0).bind fun t292 => ((sallyportlaw01_awake.f k1).bind fun t293 => (if t293 = true then (some false) else (some false)))))) else ((sallyportlaw01_awake.f k1).bind fun t294 => (if t294 = true then (some false) else (some false))))) else ((sallyportlaw01_awake.f k1).bind fun t295 => (if t295 = true then (some false) else (some false))))))))) = some r := H
          have A10 := Aside0.mk A100
          clear A100
          obtain ⟨y199, hy199⟩ : ∃ y_ : List Int, y_ = (([0, 1] : List Int)) := ⟨_, rfl⟩
          replace H : ((sums_Diff.f k1 y199 (([0, 1, 2, 3] : List Int))).bind fun bt205 => ((sums_Diff.f k1 ([] : List Int) (([] : List Int))).bind fun bt210 => ((sums_Sum.f k1 ([] : List Int)).bind fun t212 => (if t212 = 0 then ((sums_Sum.f k1 (([1, 2] : List Int))).bind fun t216 => (if t216 = 258 then ((sums_Sum.f k1 (([255, 255] : List Int))).bind fun t220 => (if t220 = 65535 then ((sums_Sum.f k1 (([255, 255, 0, 1] : List Int))).bind fun t224 => (if t224 = 1 then ((sums_Sum.f k1 (([255, 255, 255, 255, 0, 1] : List Int))).bind fun t228 => (if t228 = 1 then ((sums_Field.f k1 ([] : List Int)).bind fun t229 => (if t229 = 65535 then ((sums_Field.f k1 (([255, 255] : List Int))).bind fun t233 => ((sums_Add.f k1 65535 65535).bind fun t234 => (if t234 = 65535 then ((sums_Sub.f k1 5 5).bind fun t235 => (if t235 = 65535 then ((sums_Same.f 1 2).bind fun t236 => (if t236 = true then ((sallyportlaw01_awake.f k1).bind fun t237 => (if t237 = true then (if t233 = 0 then (some false) else (some false)) else (some false))) else ((sums_Update.f k1 0 0 0).bind fun t238 => ((sallyportlaw01_awake.f k1).bind fun t239 => (if t239 = true then (if t233 = 0 then (if t238 = 0 then (if t198 = 2 then (if bt205.2 = 2 then (if bt210.2 = 0 then (if bt210.1 = 65535 then (if 5000 ≤ (x1_1.length : Int) then ((sums_Sum.f k1 (x1_1.take 5000)).bind fun t244 => (if t244 = 65535 then ((sums_Sum.f k1 x1_1).bind fun t245 => (some (t245 == 65280))) else (some false))) else (none)) else (some false)) else (some false)) else (some false)) else (some false)) else (some false)) else (some false)) else (some false)))))) else ((sallyportlaw01_awake.f k1).bind fun t246 => (if t246 = true then (if t233 = 0 then (some false) else (some false)) else (some false))))) else ((sallyportlaw01_awake.f k1).bind fun t247 => (if t247 = true then (if t233 = 0 then (some false) else (some false)) else (some false)))))) else ((sums_Add.f k1 65535 65535).bind fun t248 => (if t248 = 65535 then ((sums_Sub.f k1 5 5).bind fun t249 => (if t249 = 65535 then ((sums_Same.f 1 2).bind fun t250 => (if t250 = true then ((sallyportlaw01_awake.f k1).bind fun t251 => (if t251 = true then (some false) else (some false))) else ((sums_Update.f k1 0 0 0).bind fun t252 => ((sallyportlaw01_awake.f k1).bind fun t253 => (if t253 = true then (some false) else (some false)))))) else ((sallyportlaw01_awake.f k1).bind fun t254 => (if t254 = true then (some false) else (some false))))) else ((sallyportlaw01_awake.f k1).bind fun t255 => (if t255 = true then (some false) else (some false))))))) else ((sums_Add.f k1 65535 65535).bind fun t256 => (if t256 = 65535 then ((sums_Sub.f k1 5 5).bind fun t257 => (if t257 = 65535 then ((sums_Same.f 1 2).bind fun t258 => (if t258 = true then ((sallyportlaw01_awake.f k1).bind fun t259 => (if t259 = true then (some false) else (some false))) else ((sums_Update.f k1 0 0 0).bind fun t260 => ((sallyportlaw01_awake.f k1).bind fun t261 => (if t261 = true then (some false) else (some false)))))) else ((sallyportlaw01_awake.f k1).bind fun t262 => (if t262 = true then (some false) else (some false))))) else ((sallyportlaw01_awake.f k1).bind fun t263 => (if t263 = true then (some false) else (some false))))))) else ((sums_Add.f k1 65535 65535).bind fun t264 => (if t264 = 65535 then ((sums_Sub.f k1 5 5).bind fun t265 => (if t265 = 65535 then ((sums_Same.f 1 2).bind fun t266 => (if t266 = true then ((sallyportlaw01_awake.f k1).bind fun t267 => (if t267 = true then (some false) else (some false))) else ((sums_Update.f k1 0 0 0).bind fun t268 => ((sallyportlaw01_awake.f k1).bind fun t269 => (if t269 = true then (some false) else (some false)))))) else ((sallyportlaw01_awake.f k1).bind fun t270 => (if t270 = true then (some false) else (some false))))) else ((sallyportlaw01_awake.f k1).bind fun t271 => (if t271 = true then (some false) else (some false))))))) else ((sums_Add.f k1 65535 65535).bind fun t272 => (if t272 = 65535 then ((sums_Sub.f k1 5 5).bind fun t273 => (if t273 = 65535 then ((sums_Same.f 1 2).bind fun t274 => (if t274 = true then ((sallyportlaw01_awake.f k1).bind fun t275 => (if t275 = true then (some false) else (some false))) else ((sums_Update.f k1 0 0 0).bind fun t276 => ((sallyportlaw01_awake.f k1).bind fun t277 => (if t277 = true then (some false) else (some false)))))) else ((sallyportlaw01_awake.f k1).bind fun t278 => (if t278 = true then (some false) else (some false))))) else ((sallyportlaw01_awake.f k1).bind fun t279 => (if t279 = true then (some false) else (some false))))))) else ((sums_Add.f k1 65535 65535).bind fun t280 => (if t280 = 65535 then ((sums_Sub.f k1 5 5).bind fun t281 => (if t281 = 65535 then ((sums_Same.f 1 2).bind fun t282 => (if t282 = true then ((sallyportlaw01_awake.f k1).bind fun t283 => (if t283 = true then (some false) else (some false))) else ((sums_Update.f k1 0 0 0).bind fun t284 => ((sallyportlaw01_awake.f k1).bind fun t285 => (if t285 = true then (some false) else (some false)))))) else ((sallyportlaw01_awake.f k1).bind fun t286 => (if t286 = true then (some false) else (some false))))) else ((sallyportlaw01_awake.f k1).bind fun t287 => (if t287 = true then (some false) else (some false))))))) else ((sums_Add.f k1 65535 65535).bind fun t288 => (if t288 = 65535 then ((sums_Sub.f k1 5 5).bind fun t289 => (if t289 = 65535 then ((sums_Same.f 1 2).bind fun t290 => (if t290 = true then ((sallyportlaw01_awake.f k1).bind fun t291 => (if t291 = true then (some false) else (some false))) else ((sums_Update.f k1 0 0 0).bind fun t292 => ((sallyportlaw01_awake.f k1).bind fun t293 => (if t293 = true then (some false) else (some false)))))) else ((sallyportlaw01_awake.f k1).bind fun t294 => (if t294 = true then (some false) else (some false))))) else ((sallyportlaw01_awake.f k1).bind fun t295 => (if t295 = true then (some false) else (some false))))))))) = some r := by first | (rw [hy199]; with_reducible exact H) | (have H2_ := (Option.bind_some _ _).symm.trans H; rw [hy199]; with_reducible exact H2_) | (have H2_ := (Option.bind_some _ _).symm.trans H; with_reducible exact H2_) | with_reducible exact H | (rw [hy199]; exact H) | exact H
          have Ny199 := Aside0.mk hy199
          clear hy199
          obtain ⟨y202, hy202⟩ : ∃ y_ : List Int, y_ = (([0, 1, 2, 3] : List Int)) := ⟨_, rfl⟩
          replace H : ((sums_Diff.f k1 y199 y202).bind fun bt205 => ((sums_Diff.f k1 ([] : List Int) (([] : List Int))).bind fun bt210 => ((sums_Sum.f k1 ([] : List Int)).bind fun t212 => (if t212 = 0 then ((sums_Sum.f k1 (([1, 2] : List Int))).bind fun t216 => (if t216 = 258 then ((sums_Sum.f k1 (([255, 255] : List Int))).bind fun t220 => (if t220 = 65535 then ((sums_Sum.f k1 (([255, 255, 0, 1] : List Int))).bind fun t224 => (if t224 = 1 then ((sums_Sum.f k1 (([255, 255, 255, 255, 0, 1] : List Int))).bind fun t228 => (if t228 = 1 then ((sums_Field.f k1 ([] : List Int)).bind fun t229 => (if t229 = 65535 then ((sums_Field.f k1 (([255, 255] : List Int))).bind fun t233 => ((sums_Add.f k1 65535 65535).bind fun t234 => (if t234 = 65535 then ((sums_Sub.f k1 5 5).bind fun t235 => (if t235 = 65535 then ((sums_Same.f 1 2).bind fun t236 => (if t236 = true then ((sallyportlaw01_awake.f k1).bind fun t237 => (if t237 = true then (if t233 = 0 then (some false) else (some false)) else (some false))) else ((sums_Update.f k1 0 0 0).bind fun t238 => ((sallyportlaw01_awake.f k1).bind fun t239 => (if t239 = true then (if t233 = 0 then (if t238 = 0 then (if t198 = 2 then (if bt205.2 = 2 then (if bt210.2 = 0 then (if bt210.1 = 65535 then (if 5000 ≤ (x1_1.length : Int) then ((sums_Sum.f k1 (x1_1.take 5000)).bind fun t244 => (if t244 = 65535 then ((sums_Sum.f k1 x1_1).bind fun t245 => (some (t245 == 65280))) else (some false))) else (none)) else (some false)) else (some false)) else (some false)) else (some false)) else (some false)) else (some false)) else (some false)))))) else ((sallyportlaw01_awake.f k1).bind fun t246 => (if t246 = true then (if t233 = 0 then (some false) else (some false)) else (some false))))) else ((sallyportlaw01_awake.f k1).bind fun t247 => (if t247 = true then (if t233 = 0 then (some false) else (some false)) else (some false)))))) else ((sums_Add.f k1 65535 65535).bind fun t248 => (if t248 = 65535 then ((sums_Sub.f k1 5 5).bind fun t249 => (if t249 = 65535 then ((sums_Same.f 1 2).bind fun t250 => (if t250 = true then ((sallyportlaw01_awake.f k1).bind fun t251 => (if t251 = true then (some false) else (some false))) else ((sums_Update.f k1 0 0 0).bind fun t252 => ((sallyportlaw01_awake.f k1).bind fun t253 => (if t253 = true then (some false) else (some false)))))) else ((sallyportlaw01_awake.f k1).bind fun t254 => (if t254 = true then (some false) else (some false))))) else ((sallyportlaw01_awake.f k1).bind fun t255 => (if t255 = true then (some false) else (some false))))))) else ((sums_Add.f k1 65535 65535).bind fun t256 => (if t256 = 65535 then ((sums_Sub.f k1 5 5).bind fun t257 => (if t257 = 65535 then ((sums_Same.f 1 2).bind fun t258 => (if t258 = true then ((sallyportlaw01_awake.f k1).bind fun t259 => (if t259 = true then (some false) else (some false))) else ((sums_Update.f k1 0 0 0).bind fun t260 => ((sallyportlaw01_awake.f k1).bind fun t261 => (if t261 = true then (some false) else (some false)))))) else ((sallyportlaw01_awake.f k1).bind fun t262 => (if t262 = true then (some false) else (some false))))) else ((sallyportlaw01_awake.f k1).bind fun t263 => (if t263 = true then (some false) else (some false))))))) else ((sums_Add.f k1 65535 65535).bind fun t264 => (if t264 = 65535 then ((sums_Sub.f k1 5 5).bind fun t265 => (if t265 = 65535 then ((sums_Same.f 1 2).bind fun t266 => (if t266 = true then ((sallyportlaw01_awake.f k1).bind fun t267 => (if t267 = true then (some false) else (some false))) else ((sums_Update.f k1 0 0 0).bind fun t268 => ((sallyportlaw01_awake.f k1).bind fun t269 => (if t269 = true then (some false) else (some false)))))) else ((sallyportlaw01_awake.f k1).bind fun t270 => (if t270 = true then (some false) else (some false))))) else ((sallyportlaw01_awake.f k1).bind fun t271 => (if t271 = true then (some false) else (some false))))))) else ((sums_Add.f k1 65535 65535).bind fun t272 => (if t272 = 65535 then ((sums_Sub.f k1 5 5).bind fun t273 => (if t273 = 65535 then ((sums_Same.f 1 2).bind fun t274 => (if t274 = true then ((sallyportlaw01_awake.f k1).bind fun t275 => (if t275 = true then (some false) else (some false))) else ((sums_Update.f k1 0 0 0).bind fun t276 => ((sallyportlaw01_awake.f k1).bind fun t277 => (if t277 = true then (some false) else (some false)))))) else ((sallyportlaw01_awake.f k1).bind fun t278 => (if t278 = true then (some false) else (some false))))) else ((sallyportlaw01_awake.f k1).bind fun t279 => (if t279 = true then (some false) else (some false))))))) else ((sums_Add.f k1 65535 65535).bind fun t280 => (if t280 = 65535 then ((sums_Sub.f k1 5 5).bind fun t281 => (if t281 = 65535 then ((sums_Same.f 1 2).bind fun t282 => (if t282 = true then ((sallyportlaw01_awake.f k1).bind fun t283 => (if t283 = true then (some false) else (some false))) else ((sums_Update.f k1 0 0 0).bind fun t284 => ((sallyportlaw01_awake.f k1).bind fun t285 => (if t285 = true then (some false) else (some false)))))) else ((sallyportlaw01_awake.f k1).bind fun t286 => (if t286 = true then (some false) else (some false))))) else ((sallyportlaw01_awake.f k1).bind fun t287 => (if t287 = true then (some false) else (some false))))))) else ((sums_Add.f k1 65535 65535).bind fun t288 => (if t288 = 65535 then ((sums_Sub.f k1 5 5).bind fun t289 => (if t289 = 65535 then ((sums_Same.f 1 2).bind fun t290 => (if t290 = true then ((sallyportlaw01_awake.f k1).bind fun t291 => (if t291 = true then (some false) else (some false))) else ((sums_Update.f k1 0 0 0).bind fun t292 => ((sallyportlaw01_awake.f k1).bind fun t293 => (if t293 = true then (some false) else (some false)))))) else ((sallyportlaw01_awake.f k1).bind fun t294 => (if t294 = true then (some false) else (some false))))) else ((sallyportlaw01_awake.f k1).bind fun t295 => (if t295 = true then (some false) else (some false))))))))) = some r := by first | (rw [hy202]; with_reducible exact H) | (have H2_ := (Option.bind_some _ _).symm.trans H; rw [hy202]; with_reducible exact H2_) | (have H2_ := (Option.bind_some _ _).symm.trans H; with_reducible exact H2_) | with_reducible exact H | (rw [hy202]; exact H) | exact H
          have Ny202 := Aside0.mk hy202
          clear hy202
          replace H := Option.bind_eq_some_iff.mp H
          obtain ⟨⟨t205, t206⟩, A110, H⟩ := H
          replace H : ((sums_Diff.f k1 ([] : List Int) (([] : List Int))).bind fun bt210 => ((sums_Sum.f k1 ([] : List Int)).bind fun t212 => (if t212 = 0 then ((sums_Sum.f k1 (([1, 2] : List Int))).bind fun t216 => (if t216 = 258 then ((sums_Sum.f k1 (([255, 255] : List Int))).bind fun t220 => (if t220 = 65535 then ((sums_Sum.f k1 (([255, 255, 0, 1] : List Int))).bind fun t224 => (if t224 = 1 then ((sums_Sum.f k1 (([255, 255, 255, 255, 0, 1] : List Int))).bind fun t228 => (if t228 = 1 then ((sums_Field.f k1 ([] : List Int)).bind fun t229 => (if t229 = 65535 then ((sums_Field.f k1 (([255, 255] : List Int))).bind fun t233 => ((sums_Add.f k1 65535 65535).bind fun t234 => (if t234 = 65535 then ((sums_Sub.f k1 5 5).bind fun t235 => (if t235 = 65535 then ((sums_Same.f 1 2).bind fun t236 => (if t236 = true then ((sallyportlaw01_awake.f k1).bind fun t237 => (if t237 = true then (if t233 = 0 then (some false) else (some false)) else (some false))) else ((sums_Update.f k1 0 0 0).bind fun t238 => ((sallyportlaw01_awake.f k1).bind fun t239 => (if t239 = true then (if t233 = 0 then (if t238 = 0 then (if t198 = 2 then (if t206 = 2 then (if bt210.2 = 0 then (if bt210.1 = 65535 then (if 5000 ≤ (x1_1.length : Int) then ((sums_Sum.f k1 (x1_1.take 5000)).bind fun t244 => (if t244 = 65535 then ((sums_Sum.f k1 x1_1).bind fun t245 => (some (t245 == 65280))) else (some false))) else (none)) else (some false)) else (some false)) else (some false)) else (some false)) else (some false)) else (some false)) else (some false)))))) else ((sallyportlaw01_awake.f k1).bind fun t246 => (if t246 = true then (if t233 = 0 then (some false) else (some false)) else (some false))))) else ((sallyportlaw01_awake.f k1).bind fun t247 => (if t247 = true then (if t233 = 0 then (some false) else (some false)) else (some false)))))) else ((sums_Add.f k1 65535 65535).bind fun t248 => (if t248 = 65535 then ((sums_Sub.f k1 5 5).bind fun t249 => (if t249 = 65535 then ((sums_Same.f 1 2).bind fun t250 => (if t250 = true then ((sallyportlaw01_awake.f k1).bind fun t251 => (if t251 = true then (some false) else (some false))) else ((sums_Update.f k1 0 0 0).bind fun t252 => ((sallyportlaw01_awake.f k1).bind fun t253 => (if t253 = true then (some false) else (some false)))))) else ((sallyportlaw01_awake.f k1).bind fun t254 => (if t254 = true then (some false) else (some false))))) else ((sallyportlaw01_awake.f k1).bind fun t255 => (if t255 = true then (some false) else (some false))))))) else ((sums_Add.f k1 65535 65535).bind fun t256 => (if t256 = 65535 then ((sums_Sub.f k1 5 5).bind fun t257 => (if t257 = 65535 then ((sums_Same.f 1 2).bind fun t258 => (if t258 = true then ((sallyportlaw01_awake.f k1).bind fun t259 => (if t259 = true then (some false) else (some false))) else ((sums_Update.f k1 0 0 0).bind fun t260 => ((sallyportlaw01_awake.f k1).bind fun t261 => (if t261 = true then (some false) else (some false)))))) else ((sallyportlaw01_awake.f k1).bind fun t262 => (if t262 = true then (some false) else (some false))))) else ((sallyportlaw01_awake.f k1).bind fun t263 => (if t263 = true then (some false) else (some false))))))) else ((sums_Add.f k1 65535 65535).bind fun t264 => (if t264 = 65535 then ((sums_Sub.f k1 5 5).bind fun t265 => (if t265 = 65535 then ((sums_Same.f 1 2).bind fun t266 => (if t266 = true then ((sallyportlaw01_awake.f k1).bind fun t267 => (if t267 = true then (some false) else (some false))) else ((sums_Update.f k1 0 0 0).bind fun t268 => ((sallyportlaw01_awake.f k1).bind fun t269 => (if t269 = true then (some false) else (some false)))))) else ((sallyportlaw01_awake.f k1).bind fun t270 => (if t270 = true then (some false) else (some false))))) else ((sallyportlaw01_awake.f k1).bind fun t271 => (if t271 = true then (some false) else (some false))))))) else ((sums_Add.f k1 65535 65535).bind fun t272 => (if t272 = 65535 then ((sums_Sub.f k1 5 5).bind fun t273 => (if t273 = 65535 then ((sums_Same.f 1 2).bind fun t274 => (if t274 = true then ((sallyportlaw01_awake.f k1).bind fun t275 => (if t275 = true then (some false) else (some false))) else ((sums_Update.f k1 0 0 0).bind fun t276 => ((sallyportlaw01_awake.f k1).bind fun t277 => (if t277 = true then (some false) else (some false)))))) else ((sallyportlaw01_awake.f k1).bind fun t278 => (if t278 = true then (some false) else (some false))))) else ((sallyportlaw01_awake.f k1).bind fun t279 => (if t279 = true then (some false) else (some false))))))) else ((sums_Add.f k1 65535 65535).bind fun t280 => (if t280 = 65535 then ((sums_Sub.f k1 5 5).bind fun t281 => (if t281 = 65535 then ((sums_Same.f 1 2).bind fun t282 => (if t282 = true then ((sallyportlaw01_awake.f k1).bind fun t283 => (if t283 = true then (some false) else (some false))) else ((sums_Update.f k1 0 0 0).bind fun t284 => ((sallyportlaw01_awake.f k1).bind fun t285 => (if t285 = true then (some false) else (some false)))))) else ((sallyportlaw01_awake.f k1).bind fun t286 => (if t286 = true then (some false) else (some false))))) else ((sallyportlaw01_awake.f k1).bind fun t287 => (if t287 = true then (some false) else (some false))))))) else ((sums_Add.f k1 65535 65535).bind fun t288 => (if t288 = 65535 then ((sums_Sub.f k1 5 5).bind fun t289 => (if t289 = 65535 then ((sums_Same.f 1 2).bind fun t290 => (if t290 = true then ((sallyportlaw01_awake.f k1).bind fun t291 => (if t291 = true then (some false) else (some false))) else ((sums_Update.f k1 0 0 0).bind fun t292 => ((sallyportlaw01_awake.f k1).bind fun t293 => (if t293 = true then (some false) else (some false)))))) else ((sallyportlaw01_awake.f k1).bind fun t294 => (if t294 = true then (some false) else (some false))))) else ((sallyportlaw01_awake.f k1).bind fun t295 => (if t295 = true then (some false) else (some false)))))))) = some r := H
          have A11 := Aside0.mk A110
          clear A110
          obtain ⟨y207, hy207⟩ : ∃ y_ : List Int, y_ = (([] : List Int)) := ⟨_, rfl⟩
          replace H : ((sums_Diff.f k1 ([] : List Int) y207).bind fun bt210 => ((sums_Sum.f k1 ([] : List Int)).bind fun t212 => (if t212 = 0 then ((sums_Sum.f k1 (([1, 2] : List Int))).bind fun t216 => (if t216 = 258 then ((sums_Sum.f k1 (([255, 255] : List Int))).bind fun t220 => (if t220 = 65535 then ((sums_Sum.f k1 (([255, 255, 0, 1] : List Int))).bind fun t224 => (if t224 = 1 then ((sums_Sum.f k1 (([255, 255, 255, 255, 0, 1] : List Int))).bind fun t228 => (if t228 = 1 then ((sums_Field.f k1 ([] : List Int)).bind fun t229 => (if t229 = 65535 then ((sums_Field.f k1 (([255, 255] : List Int))).bind fun t233 => ((sums_Add.f k1 65535 65535).bind fun t234 => (if t234 = 65535 then ((sums_Sub.f k1 5 5).bind fun t235 => (if t235 = 65535 then ((sums_Same.f 1 2).bind fun t236 => (if t236 = true then ((sallyportlaw01_awake.f k1).bind fun t237 => (if t237 = true then (if t233 = 0 then (some false) else (some false)) else (some false))) else ((sums_Update.f k1 0 0 0).bind fun t238 => ((sallyportlaw01_awake.f k1).bind fun t239 => (if t239 = true then (if t233 = 0 then (if t238 = 0 then (if t198 = 2 then (if t206 = 2 then (if bt210.2 = 0 then (if bt210.1 = 65535 then (if 5000 ≤ (x1_1.length : Int) then ((sums_Sum.f k1 (x1_1.take 5000)).bind fun t244 => (if t244 = 65535 then ((sums_Sum.f k1 x1_1).bind fun t245 => (some (t245 == 65280))) else (some false))) else (none)) else (some false)) else (some false)) else (some false)) else (some false)) else (some false)) else (some false)) else (some false)))))) else ((sallyportlaw01_awake.f k1).bind fun t246 => (if t246 = true then (if t233 = 0 then (some false) else (some false)) else (some false))))) else ((sallyportlaw01_awake.f k1).bind fun t247 => (if t247 = true then (if t233 = 0 then (some false) else (some false)) else (some false)))))) else ((sums_Add.f k1 65535 65535).bind fun t248 => (if t248 = 65535 then ((sums_Sub.f k1 5 5).bind fun t249 => (if t249 = 65535 then ((sums_Same.f 1 2).bind fun t250 => (if t250 = true then ((sallyportlaw01_awake.f k1).bind fun t251 => (if t251 = true then (some false) else (some false))) else ((sums_Update.f k1 0 0 0).bind fun t252 => ((sallyportlaw01_awake.f k1).bind fun t253 => (if t253 = true then (some false) else (some false)))))) else ((sallyportlaw01_awake.f k1).bind fun t254 => (if t254 = true then (some false) else (some false))))) else ((sallyportlaw01_awake.f k1).bind fun t255 => (if t255 = true then (some false) else (some false))))))) else ((sums_Add.f k1 65535 65535).bind fun t256 => (if t256 = 65535 then ((sums_Sub.f k1 5 5).bind fun t257 => (if t257 = 65535 then ((sums_Same.f 1 2).bind fun t258 => (if t258 = true then ((sallyportlaw01_awake.f k1).bind fun t259 => (if t259 = true then (some false) else (some false))) else ((sums_Update.f k1 0 0 0).bind fun t260 => ((sallyportlaw01_awake.f k1).bind fun t261 => (if t261 = true then (some false) else (some false)))))) else ((sallyportlaw01_awake.f k1).bind fun t262 => (if t262 = true then (some false) else (some false))))) else ((sallyportlaw01_awake.f k1).bind fun t263 => (if t263 = true then (some false) else (some false))))))) else ((sums_Add.f k1 65535 65535).bind fun t264 => (if t264 = 65535 then ((sums_Sub.f k1 5 5).bind fun t265 => (if t265 = 65535 then ((sums_Same.f 1 2).bind fun t266 => (if t266 = true then ((sallyportlaw01_awake.f k1).bind fun t267 => (if t267 = true then (some false) else (some false))) else ((sums_Update.f k1 0 0 0).bind fun t268 => ((sallyportlaw01_awake.f k1).bind fun t269 => (if t269 = true then (some false) else (some false)))))) else ((sallyportlaw01_awake.f k1).bind fun t270 => (if t270 = true then (some false) else (some false))))) else ((sallyportlaw01_awake.f k1).bind fun t271 => (if t271 = true then (some false) else (some false))))))) else ((sums_Add.f k1 65535 65535).bind fun t272 => (if t272 = 65535 then ((sums_Sub.f k1 5 5).bind fun t273 => (if t273 = 65535 then ((sums_Same.f 1 2).bind fun t274 => (if t274 = true then ((sallyportlaw01_awake.f k1).bind fun t275 => (if t275 = true then (some false) else (some false))) else ((sums_Update.f k1 0 0 0).bind fun t276 => ((sallyportlaw01_awake.f k1).bind fun t277 => (if t277 = true then (some false) else (some false)))))) else ((sallyportlaw01_awake.f k1).bind fun t278 => (if t278 = true then (some false) else (some false))))) else ((sallyportlaw01_awake.f k1).bind fun t279 => (if t279 = true then (some false) else (some false))))))) else ((sums_Add.f k1 65535 65535).bind fun t280 => (if t280 = 65535 then ((sums_Sub.f k1 5 5).bind fun t281 => (if t281 = 65535 then ((sums_Same.f 1 2).bind fun t282 => (if t282 = true then ((sallyportlaw01_awake.f k1).bind fun t283 => (if t283 = true then (some false) else (some false))) else ((sums_Update.f k1 0 0 0).bind fun t284 => ((sallyportlaw01_awake.f k1).bind fun t285 => (if t285 = true then (some false) else (some false)))))) else ((sallyportlaw01_awake.f k1).bind fun t286 => (if t286 = true then (some false) else (some false))))) else ((sallyportlaw01_awake.f k1).bind fun t287 => (if t287 = true then (some false) else (some false))))))) else ((sums_Add.f k1 65535 65535).bind fun t288 => (if t288 = 65535 then ((sums_Sub.f k1 5 5).bind fun t289 => (if t289 = 65535 then ((sums_Same.f 1 2).bind fun t290 => (if t290 = true then ((sallyportlaw01_awake.f k1).bind fun t291 => (if t291 = true then (some false) else (some false))) else ((sums_Update.f k1 0 0 0).bind fun t292 => ((sallyportlaw01_awake.f k1).bind fun t293 => (if t293 = true then (some false) else (some false)))))) else ((sallyportlaw01_awake.f k1).bind fun t294 => (if t294 = true then (some false) else (some false))))) else ((sallyportlaw01_awake.f k1).bind fun t295 => (if t295 = true then (some false) else (some false)))))))) = some r := by first | (rw [hy207]; with_reducible exact H) | (have H2_ := (Option.bind_some _ _).symm.trans H; rw [hy207]; with_reducible exact H2_) | (have H2_ := (Option.bind_some _ _).symm.trans H; with_reducible exact H2_) | with_reducible exact H | (rw [hy207]; exact H) | exact H
          have Ny207 := Aside0.mk hy207
          clear hy207
          replace H := Option.bind_eq_some_iff.mp H
          obtain ⟨⟨t210, t211⟩, A120, H⟩ := H
          replace H : ((sums_Sum.f k1 ([] : List Int)).bind fun t212 => (if t212 = 0 then ((sums_Sum.f k1 (([1, 2] : List Int))).bind fun t216 => (if t216 = 258 then ((sums_Sum.f k1 (([255, 255] : List Int))).bind fun t220 => (if t220 = 65535 then ((sums_Sum.f k1 (([255, 255, 0, 1] : List Int))).bind fun t224 => (if t224 = 1 then ((sums_Sum.f k1 (([255, 255, 255, 255, 0, 1] : List Int))).bind fun t228 => (if t228 = 1 then ((sums_Field.f k1 ([] : List Int)).bind fun t229 => (if t229 = 65535 then ((sums_Field.f k1 (([255, 255] : List Int))).bind fun t233 => ((sums_Add.f k1 65535 65535).bind fun t234 => (if t234 = 65535 then ((sums_Sub.f k1 5 5).bind fun t235 => (if t235 = 65535 then ((sums_Same.f 1 2).bind fun t236 => (if t236 = true then ((sallyportlaw01_awake.f k1).bind fun t237 => (if t237 = true then (if t233 = 0 then (some false) else (some false)) else (some false))) else ((sums_Update.f k1 0 0 0).bind fun t238 => ((sallyportlaw01_awake.f k1).bind fun t239 => (if t239 = true then (if t233 = 0 then (if t238 = 0 then (if t198 = 2 then (if t206 = 2 then (if t211 = 0 then (if t210 = 65535 then (if 5000 ≤ (x1_1.length : Int) then ((sums_Sum.f k1 (x1_1.take 5000)).bind fun t244 => (if t244 = 65535 then ((sums_Sum.f k1 x1_1).bind fun t245 => (some (t245 == 65280))) else (some false))) else (none)) else (some false)) else (some false)) else (some false)) else (some false)) else (some false)) else (some false)) else (some false)))))) else ((sallyportlaw01_awake.f k1).bind fun t246 => (if t246 = true then (if t233 = 0 then (some false) else (some false)) else (some false))))) else ((sallyportlaw01_awake.f k1).bind fun t247 => (if t247 = true then (if t233 = 0 then (some false) else (some false)) else (some false)))))) else ((sums_Add.f k1 65535 65535).bind fun t248 => (if t248 = 65535 then ((sums_Sub.f k1 5 5).bind fun t249 => (if t249 = 65535 then ((sums_Same.f 1 2).bind fun t250 => (if t250 = true then ((sallyportlaw01_awake.f k1).bind fun t251 => (if t251 = true then (some false) else (some false))) else ((sums_Update.f k1 0 0 0).bind fun t252 => ((sallyportlaw01_awake.f k1).bind fun t253 => (if t253 = true then (some false) else (some false)))))) else ((sallyportlaw01_awake.f k1).bind fun t254 => (if t254 = true then (some false) else (some false))))) else ((sallyportlaw01_awake.f k1).bind fun t255 => (if t255 = true then (some false) else (some false))))))) else ((sums_Add.f k1 65535 65535).bind fun t256 => (if t256 = 65535 then ((sums_Sub.f k1 5 5).bind fun t257 => (if t257 = 65535 then ((sums_Same.f 1 2).bind fun t258 => (if t258 = true then ((sallyportlaw01_awake.f k1).bind fun t259 => (if t259 = true then (some false) else (some false))) else ((sums_Update.f k1 0 0 0).bind fun t260 => ((sallyportlaw01_awake.f k1).bind fun t261 => (if t261 = true then (some false) else (some false)))))) else ((sallyportlaw01_awake.f k1).bind fun t262 => (if t262 = true then (some false) else (some false))))) else ((sallyportlaw01_awake.f k1).bind fun t263 => (if t263 = true then (some false) else (some false))))))) else ((sums_Add.f k1 65535 65535).bind fun t264 => (if t264 = 65535 then ((sums_Sub.f k1 5 5).bind fun t265 => (if t265 = 65535 then ((sums_Same.f 1 2).bind fun t266 => (if t266 = true then ((sallyportlaw01_awake.f k1).bind fun t267 => (if t267 = true then (some false) else (some false))) else ((sums_Update.f k1 0 0 0).bind fun t268 => ((sallyportlaw01_awake.f k1).bind fun t269 => (if t269 = true then (some false) else (some false)))))) else ((sallyportlaw01_awake.f k1).bind fun t270 => (if t270 = true then (some false) else (some false))))) else ((sallyportlaw01_awake.f k1).bind fun t271 => (if t271 = true then (some false) else (some false))))))) else ((sums_Add.f k1 65535 65535).bind fun t272 => (if t272 = 65535 then ((sums_Sub.f k1 5 5).bind fun t273 => (if t273 = 65535 then ((sums_Same.f 1 2).bind fun t274 => (if t274 = true then ((sallyportlaw01_awake.f k1).bind fun t275 => (if t275 = true then (some false) else (some false))) else ((sums_Update.f k1 0 0 0).bind fun t276 => ((sallyportlaw01_awake.f k1).bind fun t277 => (if t277 = true then (some false) else (some false)))))) else ((sallyportlaw01_awake.f k1).bind fun t278 => (if t278 = true then (some false) else (some false))))) else ((sallyportlaw01_awake.f k1).bind fun t279 => (if t279 = true then (some false) else (some false))))))) else ((sums_Add.f k1 65535 65535).bind fun t280 => (if t280 = 65535 then ((sums_Sub.f k1 5 5).bind fun t281 => (if t281 = 65535 then ((sums_Same.f 1 2).bind fun t282 => (if t282 = true then ((sallyportlaw01_awake.f k1).bind fun t283 => (if t283 = true then (some false) else (some false))) else ((sums_Update.f k1 0 0 0).bind fun t284 => ((sallyportlaw01_awake.f k1).bind fun t285 => (if t285 = true then (some false) else (some false)))))) else ((sallyportlaw01_awake.f k1).bind fun t286 => (if t286 = true then (some false) else (some false))))) else ((sallyportlaw01_awake.f k1).bind fun t287 => (if t287 = true then (some false) else (some false))))))) else ((sums_Add.f k1 65535 65535).bind fun t288 => (if t288 = 65535 then ((sums_Sub.f k1 5 5).bind fun t289 => (if t289 = 65535 then ((sums_Same.f 1 2).bind fun t290 => (if t290 = true then ((sallyportlaw01_awake.f k1).bind fun t291 => (if t291 = true then (some false) else (some false))) else ((sums_Update.f k1 0 0 0).bind fun t292 => ((sallyportlaw01_awake.f k1).bind fun t293 => (if t293 = true then (some false) else (some false)))))) else ((sallyportlaw01_awake.f k1).bind fun t294 => (if t294 = true then (some false) else (some false))))) else ((sallyportlaw01_awake.f k1).bind fun t295 => (if t295 = true then (some false) else (some false))))))) = some r := H
          have A12 := Aside0.mk A120
          clear A120
          replace H := Option.bind_eq_some_iff.mp H
          obtain ⟨t212, A130, H⟩ := H
          replace H : (if t212 = 0 then ((sums_Sum.f k1 (([1, 2] : List Int))).bind fun t216 => (if t216 = 258 then ((sums_Sum.f k1 (([255, 255] : List Int))).bind fun t220 => (if t220 = 65535 then ((sums_Sum.f k1 (([255, 255, 0, 1] : List Int))).bind fun t224 => (if t224 = 1 then ((sums_Sum.f k1 (([255, 255, 255, 255, 0, 1] : List Int))).bind fun t228 => (if t228 = 1 then ((sums_Field.f k1 ([] : List Int)).bind fun t229 => (if t229 = 65535 then ((sums_Field.f k1 (([255, 255] : List Int))).bind fun t233 => ((sums_Add.f k1 65535 65535).bind fun t234 => (if t234 = 65535 then ((sums_Sub.f k1 5 5).bind fun t235 => (if t235 = 65535 then ((sums_Same.f 1 2).bind fun t236 => (if t236 = true then ((sallyportlaw01_awake.f k1).bind fun t237 => (if t237 = true then (if t233 = 0 then (some false) else (some false)) else (some false))) else ((sums_Update.f k1 0 0 0).bind fun t238 => ((sallyportlaw01_awake.f k1).bind fun t239 => (if t239 = true then (if t233 = 0 then (if t238 = 0 then (if t198 = 2 then (if t206 = 2 then (if t211 = 0 then (if t210 = 65535 then (if 5000 ≤ (x1_1.length : Int) then ((sums_Sum.f k1 (x1_1.take 5000)).bind fun t244 => (if t244 = 65535 then ((sums_Sum.f k1 x1_1).bind fun t245 => (some (t245 == 65280))) else (some false))) else (none)) else (some false)) else (some false)) else (some false)) else (some false)) else (some false)) else (some false)) else (some false)))))) else ((sallyportlaw01_awake.f k1).bind fun t246 => (if t246 = true then (if t233 = 0 then (some false) else (some false)) else (some false))))) else ((sallyportlaw01_awake.f k1).bind fun t247 => (if t247 = true then (if t233 = 0 then (some false) else (some false)) else (some false)))))) else ((sums_Add.f k1 65535 65535).bind fun t248 => (if t248 = 65535 then ((sums_Sub.f k1 5 5).bind fun t249 => (if t249 = 65535 then ((sums_Same.f 1 2).bind fun t250 => (if t250 = true then ((sallyportlaw01_awake.f k1).bind fun t251 => (if t251 = true then (some false) else (some false))) else ((sums_Update.f k1 0 0 0).bind fun t252 => ((sallyportlaw01_awake.f k1).bind fun t253 => (if t253 = true then (some false) else (some false)))))) else ((sallyportlaw01_awake.f k1).bind fun t254 => (if t254 = true then (some false) else (some false))))) else ((sallyportlaw01_awake.f k1).bind fun t255 => (if t255 = true then (some false) else (some false))))))) else ((sums_Add.f k1 65535 65535).bind fun t256 => (if t256 = 65535 then ((sums_Sub.f k1 5 5).bind fun t257 => (if t257 = 65535 then ((sums_Same.f 1 2).bind fun t258 => (if t258 = true then ((sallyportlaw01_awake.f k1).bind fun t259 => (if t259 = true then (some false) else (some false))) else ((sums_Update.f k1 0 0 0).bind fun t260 => ((sallyportlaw01_awake.f k1).bind fun t261 => (if t261 = true then (some false) else (some false)))))) else ((sallyportlaw01_awake.f k1).bind fun t262 => (if t262 = true then (some false) else (some false))))) else ((sallyportlaw01_awake.f k1).bind fun t263 => (if t263 = true then (some false) else (some false))))))) else ((sums_Add.f k1 65535 65535).bind fun t264 => (if t264 = 65535 then ((sums_Sub.f k1 5 5).bind fun t265 => (if t265 = 65535 then ((sums_Same.f 1 2).bind fun t266 => (if t266 = true then ((sallyportlaw01_awake.f k1).bind fun t267 => (if t267 = true then (some false) else (some false))) else ((sums_Update.f k1 0 0 0).bind fun t268 => ((sallyportlaw01_awake.f k1).bind fun t269 => (if t269 = true then (some false) else (some false)))))) else ((sallyportlaw01_awake.f k1).bind fun t270 => (if t270 = true then (some false) else (some false))))) else ((sallyportlaw01_awake.f k1).bind fun t271 => (if t271 = true then (some false) else (some false))))))) else ((sums_Add.f k1 65535 65535).bind fun t272 => (if t272 = 65535 then ((sums_Sub.f k1 5 5).bind fun t273 => (if t273 = 65535 then ((sums_Same.f 1 2).bind fun t274 => (if t274 = true then ((sallyportlaw01_awake.f k1).bind fun t275 => (if t275 = true then (some false) else (some false))) else ((sums_Update.f k1 0 0 0).bind fun t276 => ((sallyportlaw01_awake.f k1).bind fun t277 => (if t277 = true then (some false) else (some false)))))) else ((sallyportlaw01_awake.f k1).bind fun t278 => (if t278 = true then (some false) else (some false))))) else ((sallyportlaw01_awake.f k1).bind fun t279 => (if t279 = true then (some false) else (some false))))))) else ((sums_Add.f k1 65535 65535).bind fun t280 => (if t280 = 65535 then ((sums_Sub.f k1 5 5).bind fun t281 => (if t281 = 65535 then ((sums_Same.f 1 2).bind fun t282 => (if t282 = true then ((sallyportlaw01_awake.f k1).bind fun t283 => (if t283 = true then (some false) else (some false))) else ((sums_Update.f k1 0 0 0).bind fun t284 => ((sallyportlaw01_awake.f k1).bind fun t285 => (if t285 = true then (some false) else (some false)))))) else ((sallyportlaw01_awake.f k1).bind fun t286 => (if t286 = true then (some false) else (some false))))) else ((sallyportlaw01_awake.f k1).bind fun t287 => (if t287 = true then (some false) else (some false))))))) else ((sums_Add.f k1 65535 65535).bind fun t288 => (if t288 = 65535 then ((sums_Sub.f k1 5 5).bind fun t289 => (if t289 = 65535 then ((sums_Same.f 1 2).bind fun t290 => (if t290 = true then ((sallyportlaw01_awake.f k1).bind fun t291 => (if t291 = true then (some false) else (some false))) else ((sums_Update.f k1 0 0 0).bind fun t292 => ((sallyportlaw01_awake.f k1).bind fun t293 => (if t293 = true then (some false) else (some false)))))) else ((sallyportlaw01_awake.f k1).bind fun t294 => (if t294 = true then (some false) else (some false))))) else ((sallyportlaw01_awake.f k1).bind fun t295 => (if t295 = true then (some false) else (some false)))))) = some r := H
          have A13 := Aside0.mk A130
          clear A130
          by_cases c14 : t212 = 0
          · rw [if_pos c14] at H
            have c14b0 : (t212 == 0) = true := beq_iff_eq.mpr c14
            have c14b1 : (t212 != 0) = false := bne_eq_false_iff_eq.mpr c14
            clear c14
            obtain ⟨y213, hy213⟩ : ∃ y_ : List Int, y_ = (([1, 2] : List Int)) := ⟨_, rfl⟩
            replace H : ((sums_Sum.f k1 y213).bind fun t216 => (if t216 = 258 then ((sums_Sum.f k1 (([255, 255] : List Int))).bind fun t220 => (if t220 = 65535 then ((sums_Sum.f k1 (([255, 255, 0, 1] : List Int))).bind fun t224 => (if t224 = 1 then ((sums_Sum.f k1 (([255, 255, 255, 255, 0, 1] : List Int))).bind fun t228 => (if t228 = 1 then ((sums_Field.f k1 ([] : List Int)).bind fun t229 => (if t229 = 65535 then ((sums_Field.f k1 (([255, 255] : List Int))).bind fun t233 => ((sums_Add.f k1 65535 65535).bind fun t234 => (if t234 = 65535 then ((sums_Sub.f k1 5 5).bind fun t235 => (if t235 = 65535 then ((sums_Same.f 1 2).bind fun t236 => (if t236 = true then ((sallyportlaw01_awake.f k1).bind fun t237 => (if t237 = true then (if t233 = 0 then (some false) else (some false)) else (some false))) else ((sums_Update.f k1 0 0 0).bind fun t238 => ((sallyportlaw01_awake.f k1).bind fun t239 => (if t239 = true then (if t233 = 0 then (if t238 = 0 then (if t198 = 2 then (if t206 = 2 then (if t211 = 0 then (if t210 = 65535 then (if 5000 ≤ (x1_1.length : Int) then ((sums_Sum.f k1 (x1_1.take 5000)).bind fun t244 => (if t244 = 65535 then ((sums_Sum.f k1 x1_1).bind fun t245 => (some (t245 == 65280))) else (some false))) else (none)) else (some false)) else (some false)) else (some false)) else (some false)) else (some false)) else (some false)) else (some false)))))) else ((sallyportlaw01_awake.f k1).bind fun t246 => (if t246 = true then (if t233 = 0 then (some false) else (some false)) else (some false))))) else ((sallyportlaw01_awake.f k1).bind fun t247 => (if t247 = true then (if t233 = 0 then (some false) else (some false)) else (some false)))))) else ((sums_Add.f k1 65535 65535).bind fun t248 => (if t248 = 65535 then ((sums_Sub.f k1 5 5).bind fun t249 => (if t249 = 65535 then ((sums_Same.f 1 2).bind fun t250 => (if t250 = true then ((sallyportlaw01_awake.f k1).bind fun t251 => (if t251 = true then (some false) else (some false))) else ((sums_Update.f k1 0 0 0).bind fun t252 => ((sallyportlaw01_awake.f k1).bind fun t253 => (if t253 = true then (some false) else (some false)))))) else ((sallyportlaw01_awake.f k1).bind fun t254 => (if t254 = true then (some false) else (some false))))) else ((sallyportlaw01_awake.f k1).bind fun t255 => (if t255 = true then (some false) else (some false))))))) else ((sums_Add.f k1 65535 65535).bind fun t256 => (if t256 = 65535 then ((sums_Sub.f k1 5 5).bind fun t257 => (if t257 = 65535 then ((sums_Same.f 1 2).bind fun t258 => (if t258 = true then ((sallyportlaw01_awake.f k1).bind fun t259 => (if t259 = true then (some false) else (some false))) else ((sums_Update.f k1 0 0 0).bind fun t260 => ((sallyportlaw01_awake.f k1).bind fun t261 => (if t261 = true then (some false) else (some false)))))) else ((sallyportlaw01_awake.f k1).bind fun t262 => (if t262 = true then (some false) else (some false))))) else ((sallyportlaw01_awake.f k1).bind fun t263 => (if t263 = true then (some false) else (some false))))))) else ((sums_Add.f k1 65535 65535).bind fun t264 => (if t264 = 65535 then ((sums_Sub.f k1 5 5).bind fun t265 => (if t265 = 65535 then ((sums_Same.f 1 2).bind fun t266 => (if t266 = true then ((sallyportlaw01_awake.f k1).bind fun t267 => (if t267 = true then (some false) else (some false))) else ((sums_Update.f k1 0 0 0).bind fun t268 => ((sallyportlaw01_awake.f k1).bind fun t269 => (if t269 = true then (some false) else (some false)))))) else ((sallyportlaw01_awake.f k1).bind fun t270 => (if t270 = true then (some false) else (some false))))) else ((sallyportlaw01_awake.f k1).bind fun t271 => (if t271 = true then (some false) else (some false))))))) else ((sums_Add.f k1 65535 65535).bind fun t272 => (if t272 = 65535 then ((sums_Sub.f k1 5 5).bind fun t273 => (if t273 = 65535 then ((sums_Same.f 1 2).bind fun t274 => (if t274 = true then ((sallyportlaw01_awake.f k1).bind fun t275 => (if t275 = true then (some false) else (some false))) else ((sums_Update.f k1 0 0 0).bind fun t276 => ((sallyportlaw01_awake.f k1).bind fun t277 => (if t277 = true then (some false) else (some false)))))) else ((sallyportlaw01_awake.f k1).bind fun t278 => (if t278 = true then (some false) else (some false))))) else ((sallyportlaw01_awake.f k1).bind fun t279 => (if t279 = true then (some false) else (some false))))))) else ((sums_Add.f k1 65535 65535).bind fun t280 => (if t280 = 65535 then ((sums_Sub.f k1 5 5).bind fun t281 => (if t281 = 65535 then ((sums_Same.f 1 2).bind fun t282 => (if t282 = true then ((sallyportlaw01_awake.f k1).bind fun t283 => (if t283 = true then (some false) else (some false))) else ((sums_Update.f k1 0 0 0).bind fun t284 => ((sallyportlaw01_awake.f k1).bind fun t285 => (if t285 = true then (some false) else (some false)))))) else ((sallyportlaw01_awake.f k1).bind fun t286 => (if t286 = true then (some false) else (some false))))) else ((sallyportlaw01_awake.f k1).bind fun t287 => (if t287 = true then (some false) else (some false))))))) = some r := by first | (rw [hy213]; with_reducible exact H) | (have H2_ := (Option.bind_some _ _).symm.trans H; rw [hy213]; with_reducible exact H2_) | (have H2_ := (Option.bind_some _ _).symm.trans H; with_reducible exact H2_) | with_reducible exact H | (rw [hy213]; exact H) | exact H
            have Ny213 := Aside0.mk hy213
            clear hy213
            replace H := Option.bind_eq_some_iff.mp H
            obtain ⟨t216, A150, H⟩ := H
            replace H : (if t216 = 258 then ((sums_Sum.f k1 (([255, 255] : List Int))).bind fun t220 => (if t220 = 65535 then ((sums_Sum.f k1 (([255, 255, 0, 1] : List Int))).bind fun t224 => (if t224 = 1 then ((sums_Sum.f k1 (([255, 255, 255, 255, 0, 1] : List Int))).bind fun t228 => (if t228 = 1 then ((sums_Field.f k1 ([] : List Int)).bind fun t229 => (if t229 = 65535 then ((sums_Field.f k1 (([255, 255] : List Int))).bind fun t233 => ((sums_Add.f k1 65535 65535).bind fun t234 => (if t234 = 65535 then ((sums_Sub.f k1 5 5).bind fun t235 => (if t235 = 65535 then ((sums_Same.f 1 2).bind fun t236 => (if t236 = true then ((sallyportlaw01_awake.f k1).bind fun t237 => (if t237 = true then (if t233 = 0 then (some false) else (some false)) else (some false))) else ((sums_Update.f k1 0 0 0).bind fun t238 => ((sallyportlaw01_awake.f k1).bind fun t239 => (if t239 = true then (if t233 = 0 then (if t238 = 0 then (if t198 = 2 then (if t206 = 2 then (if t211 = 0 then (if t210 = 65535 then (if 5000 ≤ (x1_1.length : Int) then ((sums_Sum.f k1 (x1_1.take 5000)).bind fun t244 => (if t244 = 65535 then ((sums_Sum.f k1 x1_1).bind fun t245 => (some (t245 == 65280))) else (some false))) else (none)) else (some false)) else (some false)) else (some false)) else (some false)) else (some false)) else (some false)) else (some false)))))) else ((sallyportlaw01_awake.f k1).bind fun t246 => (if t246 = true then (if t233 = 0 then (some false) else (some false)) else (some false))))) else ((sallyportlaw01_awake.f k1).bind fun t247 => (if t247 = true then (if t233 = 0 then (some false) else (some false)) else (some false)))))) else ((sums_Add.f k1 65535 65535).bind fun t248 => (if t248 = 65535 then ((sums_Sub.f k1 5 5).bind fun t249 => (if t249 = 65535 then ((sums_Same.f 1 2).bind fun t250 => (if t250 = true then ((sallyportlaw01_awake.f k1).bind fun t251 => (if t251 = true then (some false) else (some false))) else ((sums_Update.f k1 0 0 0).bind fun t252 => ((sallyportlaw01_awake.f k1).bind fun t253 => (if t253 = true then (some false) else (some false)))))) else ((sallyportlaw01_awake.f k1).bind fun t254 => (if t254 = true then (some false) else (some false))))) else ((sallyportlaw01_awake.f k1).bind fun t255 => (if t255 = true then (some false) else (some false))))))) else ((sums_Add.f k1 65535 65535).bind fun t256 => (if t256 = 65535 then ((sums_Sub.f k1 5 5).bind fun t257 => (if t257 = 65535 then ((sums_Same.f 1 2).bind fun t258 => (if t258 = true then ((sallyportlaw01_awake.f k1).bind fun t259 => (if t259 = true then (some false) else (some false))) else ((sums_Update.f k1 0 0 0).bind fun t260 => ((sallyportlaw01_awake.f k1).bind fun t261 => (if t261 = true then (some false) else (some false)))))) else ((sallyportlaw01_awake.f k1).bind fun t262 => (if t262 = true then (some false) else (some false))))) else ((sallyportlaw01_awake.f k1).bind fun t263 => (if t263 = true then (some false) else (some false))))))) else ((sums_Add.f k1 65535 65535).bind fun t264 => (if t264 = 65535 then ((sums_Sub.f k1 5 5).bind fun t265 => (if t265 = 65535 then ((sums_Same.f 1 2).bind fun t266 => (if t266 = true then ((sallyportlaw01_awake.f k1).bind fun t267 => (if t267 = true then (some false) else (some false))) else ((sums_Update.f k1 0 0 0).bind fun t268 => ((sallyportlaw01_awake.f k1).bind fun t269 => (if t269 = true then (some false) else (some false)))))) else ((sallyportlaw01_awake.f k1).bind fun t270 => (if t270 = true then (some false) else (some false))))) else ((sallyportlaw01_awake.f k1).bind fun t271 => (if t271 = true then (some false) else (some false))))))) else ((sums_Add.f k1 65535 65535).bind fun t272 => (if t272 = 65535 then ((sums_Sub.f k1 5 5).bind fun t273 => (if t273 = 65535 then ((sums_Same.f 1 2).bind fun t274 => (if t274 = true then ((sallyportlaw01_awake.f k1).bind fun t275 => (if t275 = true then (some false) else (some false))) else ((sums_Update.f k1 0 0 0).bind fun t276 => ((sallyportlaw01_awake.f k1).bind fun t277 => (if t277 = true then (some false) else (some false)))))) else ((sallyportlaw01_awake.f k1).bind fun t278 => (if t278 = true then (some false) else (some false))))) else ((sallyportlaw01_awake.f k1).bind fun t279 => (if t279 = true then (some false) else (some false))))))) else ((sums_Add.f k1 65535 65535).bind fun t280 => (if t280 = 65535 then ((sums_Sub.f k1 5 5).bind fun t281 => (if t281 = 65535 then ((sums_Same.f 1 2).bind fun t282 => (if t282 = true then ((sallyportlaw01_awake.f k1).bind fun t283 => (if t283 = true then (some false) else (some false))) else ((sums_Update.f k1 0 0 0).bind fun t284 => ((sallyportlaw01_awake.f k1).bind fun t285 => (if t285 = true then (some false) else (some false)))))) else ((sallyportlaw01_awake.f k1).bind fun t286 => (if t286 = true then (some false) else (some false))))) else ((sallyportlaw01_awake.f k1).bind fun t287 => (if t287 = true then (some false) else (some false)))))) = some r := H
            have A15 := Aside0.mk A150
            clear A150
            by_cases c16 : t216 = 258
            · rw [if_pos c16] at H
              have c16b0 : (t216 == 258) = true := beq_iff_eq.mpr c16
              have c16b1 : (t216 != 258) = false := bne_eq_false_iff_eq.mpr c16
              clear c16
              obtain ⟨y217, hy217⟩ : ∃ y_ : List Int, y_ = (([255, 255] : List Int)) := ⟨_, rfl⟩
              replace H : ((sums_Sum.f k1 y217).bind fun t220 => (if t220 = 65535 then ((sums_Sum.f k1 (([255, 255, 0, 1] : List Int))).bind fun t224 => (if t224 = 1 then ((sums_Sum.f k1 (([255, 255, 255, 255, 0, 1] : List Int))).bind fun t228 => (if t228 = 1 then ((sums_Field.f k1 ([] : List Int)).bind fun t229 => (if t229 = 65535 then ((sums_Field.f k1 (([255, 255] : List Int))).bind fun t233 => ((sums_Add.f k1 65535 65535).bind fun t234 => (if t234 = 65535 then ((sums_Sub.f k1 5 5).bind fun t235 => (if t235 = 65535 then ((sums_Same.f 1 2).bind fun t236 => (if t236 = true then ((sallyportlaw01_awake.f k1).bind fun t237 => (if t237 = true then (if t233 = 0 then (some false) else (some false)) else (some false))) else ((sums_Update.f k1 0 0 0).bind fun t238 => ((sallyportlaw01_awake.f k1).bind fun t239 => (if t239 = true then (if t233 = 0 then (if t238 = 0 then (if t198 = 2 then (if t206 = 2 then (if t211 = 0 then (if t210 = 65535 then (if 5000 ≤ (x1_1.length : Int) then ((sums_Sum.f k1 (x1_1.take 5000)).bind fun t244 => (if t244 = 65535 then ((sums_Sum.f k1 x1_1).bind fun t245 => (some (t245 == 65280))) else (some false))) else (none)) else (some false)) else (some false)) else (some false)) else (some false)) else (some false)) else (some false)) else (some false)))))) else ((sallyportlaw01_awake.f k1).bind fun t246 => (if t246 = true then (if t233 = 0 then (some false) else (some false)) else (some false))))) else ((sallyportlaw01_awake.f k1).bind fun t247 => (if t247 = true then (if t233 = 0 then (some false) else (some false)) else (some false)))))) else ((sums_Add.f k1 65535 65535).bind fun t248 => (if t248 = 65535 then ((sums_Sub.f k1 5 5).bind fun t249 => (if t249 = 65535 then ((sums_Same.f 1 2).bind fun t250 => (if t250 = true then ((sallyportlaw01_awake.f k1).bind fun t251 => (if t251 = true then (some false) else (some false))) else ((sums_Update.f k1 0 0 0).bind fun t252 => ((sallyportlaw01_awake.f k1).bind fun t253 => (if t253 = true then (some false) else (some false)))))) else ((sallyportlaw01_awake.f k1).bind fun t254 => (if t254 = true then (some false) else (some false))))) else ((sallyportlaw01_awake.f k1).bind fun t255 => (if t255 = true then (some false) else (some false))))))) else ((sums_Add.f k1 65535 65535).bind fun t256 => (if t256 = 65535 then ((sums_Sub.f k1 5 5).bind fun t257 => (if t257 = 65535 then ((sums_Same.f 1 2).bind fun t258 => (if t258 = true then ((sallyportlaw01_awake.f k1).bind fun t259 => (if t259 = true then (some false) else (some false))) else ((sums_Update.f k1 0 0 0).bind fun t260 => ((sallyportlaw01_awake.f k1).bind fun t261 => (if t261 = true then (some false) else (some false)))))) else ((sallyportlaw01_awake.f k1).bind fun t262 => (if t262 = true then (some false) else (some false))))) else ((sallyportlaw01_awake.f k1).bind fun t263 => (if t263 = true then (some false) else (some false))))))) else ((sums_Add.f k1 65535 65535).bind fun t264 => (if t264 = 65535 then ((sums_Sub.f k1 5 5).bind fun t265 => (if t265 = 65535 then ((sums_Same.f 1 2).bind fun t266 => (if t266 = true then ((sallyportlaw01_awake.f k1).bind fun t267 => (if t267 = true then (some false) else (some false))) else ((sums_Update.f k1 0 0 0).bind fun t268 => ((sallyportlaw01_awake.f k1).bind fun t269 => (if t269 = true then (some false) else (some false)))))) else ((sallyportlaw01_awake.f k1).bind fun t270 => (if t270 = true then (some false) else (some false))))) else ((sallyportlaw01_awake.f k1).bind fun t271 => (if t271 = true then (some false) else (some false))))))) else ((sums_Add.f k1 65535 65535).bind fun t272 => (if t272 = 65535 then ((sums_Sub.f k1 5 5).bind fun t273 => (if t273 = 65535 then ((sums_Same.f 1 2).bind fun t274 => (if t274 = true then ((sallyportlaw01_awake.f k1).bind fun t275 => (if t275 = true then (some false) else (some false))) else ((sums_Update.f k1 0 0 0).bind fun t276 => ((sallyportlaw01_awake.f k1).bind fun t277 => (if t277 = true then (some false) else (some false)))))) else ((sallyportlaw01_awake.f k1).bind fun t278 => (if t278 = true then (some false) else (some false))))) else ((sallyportlaw01_awake.f k1).bind fun t279 => (if t279 = true then (some false) else (some false))))))) = some r := by first | (rw [hy217]; with_reducible exact H) | (have H2_ := (Option.bind_some _ _).symm.trans H; rw [hy217]; with_reducible exact H2_) | (have H2_ := (Option.bind_some _ _).symm.trans H; with_reducible exact H2_) | with_reducible exact H | (rw [hy217]; exact H) | exact H
              have Ny217 := Aside0.mk hy217
              clear hy217
              replace H := Option.bind_eq_some_iff.mp H
              obtain ⟨t220, A170, H⟩ := H
              replace H : (if t220 = 65535 then ((sums_Sum.f k1 (([255, 255, 0, 1] : List Int))).bind fun t224 => (if t224 = 1 then ((sums_Sum.f k1 (([255, 255, 255, 255, 0, 1] : List Int))).bind fun t228 => (if t228 = 1 then ((sums_Field.f k1 ([] : List Int)).bind fun t229 => (if t229 = 65535 then ((sums_Field.f k1 (([255, 255] : List Int))).bind fun t233 => ((sums_Add.f k1 65535 65535).bind fun t234 => (if t234 = 65535 then ((sums_Sub.f k1 5 5).bind fun t235 => (if t235 = 65535 then ((sums_Same.f 1 2).bind fun t236 => (if t236 = true then ((sallyportlaw01_awake.f k1).bind fun t237 => (if t237 = true then (if t233 = 0 then (some false) else (some false)) else (some false))) else ((sums_Update.f k1 0 0 0).bind fun t238 => ((sallyportlaw01_awake.f k1).bind fun t239 => (if t239 = true then (if t233 = 0 then (if t238 = 0 then (if t198 = 2 then (if t206 = 2 then (if t211 = 0 then (if t210 = 65535 then (if 5000 ≤ (x1_1.length : Int) then ((sums_Sum.f k1 (x1_1.take 5000)).bind fun t244 => (if t244 = 65535 then ((sums_Sum.f k1 x1_1).bind fun t245 => (some (t245 == 65280))) else (some false))) else (none)) else (some false)) else (some false)) else (some false)) else (some false)) else (some false)) else (some false)) else (some false)))))) else ((sallyportlaw01_awake.f k1).bind fun t246 => (if t246 = true then (if t233 = 0 then (some false) else (some false)) else (some false))))) else ((sallyportlaw01_awake.f k1).bind fun t247 => (if t247 = true then (if t233 = 0 then (some false) else (some false)) else (some false)))))) else ((sums_Add.f k1 65535 65535).bind fun t248 => (if t248 = 65535 then ((sums_Sub.f k1 5 5).bind fun t249 => (if t249 = 65535 then ((sums_Same.f 1 2).bind fun t250 => (if t250 = true then ((sallyportlaw01_awake.f k1).bind fun t251 => (if t251 = true then (some false) else (some false))) else ((sums_Update.f k1 0 0 0).bind fun t252 => ((sallyportlaw01_awake.f k1).bind fun t253 => (if t253 = true then (some false) else (some false)))))) else ((sallyportlaw01_awake.f k1).bind fun t254 => (if t254 = true then (some false) else (some false))))) else ((sallyportlaw01_awake.f k1).bind fun t255 => (if t255 = true then (some false) else (some false))))))) else ((sums_Add.f k1 65535 65535).bind fun t256 => (if t256 = 65535 then ((sums_Sub.f k1 5 5).bind fun t257 => (if t257 = 65535 then ((sums_Same.f 1 2).bind fun t258 => (if t258 = true then ((sallyportlaw01_awake.f k1).bind fun t259 => (if t259 = true then (some false) else (some false))) else ((sums_Update.f k1 0 0 0).bind fun t260 => ((sallyportlaw01_awake.f k1).bind fun t261 => (if t261 = true then (some false) else (some false)))))) else ((sallyportlaw01_awake.f k1).bind fun t262 => (if t262 = true then (some false) else (some false))))) else ((sallyportlaw01_awake.f k1).bind fun t263 => (if t263 = true then (some false) else (some false))))))) else ((sums_Add.f k1 65535 65535).bind fun t264 => (if t264 = 65535 then ((sums_Sub.f k1 5 5).bind fun t265 => (if t265 = 65535 then ((sums_Same.f 1 2).bind fun t266 => (if t266 = true then ((sallyportlaw01_awake.f k1).bind fun t267 => (if t267 = true then (some false) else (some false))) else ((sums_Update.f k1 0 0 0).bind fun t268 => ((sallyportlaw01_awake.f k1).bind fun t269 => (if t269 = true then (some false) else (some false)))))) else ((sallyportlaw01_awake.f k1).bind fun t270 => (if t270 = true then (some false) else (some false))))) else ((sallyportlaw01_awake.f k1).bind fun t271 => (if t271 = true then (some false) else (some false))))))) else ((sums_Add.f k1 65535 65535).bind fun t272 => (if t272 = 65535 then ((sums_Sub.f k1 5 5).bind fun t273 => (if t273 = 65535 then ((sums_Same.f 1 2).bind fun t274 => (if t274 = true then ((sallyportlaw01_awake.f k1).bind fun t275 => (if t275 = true then (some false) else (some false))) else ((sums_Update.f k1 0 0 0).bind fun t276 => ((sallyportlaw01_awake.f k1).bind fun t277 => (if t277 = true then (some false) else (some false)))))) else ((sallyportlaw01_awake.f k1).bind fun t278 => (if t278 = true then (some false) else (some false))))) else ((sallyportlaw01_awake.f k1).bind fun t279 => (if t279 = true then (some false) else (some false)))))) = some r := H
              have A17 := Aside0.mk A170
              clear A170
              by_cases c18 : t220 = 65535
              · rw [if_pos c18] at H
                have c18b0 : (t220 == 65535) = true := beq_iff_eq.mpr c18
                have c18b1 : (t220 != 65535) = false := bne_eq_false_iff_eq.mpr c18
                clear c18
                obtain ⟨y221, hy221⟩ : ∃ y_ : List Int, y_ = (([255, 255, 0, 1] : List Int)) := ⟨_, rfl⟩
                replace H : ((sums_Sum.f k1 y221).bind fun t224 => (if t224 = 1 then ((sums_Sum.f k1 (([255, 255, 255, 255, 0, 1] : List Int))).bind fun t228 => (if t228 = 1 then ((sums_Field.f k1 ([] : List Int)).bind fun t229 => (if t229 = 65535 then ((sums_Field.f k1 (([255, 255] : List Int))).bind fun t233 => ((sums_Add.f k1 65535 65535).bind fun t234 => (if t234 = 65535 then ((sums_Sub.f k1 5 5).bind fun t235 => (if t235 = 65535 then ((sums_Same.f 1 2).bind fun t236 => (if t236 = true then ((sallyportlaw01_awake.f k1).bind fun t237 => (if t237 = true then (if t233 = 0 then (some false) else (some false)) else (some false))) else ((sums_Update.f k1 0 0 0).bind fun t238 => ((sallyportlaw01_awake.f k1).bind fun t239 => (if t239 = true then (if t233 = 0 then (if t238 = 0 then (if t198 = 2 then (if t206 = 2 then (if t211 = 0 then (if t210 = 65535 then (if 5000 ≤ (x1_1.length : Int) then ((sums_Sum.f k1 (x1_1.take 5000)).bind fun t244 => (if t244 = 65535 then ((sums_Sum.f k1 x1_1).bind fun t245 => (some (t245 == 65280))) else (some false))) else (none)) else (some false)) else (some false)) else (some false)) else (some false)) else (some false)) else (some false)) else (some false)))))) else ((sallyportlaw01_awake.f k1).bind fun t246 => (if t246 = true then (if t233 = 0 then (some false) else (some false)) else (some false))))) else ((sallyportlaw01_awake.f k1).bind fun t247 => (if t247 = true then (if t233 = 0 then (some false) else (some false)) else (some false)))))) else ((sums_Add.f k1 65535 65535).bind fun t248 => (if t248 = 65535 then ((sums_Sub.f k1 5 5).bind fun t249 => (if t249 = 65535 then ((sums_Same.f 1 2).bind fun t250 => (if t250 = true then ((sallyportlaw01_awake.f k1).bind fun t251 => (if t251 = true then (some false) else (some false))) else ((sums_Update.f k1 0 0 0).bind fun t252 => ((sallyportlaw01_awake.f k1).bind fun t253 => (if t253 = true then (some false) else (some false)))))) else ((sallyportlaw01_awake.f k1).bind fun t254 => (if t254 = true then (some false) else (some false))))) else ((sallyportlaw01_awake.f k1).bind fun t255 => (if t255 = true then (some false) else (some false))))))) else ((sums_Add.f k1 65535 65535).bind fun t256 => (if t256 = 65535 then ((sums_Sub.f k1 5 5).bind fun t257 => (if t257 = 65535 then ((sums_Same.f 1 2).bind fun t258 => (if t258 = true then ((sallyportlaw01_awake.f k1).bind fun t259 => (if t259 = true then (some false) else (some false))) else ((sums_Update.f k1 0 0 0).bind fun t260 => ((sallyportlaw01_awake.f k1).bind fun t261 => (if t261 = true then (some false) else (some false)))))) else ((sallyportlaw01_awake.f k1).bind fun t262 => (if t262 = true then (some false) else (some false))))) else ((sallyportlaw01_awake.f k1).bind fun t263 => (if t263 = true then (some false) else (some false))))))) else ((sums_Add.f k1 65535 65535).bind fun t264 => (if t264 = 65535 then ((sums_Sub.f k1 5 5).bind fun t265 => (if t265 = 65535 then ((sums_Same.f 1 2).bind fun t266 => (if t266 = true then ((sallyportlaw01_awake.f k1).bind fun t267 => (if t267 = true then (some false) else (some false))) else ((sums_Update.f k1 0 0 0).bind fun t268 => ((sallyportlaw01_awake.f k1).bind fun t269 => (if t269 = true then (some false) else (some false)))))) else ((sallyportlaw01_awake.f k1).bind fun t270 => (if t270 = true then (some false) else (some false))))) else ((sallyportlaw01_awake.f k1).bind fun t271 => (if t271 = true then (some false) else (some false))))))) = some r := by first | (rw [hy221]; with_reducible exact H) | (have H2_ := (Option.bind_some _ _).symm.trans H; rw [hy221]; with_reducible exact H2_) | (have H2_ := (Option.bind_some _ _).symm.trans H; with_reducible exact H2_) | with_reducible exact H | (rw [hy221]; exact H) | exact H
                have Ny221 := Aside0.mk hy221
                clear hy221
                replace H := Option.bind_eq_some_iff.mp H
                obtain ⟨t224, A190, H⟩ := H
                replace H : (if t224 = 1 then ((sums_Sum.f k1 (([255, 255, 255, 255, 0, 1] : List Int))).bind fun t228 => (if t228 = 1 then ((sums_Field.f k1 ([] : List Int)).bind fun t229 => (if t229 = 65535 then ((sums_Field.f k1 (([255, 255] : List Int))).bind fun t233 => ((sums_Add.f k1 65535 65535).bind fun t234 => (if t234 = 65535 then ((sums_Sub.f k1 5 5).bind fun t235 => (if t235 = 65535 then ((sums_Same.f 1 2).bind fun t236 => (if t236 = true then ((sallyportlaw01_awake.f k1).bind fun t237 => (if t237 = true then (if t233 = 0 then (some false) else (some false)) else (some false))) else ((sums_Update.f k1 0 0 0).bind fun t238 => ((sallyportlaw01_awake.f k1).bind fun t239 => (if t239 = true then (if t233 = 0 then (if t238 = 0 then (if t198 = 2 then (if t206 = 2 then (if t211 = 0 then (if t210 = 65535 then (if 5000 ≤ (x1_1.length : Int) then ((sums_Sum.f k1 (x1_1.take 5000)).bind fun t244 => (if t244 = 65535 then ((sums_Sum.f k1 x1_1).bind fun t245 => (some (t245 == 65280))) else (some false))) else (none)) else (some false)) else (some false)) else (some false)) else (some false)) else (some false)) else (some false)) else (some false)))))) else ((sallyportlaw01_awake.f k1).bind fun t246 => (if t246 = true then (if t233 = 0 then (some false) else (some false)) else (some false))))) else ((sallyportlaw01_awake.f k1).bind fun t247 => (if t247 = true then (if t233 = 0 then (some false) else (some false)) else (some false)))))) else ((sums_Add.f k1 65535 65535).bind fun t248 => (if t248 = 65535 then ((sums_Sub.f k1 5 5).bind fun t249 => (if t249 = 65535 then ((sums_Same.f 1 2).bind fun t250 => (if t250 = true then ((sallyportlaw01_awake.f k1).bind fun t251 => (if t251 = true then (some false) else (some false))) else ((sums_Update.f k1 0 0 0).bind fun t252 => ((sallyportlaw01_awake.f k1).bind fun t253 => (if t253 = true then (some false) else (some false)))))) else ((sallyportlaw01_awake.f k1).bind fun t254 => (if t254 = true then (some false) else (some false))))) else ((sallyportlaw01_awake.f k1).bind fun t255 => (if t255 = true then (some false) else (some false))))))) else ((sums_Add.f k1 65535 65535).bind fun t256 => (if t256 = 65535 then ((sums_Sub.f k1 5 5).bind fun t257 => (if t257 = 65535 then ((sums_Same.f 1 2).bind fun t258 => (if t258 = true then ((sallyportlaw01_awake.f k1).bind fun t259 => (if t259 = true then (some false) else (some false))) else ((sums_Update.f k1 0 0 0).bind fun t260 => ((sallyportlaw01_awake.f k1).bind fun t261 => (if t261 = true then (some false) else (some false)))))) else ((sallyportlaw01_awake.f k1).bind fun t262 => (if t262 = true then (some false) else (some false))))) else ((sallyportlaw01_awake.f k1).bind fun t263 => (if t263 = true then (some false) else (some false))))))) else ((sums_Add.f k1 65535 65535).bind fun t264 => (if t264 = 65535 then ((sums_Sub.f k1 5 5).bind fun t265 => (if t265 = 65535 then ((sums_Same.f 1 2).bind fun t266 => (if t266 = true then ((sallyportlaw01_awake.f k1).bind fun t267 => (if t267 = true then (some false) else (some false))) else ((sums_Update.f k1 0 0 0).bind fun t268 => ((sallyportlaw01_awake.f k1).bind fun t269 => (if t269 = true then (some false) else (some false)))))) else ((sallyportlaw01_awake.f k1).bind fun t270 => (if t270 = true then (some false) else (some false))))) else ((sallyportlaw01_awake.f k1).bind fun t271 => (if t271 = true then (some false) else (some false)))))) = some r := H
                have A19 := Aside0.mk A190
                clear A190
                by_cases c20 : t224 = 1
                · rw [if_pos c20] at H
                  have c20b0 : (t224 == 1) = true := beq_iff_eq.mpr c20
                  have c20b1 : (t224 != 1) = false := bne_eq_false_iff_eq.mpr c20
                  clear c20
                  obtain ⟨y225, hy225⟩ : ∃ y_ : List Int, y_ = (([255, 255, 255, 255, 0, 1] : List Int)) := ⟨_, rfl⟩
                  replace H : ((sums_Sum.f k1 y225).bind fun t228 => (if t228 = 1 then ((sums_Field.f k1 ([] : List Int)).bind fun t229 => (if t229 = 65535 then ((sums_Field.f k1 (([255, 255] : List Int))).bind fun t233 => ((sums_Add.f k1 65535 65535).bind fun t234 => (if t234 = 65535 then ((sums_Sub.f k1 5 5).bind fun t235 => (if t235 = 65535 then ((sums_Same.f 1 2).bind fun t236 => (if t236 = true then ((sallyportlaw01_awake.f k1).bind fun t237 => (if t237 = true then (if t233 = 0 then (some false) else (some false)) else (some false))) else ((sums_Update.f k1 0 0 0).bind fun t238 => ((sallyportlaw01_awake.f k1).bind fun t239 => (if t239 = true then (if t233 = 0 then (if t238 = 0 then (if t198 = 2 then (if t206 = 2 then (if t211 = 0 then (if t210 = 65535 then (if 5000 ≤ (x1_1.length : Int) then ((sums_Sum.f k1 (x1_1.take 5000)).bind fun t244 => (if t244 = 65535 then ((sums_Sum.f k1 x1_1).bind fun t245 => (some (t245 == 65280))) else (some false))) else (none)) else (some false)) else (some false)) else (some false)) else (some false)) else (some false)) else (some false)) else (some false)))))) else ((sallyportlaw01_awake.f k1).bind fun t246 => (if t246 = true then (if t233 = 0 then (some false) else (some false)) else (some false))))) else ((sallyportlaw01_awake.f k1).bind fun t247 => (if t247 = true then (if t233 = 0 then (some false) else (some false)) else (some false)))))) else ((sums_Add.f k1 65535 65535).bind fun t248 => (if t248 = 65535 then ((sums_Sub.f k1 5 5).bind fun t249 => (if t249 = 65535 then ((sums_Same.f 1 2).bind fun t250 => (if t250 = true then ((sallyportlaw01_awake.f k1).bind fun t251 => (if t251 = true then (some false) else (some false))) else ((sums_Update.f k1 0 0 0).bind fun t252 => ((sallyportlaw01_awake.f k1).bind fun t253 => (if t253 = true then (some false) else (some false)))))) else ((sallyportlaw01_awake.f k1).bind fun t254 => (if t254 = true then (some false) else (some false))))) else ((sallyportlaw01_awake.f k1).bind fun t255 => (if t255 = true then (some false) else (some false))))))) else ((sums_Add.f k1 65535 65535).bind fun t256 => (if t256 = 65535 then ((sums_Sub.f k1 5 5).bind fun t257 => (if t257 = 65535 then ((sums_Same.f 1 2).bind fun t258 => (if t258 = true then ((sallyportlaw01_awake.f k1).bind fun t259 => (if t259 = true then (some false) else (some false))) else ((sums_Update.f k1 0 0 0).bind fun t260 => ((sallyportlaw01_awake.f k1).bind fun t261 => (if t261 = true then (some false) else (some false)))))) else ((sallyportlaw01_awake.f k1).bind fun t262 => (if t262 = true then (some false) else (some false))))) else ((sallyportlaw01_awake.f k1).bind fun t263 => (if t263 = true then (some false) else (some false))))))) = some r := by first | (rw [hy225]; with_reducible exact H) | (have H2_ := (Option.bind_some _ _).symm.trans H; rw [hy225]; with_reducible exact H2_) | (have H2_ := (Option.bind_some _ _).symm.trans H; with_reducible exact H2_) | with_reducible exact H | (rw [hy225]; exact H) | exact H
                  have Ny225 := Aside0.mk hy225
                  clear hy225
                  replace H := Option.bind_eq_some_iff.mp H
                  obtain ⟨t228, A210, H⟩ := H
                  replace H : (if t228 = 1 then ((sums_Field.f k1 ([] : List Int)).bind fun t229 => (if t229 = 65535 then ((sums_Field.f k1 (([255, 255] : List Int))).bind fun t233 => ((sums_Add.f k1 65535 65535).bind fun t234 => (if t234 = 65535 then ((sums_Sub.f k1 5 5).bind fun t235 => (if t235 = 65535 then ((sums_Same.f 1 2).bind fun t236 => (if t236 = true then ((sallyportlaw01_awake.f k1).bind fun t237 => (if t237 = true then (if t233 = 0 then (some false) else (some false)) else (some false))) else ((sums_Update.f k1 0 0 0).bind fun t238 => ((sallyportlaw01_awake.f k1).bind fun t239 => (if t239 = true then (if t233 = 0 then (if t238 = 0 then (if t198 = 2 then (if t206 = 2 then (if t211 = 0 then (if t210 = 65535 then (if 5000 ≤ (x1_1.length : Int) then ((sums_Sum.f k1 (x1_1.take 5000)).bind fun t244 => (if t244 = 65535 then ((sums_Sum.f k1 x1_1).bind fun t245 => (some (t245 == 65280))) else (some false))) else (none)) else (some false)) else (some false)) else (some false)) else (some false)) else (some false)) else (some false)) else (some false)))))) else ((sallyportlaw01_awake.f k1).bind fun t246 => (if t246 = true then (if t233 = 0 then (some false) else (some false)) else (some false))))) else ((sallyportlaw01_awake.f k1).bind fun t247 => (if t247 = true then (if t233 = 0 then (some false) else (some false)) else (some false)))))) else ((sums_Add.f k1 65535 65535).bind fun t248 => (if t248 = 65535 then ((sums_Sub.f k1 5 5).bind fun t249 => (if t249 = 65535 then ((sums_Same.f 1 2).bind fun t250 => (if t250 = true then ((sallyportlaw01_awake.f k1).bind fun t251 => (if t251 = true then (some false) else (some false))) else ((sums_Update.f k1 0 0 0).bind fun t252 => ((sallyportlaw01_awake.f k1).bind fun t253 => (if t253 = true then (some false) else (some false)))))) else ((sallyportlaw01_awake.f k1).bind fun t254 => (if t254 = true then (some false) else (some false))))) else ((sallyportlaw01_awake.f k1).bind fun t255 => (if t255 = true then (some false) else (some false))))))) else ((sums_Add.f k1 65535 65535).bind fun t256 => (if t256 = 65535 then ((sums_Sub.f k1 5 5).bind fun t257 => (if t257 = 65535 then ((sums_Same.f 1 2).bind fun t258 => (if t258 = true then ((sallyportlaw01_awake.f k1).bind fun t259 => (if t259 = true then (some false) else (some false))) else ((sums_Update.f k1 0 0 0).bind fun t260 => ((sallyportlaw01_awake.f k1).bind fun t261 => (if t261 = true then (some false) else (some false)))))) else ((sallyportlaw01_awake.f k1).bind fun t262 => (if t262 = true then (some false) else (some false))))) else ((sallyportlaw01_awake.f k1).bind fun t263 => (if t263 = true then (some false) else (some false)))))) = some r := H
                  have A21 := Aside0.mk A210
                  clear A210
                  by_cases c22 : t228 = 1
                  · rw [if_pos c22] at H
                    have c22b0 : (t228 == 1) = true := beq_iff_eq.mpr c22
                    have c22b1 : (t228 != 1) = false := bne_eq_false_iff_eq.mpr c22
                    clear c22
                    replace H := Option.bind_eq_some_iff.mp H
                    obtain ⟨t229, A230, H⟩ := H
                    replace H : (if t229 = 65535 then ((sums_Field.f k1 (([255, 255] : List Int))).bind fun t233 => ((sums_Add.f k1 65535 65535).bind fun t234 => (if t234 = 65535 then ((sums_Sub.f k1 5 5).bind fun t235 => (if t235 = 65535 then ((sums_Same.f 1 2).bind fun t236 => (if t236 = true then ((sallyportlaw01_awake.f k1).bind fun t237 => (if t237 = true then (if t233 = 0 then (some false) else (some false)) else (some false))) else ((sums_Update.f k1 0 0 0).bind fun t238 => ((sallyportlaw01_awake.f k1).bind fun t239 => (if t239 = true then (if t233 = 0 then (if t238 = 0 then (if t198 = 2 then (if t206 = 2 then (if t211 = 0 then (if t210 = 65535 then (if 5000 ≤ (x1_1.length : Int) then ((sums_Sum.f k1 (x1_1.take 5000)).bind fun t244 => (if t244 = 65535 then ((sums_Sum.f k1 x1_1).bind fun t245 => (some (t245 == 65280))) else (some false))) else (none)) else (some false)) else (some false)) else (some false)) else (some false)) else (some false)) else (some false)) else (some false)))))) else ((sallyportlaw01_awake.f k1).bind fun t246 => (if t246 = true then (if t233 = 0 then (some false) else (some false)) else (some false))))) else ((sallyportlaw01_awake.f k1).bind fun t247 => (if t247 = true then (if t233 = 0 then (some false) else (some false)) else (some false)))))) else ((sums_Add.f k1 65535 65535).bind fun t248 => (if t248 = 65535 then ((sums_Sub.f k1 5 5).bind fun t249 => (if t249 = 65535 then ((sums_Same.f 1 2).bind fun t250 => (if t250 = true then ((sallyportlaw01_awake.f k1).bind fun t251 => (if t251 = true then (some false) else (some false))) else ((sums_Update.f k1 0 0 0).bind fun t252 => ((sallyportlaw01_awake.f k1).bind fun t253 => (if t253 = true then (some false) else (some false)))))) else ((sallyportlaw01_awake.f k1).bind fun t254 => (if t254 = true then (some false) else (some false))))) else ((sallyportlaw01_awake.f k1).bind fun t255 => (if t255 = true then (some false) else (some false)))))) = some r := H
                    have A23 := Aside0.mk A230
                    clear A230
                    by_cases c24 : t229 = 65535
                    · rw [if_pos c24] at H
                      have c24b0 : (t229 == 65535) = true := beq_iff_eq.mpr c24
                      have c24b1 : (t229 != 65535) = false := bne_eq_false_iff_eq.mpr c24
                      clear c24
                      obtain ⟨y230, hy230⟩ : ∃ y_ : List Int, y_ = (([255, 255] : List Int)) := ⟨_, rfl⟩
                      replace H : ((sums_Field.f k1 y230).bind fun t233 => ((sums_Add.f k1 65535 65535).bind fun t234 => (if t234 = 65535 then ((sums_Sub.f k1 5 5).bind fun t235 => (if t235 = 65535 then ((sums_Same.f 1 2).bind fun t236 => (if t236 = true then ((sallyportlaw01_awake.f k1).bind fun t237 => (if t237 = true then (if t233 = 0 then (some false) else (some false)) else (some false))) else ((sums_Update.f k1 0 0 0).bind fun t238 => ((sallyportlaw01_awake.f k1).bind fun t239 => (if t239 = true then (if t233 = 0 then (if t238 = 0 then (if t198 = 2 then (if t206 = 2 then (if t211 = 0 then (if t210 = 65535 then (if 5000 ≤ (x1_1.length : Int) then ((sums_Sum.f k1 (x1_1.take 5000)).bind fun t244 => (if t244 = 65535 then ((sums_Sum.f k1 x1_1).bind fun t245 => (some (t245 == 65280))) else (some false))) else (none)) else (some false)) else (some false)) else (some false)) else (some false)) else (some false)) else (some false)) else (some false)))))) else ((sallyportlaw01_awake.f k1).bind fun t246 => (if t246 = true then (if t233 = 0 then (some false) else (some false)) else (some false))))) else ((sallyportlaw01_awake.f k1).bind fun t247 => (if t247 = true then (if t233 = 0 then (some false) else (some false)) else (some false)))))) = some r := by first | (rw [hy230]; with_reducible exact H) | (have H2_ := (Option.bind_some _ _).symm.trans H; rw [hy230]; with_reducible exact H2_) | (have H2_ := (Option.bind_some _ _).symm.trans H; with_reducible exact H2_) | with_reducible exact H | (rw [hy230]; exact H) | exact H
                      have Ny230 := Aside0.mk hy230
                      clear hy230
                      replace H := Option.bind_eq_some_iff.mp H
                      obtain ⟨t233, A250, H⟩ := H
                      replace H : ((sums_Add.f k1 65535 65535).bind fun t234 => (if t234 = 65535 then ((sums_Sub.f k1 5 5).bind fun t235 => (if t235 = 65535 then ((sums_Same.f 1 2).bind fun t236 => (if t236 = true then ((sallyportlaw01_awake.f k1).bind fun t237 => (if t237 = true then (if t233 = 0 then (some false) else (some false)) else (some false))) else ((sums_Update.f k1 0 0 0).bind fun t238 => ((sallyportlaw01_awake.f k1).bind fun t239 => (if t239 = true then (if t233 = 0 then (if t238 = 0 then (if t198 = 2 then (if t206 = 2 then (if t211 = 0 then (if t210 = 65535 then (if 5000 ≤ (x1_1.length : Int) then ((sums_Sum.f k1 (x1_1.take 5000)).bind fun t244 => (if t244 = 65535 then ((sums_Sum.f k1 x1_1).bind fun t245 => (some (t245 == 65280))) else (some false))) else (none)) else (some false)) else (some false)) else (some false)) else (some false)) else (some false)) else (some false)) else (some false)))))) else ((sallyportlaw01_awake.f k1).bind fun t246 => (if t246 = true then (if t233 = 0 then (some false) else (some false)) else (some false))))) else ((sallyportlaw01_awake.f k1).bind fun t247 => (if t247 = true then (if t233 = 0 then (some false) else (some false)) else (some false))))) = some r := H
                      have A25 := Aside0.mk A250
                      clear A250
                      replace H := Option.bind_eq_some_iff.mp H
                      obtain ⟨t234, A260, H⟩ := H
                      replace H : (if t234 = 65535 then ((sums_Sub.f k1 5 5).bind fun t235 => (if t235 = 65535 then ((sums_Same.f 1 2).bind fun t236 => (if t236 = true then ((sallyportlaw01_awake.f k1).bind fun t237 => (if t237 = true then (if t233 = 0 then (some false) else (some false)) else (some false))) else ((sums_Update.f k1 0 0 0).bind fun t238 => ((sallyportlaw01_awake.f k1).bind fun t239 => (if t239 = true then (if t233 = 0 then (if t238 = 0 then (if t198 = 2 then (if t206 = 2 then (if t211 = 0 then (if t210 = 65535 then (if 5000 ≤ (x1_1.length : Int) then ((sums_Sum.f k1 (x1_1.take 5000)).bind fun t244 => (if t244 = 65535 then ((sums_Sum.f k1 x1_1).bind fun t245 => (some (t245 == 65280))) else (some false))) else (none)) else (some false)) else (some false)) else (some false)) else (some false)) else (some false)) else (some false)) else (some false)))))) else ((sallyportlaw01_awake.f k1).bind fun t246 => (if t246 = true then (if t233 = 0 then (some false) else (some false)) else (some false))))) else ((sallyportlaw01_awake.f k1).bind fun t247 => (if t247 = true then (if t233 = 0 then (some false) else (some false)) else (some false)))) = some r := H
                      have A26 := Aside0.mk A260
                      clear A260
                      by_cases c27 : t234 = 65535
                      · rw [if_pos c27] at H
                        have c27b0 : (t234 == 65535) = true := beq_iff_eq.mpr c27
                        have c27b1 : (t234 != 65535) = false := bne_eq_false_iff_eq.mpr c27
                        clear c27
                        replace H := Option.bind_eq_some_iff.mp H
                        obtain ⟨t235, A280, H⟩ := H
                        replace H : (if t235 = 65535 then ((sums_Same.f 1 2).bind fun t236 => (if t236 = true then ((sallyportlaw01_awake.f k1).bind fun t237 => (if t237 = true then (if t233 = 0 then (some false) else (some false)) else (some false))) else ((sums_Update.f k1 0 0 0).bind fun t238 => ((sallyportlaw01_awake.f k1).bind fun t239 => (if t239 = true then (if t233 = 0 then (if t238 = 0 then (if t198 = 2 then (if t206 = 2 then (if t211 = 0 then (if t210 = 65535 then (if 5000 ≤ (x1_1.length : Int) then ((sums_Sum.f k1 (x1_1.take 5000)).bind fun t244 => (if t244 = 65535 then ((sums_Sum.f k1 x1_1).bind fun t245 => (some (t245 == 65280))) else (some false))) else (none)) else (some false)) else (some false)) else (some false)) else (some false)) else (some false)) else (some false)) else (some false)))))) else ((sallyportlaw01_awake.f k1).bind fun t246 => (if t246 = true then (if t233 = 0 then (some false) else (some false)) else (some false)))) = some r := H
                        have A28 := Aside0.mk A280
                        clear A280
                        by_cases c29 : t235 = 65535
                        · rw [if_pos c29] at H
                          have c29b0 : (t235 == 65535) = true := beq_iff_eq.mpr c29
                          have c29b1 : (t235 != 65535) = false := bne_eq_false_iff_eq.mpr c29
                          clear c29
                          replace H := Option.bind_eq_some_iff.mp H
                          obtain ⟨t236, A300, H⟩ := H
                          replace H : (if t236 = true then ((sallyportlaw01_awake.f k1).bind fun t237 => (if t237 = true then (if t233 = 0 then (some false) else (some false)) else (some false))) else ((sums_Update.f k1 0 0 0).bind fun t238 => ((sallyportlaw01_awake.f k1).bind fun t239 => (if t239 = true then (if t233 = 0 then (if t238 = 0 then (if t198 = 2 then (if t206 = 2 then (if t211 = 0 then (if t210 = 65535 then (if 5000 ≤ (x1_1.length : Int) then ((sums_Sum.f k1 (x1_1.take 5000)).bind fun t244 => (if t244 = 65535 then ((sums_Sum.f k1 x1_1).bind fun t245 => (some (t245 == 65280))) else (some false))) else (none)) else (some false)) else (some false)) else (some false)) else (some false)) else (some false)) else (some false)) else (some false))))) = some r := H
                          have A30 := Aside0.mk A300
                          clear A300
                          by_cases c31 : t236 = true
                          · subst c31
                            have H1 : ((sallyportlaw01_awake.f k1).bind fun t237 => (if t237 = true then (if t233 = 0 then (some false) else (some false)) else (some false))) = some r := by rw [if_pos rfl] at H; exact H
                            clear H
                            have H := H1
                            clear H1
                            replace H := Option.bind_eq_some_iff.mp H
                            obtain ⟨t237, A320, H⟩ := H
                            replace H : (if t237 = true then (if t233 = 0 then (some false) else (some false)) else (some false)) = some r := H
                            have A32 := Aside0.mk A320
                            clear A320
                            by_cases c33 : t237 = true
                            · subst c33
                              have H1 : (if t233 = 0 then (some false) else (some false)) = some r := by rw [if_pos rfl] at H; exact H
                              clear H
                              have H := H1
                              clear H1
                              by_cases c34 : t233 = 0
                              · rw [if_pos c34] at H
                                have c34b0 : (t233 == 0) = true := beq_iff_eq.mpr c34
                                have c34b1 : (t233 != 0) = false := bne_eq_false_iff_eq.mpr c34
                                clear c34
                                obtain rfl := Option.some.inj H
                                exact absurd hr_.out (by decide)
                              · rw [if_neg c34] at H
                                have c34b0 : (t233 == 0) = false := beq_eq_false_iff_ne.mpr c34
                                have c34b1 : (t233 != 0) = true := bne_iff_ne.mpr c34
                                obtain rfl := Option.some.inj H
                                exact absurd hr_.out (by decide)
                            · replace c33 := Bool.eq_false_iff.mpr c33
                              subst c33
                              have H1 : (some false) = some r := by rw [if_neg (show ¬ (false = true) by decide)] at H; exact H
                              clear H
                              have H := H1
                              clear H1
                              obtain rfl := Option.some.inj H
                              exact absurd hr_.out (by decide)
                          · replace c31 := Bool.eq_false_iff.mpr c31
                            subst c31
                            have H1 : ((sums_Update.f k1 0 0 0).bind fun t238 => ((sallyportlaw01_awake.f k1).bind fun t239 => (if t239 = true then (if t233 = 0 then (if t238 = 0 then (if t198 = 2 then (if t206 = 2 then (if t211 = 0 then (if t210 = 65535 then (if 5000 ≤ (x1_1.length : Int) then ((sums_Sum.f k1 (x1_1.take 5000)).bind fun t244 => (if t244 = 65535 then ((sums_Sum.f k1 x1_1).bind fun t245 => (some (t245 == 65280))) else (some false))) else (none)) else (some false)) else (some false)) else (some false)) else (some false)) else (some false)) else (some false)) else (some false)))) = some r := by rw [if_neg (show ¬ (false = true) by decide)] at H; exact H
                            clear H
                            have H := H1
                            clear H1
                            replace H := Option.bind_eq_some_iff.mp H
                            obtain ⟨t238, A350, H⟩ := H
                            replace H : ((sallyportlaw01_awake.f k1).bind fun t239 => (if t239 = true then (if t233 = 0 then (if t238 = 0 then (if t198 = 2 then (if t206 = 2 then (if t211 = 0 then (if t210 = 65535 then (if 5000 ≤ (x1_1.length : Int) then ((sums_Sum.f k1 (x1_1.take 5000)).bind fun t244 => (if t244 = 65535 then ((sums_Sum.f k1 x1_1).bind fun t245 => (some (t245 == 65280))) else (some false))) else (none)) else (some false)) else (some false)) else (some false)) else (some false)) else (some false)) else (some false)) else (some false))) = some r := H
                            have A35 := Aside0.mk A350
                            clear A350
                            replace H := Option.bind_eq_some_iff.mp H
                            obtain ⟨t239, A360, H⟩ := H
                            replace H : (if t239 = true then (if t233 = 0 then (if t238 = 0 then (if t198 = 2 then (if t206 = 2 then (if t211 = 0 then (if t210 = 65535 then (if 5000 ≤ (x1_1.length : Int) then ((sums_Sum.f k1 (x1_1.take 5000)).bind fun t244 => (if t244 = 65535 then ((sums_Sum.f k1 x1_1).bind fun t245 => (some (t245 == 65280))) else (some false))) else (none)) else (some false)) else (some false)) else (some false)) else (some false)) else (some false)) else (some false)) else (some false)) = some r := H
                            have A36 := Aside0.mk A360
                            clear A360
                            by_cases c37 : t239 = true
                            · subst c37
                              have H1 : (if t233 = 0 then (if t238 = 0 then (if t198 = 2 then (if t206 = 2 then (if t211 = 0 then (if t210 = 65535 then (if 5000 ≤ (x1_1.length : Int) then ((sums_Sum.f k1 (x1_1.take 5000)).bind fun t244 => (if t244 = 65535 then ((sums_Sum.f k1 x1_1).bind fun t245 => (some (t245 == 65280))) else (some false))) else (none)) else (some false)) else (some false)) else (some false)) else (some false)) else (some false)) else (some false)) = some r := by rw [if_pos rfl] at H; exact H
                              clear H
                              have H := H1
                              clear H1
                              by_cases c38 : t233 = 0
                              · rw [if_pos c38] at H
                                have c38b0 : (t233 == 0) = true := beq_iff_eq.mpr c38
                                have c38b1 : (t233 != 0) = false := bne_eq_false_iff_eq.mpr c38
                                clear c38
                                by_cases c39 : t238 = 0
                                · rw [if_pos c39] at H
                                  have c39b0 : (t238 == 0) = true := beq_iff_eq.mpr c39
                                  have c39b1 : (t238 != 0) = false := bne_eq_false_iff_eq.mpr c39
                                  clear c39
                                  by_cases c40 : t198 = 2
                                  · rw [if_pos c40] at H
                                    have c40b0 : (t198 == 2) = true := beq_iff_eq.mpr c40
                                    have c40b1 : (t198 != 2) = false := bne_eq_false_iff_eq.mpr c40
                                    clear c40
                                    by_cases c41 : t206 = 2
                                    · rw [if_pos c41] at H
                                      have c41b0 : (t206 == 2) = true := beq_iff_eq.mpr c41
                                      have c41b1 : (t206 != 2) = false := bne_eq_false_iff_eq.mpr c41
                                      clear c41
                                      by_cases c42 : t211 = 0
                                      · rw [if_pos c42] at H
                                        have c42b0 : (t211 == 0) = true := beq_iff_eq.mpr c42
                                        have c42b1 : (t211 != 0) = false := bne_eq_false_iff_eq.mpr c42
                                        clear c42
                                        by_cases c43 : t210 = 65535
                                        · rw [if_pos c43] at H
                                          have c43b0 : (t210 == 65535) = true := beq_iff_eq.mpr c43
                                          have c43b1 : (t210 != 65535) = false := bne_eq_false_iff_eq.mpr c43
                                          clear c43
                                          by_cases c44 : 5000 ≤ (x1_1.length : Int)
                                          · rw [if_pos c44] at H
                                            have c44b0 := eq_true c44
                                            have c44b1 : decide (5000 ≤ (x1_1.length : Int)) = true := decide_eq_true c44
                                            clear c44
                                            obtain ⟨y240, hy240⟩ : ∃ y_ : List Int, y_ = (x1_1.take 5000) := ⟨_, rfl⟩
                                            replace H : ((sums_Sum.f k1 y240).bind fun t244 => (if t244 = 65535 then ((sums_Sum.f k1 x1_1).bind fun t245 => (some (t245 == 65280))) else (some false))) = some r := by first | (rw [hy240]; with_reducible exact H) | (have H2_ := (Option.bind_some _ _).symm.trans H; rw [hy240]; with_reducible exact H2_) | (have H2_ := (Option.bind_some _ _).symm.trans H; with_reducible exact H2_) | with_reducible exact H | (rw [hy240]; exact H) | exact H
                                            have Ny240 := Aside0.mk hy240
                                            clear hy240
                                            replace H := Option.bind_eq_some_iff.mp H
                                            obtain ⟨t244, A450, H⟩ := H
                                            replace H : (if t244 = 65535 then ((sums_Sum.f k1 x1_1).bind fun t245 => (some (t245 == 65280))) else (some false)) = some r := H
                                            have A45 := Aside0.mk A450
                                            clear A450
                                            by_cases c46 : t244 = 65535
                                            · rw [if_pos c46] at H
                                              have c46b0 : (t244 == 65535) = true := beq_iff_eq.mpr c46
                                              have c46b1 : (t244 != 65535) = false := bne_eq_false_iff_eq.mpr c46
                                              clear c46
                                              replace H := Option.bind_eq_some_iff.mp H
                                              obtain ⟨t245, A470, H⟩ := H
                                              replace H : (some (t245 == 65280)) = some r := H
                                              have A47 := Aside0.mk A470
                                              clear A470
                                              obtain rfl := Option.some.inj H
                                              obtain ⟨Ao48, co48, eo48⟩ := Kd.R_slice HO_1.out
                                              subst eo48
                                              go_wp2_with (first | ((with_reducible refine gate_dst (N := 22) rfl ?_); (try (refine gate_guard (by rfl) ?_; dsimp only)); refine Kd.R_lit (Kd.int .u8) _ 5 ?hg (N := 22) ?hd (xs := ([10] : List Int)) (inner := [.int .u8 10]) (ok := fun _ => True) (okp := fun _ => True) ?hr ?hp (fun _ hk => hk) trivial (Below.refl _ _) (Nat.le_refl _) (by simp) ?_; (case hd => rfl); (case hg => rfl); (case hr => first | (go_simp; done) | (go_simp; rfl)); (case hp => exact (Reps.one (show Kd.M (Kd.int .u8) _ _ _ 10 [.int .u8 10] from rfl) (Reps.none _ _))); intro v192 w49 ho50 hb hg_ hnew_; clear hg_ hnew_; (first | rw [← Ny191.out] at ho50 | (simp only [Int.reduceToNat] at ho50; rw [← Ny191.out] at ho50)); have n0_ := Aside0.mk (Kd.R_elder' (by (with_reducible repeat (first | apply Kd.R_alloc | apply Kd.R_drewN | apply Kd.R_drew)); exact HO_1.out) (Kd.R_base ho50) hb); have n1_ := Aside0.mk (Kd.R_lower (Kd.R_new' ho50 (Kd.R_lt (by (with_reducible repeat (first | apply Kd.R_alloc | apply Kd.R_drewN | apply Kd.R_drew)); exact HO_1.out))) (below_size (by repeat (first | (with_reducible first | exact HB.out | apply below_alloc | apply pw_below_drewN | apply below_drew1) | exact HB.out)))); have n2_ := Aside0.mk (below_step (by repeat (first | (with_reducible first | exact HB.out | apply below_alloc | apply pw_below_drewN | apply below_drew1) | exact HB.out)) hb); clear HO_1; clear HB; have HO_1 := n0_; have HO193 := n1_; have HB := n2_; clear n0_ n1_ n2_; clear hb ho50)  | ((with_reducible refine gate_dst (N := 23) rfl ?_); (try (refine gate_guard (by rfl) ?_; dsimp only)); refine Kd.R_lit (Kd.int .u8) _ 5 ?hg (N := 23) ?hd (xs := ([11] : List Int)) (inner := [.int .u8 11]) (ok := fun _ => True) (okp := fun _ => True) ?hr ?hp (fun _ hk => hk) trivial (Below.refl _ _) (Nat.le_refl _) (by simp) ?_; (case hd => rfl); (case hg => rfl); (case hr => first | (go_simp; done) | (go_simp; rfl)); (case hp => exact (Reps.one (show Kd.M (Kd.int .u8) _ _ _ 11 [.int .u8 11] from rfl) (Reps.none _ _))); intro v195 w51 ho52 hb hg_ hnew_; clear hg_ hnew_; (first | rw [← Ny194.out] at ho52 | (simp only [Int.reduceToNat] at ho52; rw [← Ny194.out] at ho52)); have n0_ := Aside0.mk (Kd.R_elder' (by (with_reducible repeat (first | apply Kd.R_alloc | apply Kd.R_drewN | apply Kd.R_drew)); exact HO_1.out) (Kd.R_base ho52) hb); have n1_ := Aside0.mk (Kd.R_elder' (by (with_reducible repeat (first | apply Kd.R_alloc | apply Kd.R_drewN | apply Kd.R_drew)); exact HO193.out) (Kd.R_base ho52) hb); have n2_ := Aside0.mk (Kd.R_lower (Kd.R_new' (Kd.R_new' ho52 (Kd.R_lt (by (with_reducible repeat (first | apply Kd.R_alloc | apply Kd.R_drewN | apply Kd.R_drew)); exact HO_1.out))) (Kd.R_lt (by (with_reducible repeat (first | apply Kd.R_alloc | apply Kd.R_drewN | apply Kd.R_drew)); exact HO193.out))) (below_size (by repeat (first | (with_reducible first | exact HB.out | apply below_alloc | apply pw_below_drewN | apply below_drew1) | exact HB.out)))); have n3_ := Aside0.mk (below_step (by repeat (first | (with_reducible first | exact HB.out | apply below_alloc | apply pw_below_drewN | apply below_drew1) | exact HB.out)) hb); clear HO_1; clear HO193; clear HB; have HO_1 := n0_; have HO193 := n1_; have HO196 := n2_; have HB := n3_; clear n0_ n1_ n2_ n3_; clear hb ho52; obtain ⟨Ao53, co53, eo53⟩ := Kd.R_slice HO193.out; subst eo53; obtain ⟨Ao54, co54, eo54⟩ := Kd.R_slice HO196.out; subst eo54)  | ((with_reducible refine gate_callee (f := 30) rfl ?_); refine goesL_ (some 24) rfl rfl Try.func30 (by kernel_rfl) rfl #[.slice Ao53 y191.length co53, .slice Ao54 y194.length co54] rfl (by (try simp only [List.map_toArray, List.map_cons, List.map_nil]); first | done | rfl | (simp only [List.length_drop, List.length_take]; rfl)) ?_; (with_reducible refine (sums_Diff.calls k1 _ _ y191 _ _ y194 t197 t198 _ ?side1 ?side2 ?side3 ?side4 A10.out).mono ?_); (case side1 => repeat (first | exact (Kd.R_reads' HO193.out).2.2 | (with_reducible refine Kd.C_alloc ?_ _) | (with_reducible refine Kd.C_drewN ?_ _) | (with_reducible refine Kd.C_drew ?_))); (case side2 => exact (Kd.R_reads' HO193.out).2.1); (case side3 => repeat (first | exact (Kd.R_reads' HO196.out).2.2 | (with_reducible refine Kd.C_alloc ?_ _) | (with_reducible refine Kd.C_drewN ?_ _) | (with_reducible refine Kd.C_drew ?_))); (case side4 => exact (Kd.R_reads' HO196.out).2.1); rintro e w' ⟨rfl, ⟨nd, rfl⟩⟩; refine ⟨_, rfl, ?_⟩)  | ((with_reducible refine gate_dst (N := 28) rfl ?_); (try (refine gate_guard (by rfl) ?_; dsimp only)); refine Kd.R_lit (Kd.int .u8) _ 5 ?hg (N := 28) ?hd (xs := ([0, 1] : List Int)) (inner := [.int .u8 0, .int .u8 1]) (ok := fun _ => True) (okp := fun _ => True) ?hr ?hp (fun _ hk => hk) trivial (Below.refl _ _) (Nat.le_refl _) (by simp) ?_; (case hd => rfl); (case hg => rfl); (case hr => first | (go_simp; done) | (go_simp; rfl)); (case hp => exact (Reps.one (show Kd.M (Kd.int .u8) _ _ _ 0 [.int .u8 0] from rfl) (Reps.one (show Kd.M (Kd.int .u8) _ _ _ 1 [.int .u8 1] from rfl) (Reps.none _ _)))); intro v200 w55 ho56 hb hg_ hnew_; clear hg_ hnew_; (first | rw [← Ny199.out] at ho56 | (simp only [Int.reduceToNat] at ho56; rw [← Ny199.out] at ho56)); have n0_ := Aside0.mk (Kd.R_elder' (by (with_reducible repeat (first | apply Kd.R_alloc | apply Kd.R_drewN | apply Kd.R_drew)); exact HO_1.out) (Kd.R_base ho56) hb); have n1_ := Aside0.mk (Kd.R_elder' (by (with_reducible repeat (first | apply Kd.R_alloc | apply Kd.R_drewN | apply Kd.R_drew)); exact HO193.out) (Kd.R_base ho56) hb); have n2_ := Aside0.mk (Kd.R_elder' (by (with_reducible repeat (first | apply Kd.R_alloc | apply Kd.R_drewN | apply Kd.R_drew)); exact HO196.out) (Kd.R_base ho56) hb); have n3_ := Aside0.mk (Kd.R_lower (Kd.R_new' (Kd.R_new' (Kd.R_new' ho56 (Kd.R_lt (by (with_reducible repeat (first | apply Kd.R_alloc | apply Kd.R_drewN | apply Kd.R_drew)); exact HO_1.out))) (Kd.R_lt (by (with_reducible repeat (first | apply Kd.R_alloc | apply Kd.R_drewN | apply Kd.R_drew)); exact HO193.out))) (Kd.R_lt (by (with_reducible repeat (first | apply Kd.R_alloc | apply Kd.R_drewN | apply Kd.R_drew)); exact HO196.out))) (below_size (by repeat (first | (with_reducible first | exact HB.out | apply below_alloc | apply pw_below_drewN | apply below_drew1) | exact HB.out)))); have n4_ := Aside0.mk (below_step (by repeat (first | (with_reducible first | exact HB.out | apply below_alloc | apply pw_below_drewN | apply below_drew1) | exact HB.out)) hb); clear HO_1; clear HO193; clear HO196; clear HB; have HO_1 := n0_; have HO193 := n1_; have HO196 := n2_; have HO201 := n3_; have HB := n4_; clear n0_ n1_ n2_ n3_ n4_; clear hb ho56)  | ((with_reducible refine gate_dst (N := 29) rfl ?_); (try (refine gate_guard (by rfl) ?_; dsimp only)); refine Kd.R_lit (Kd.int .u8) _ 5 ?hg (N := 29) ?hd (xs := ([0, 1, 2, 3] : List Int)) (inner := [.int .u8 0, .int .u8 1, .int .u8 2, .int .u8 3]) (ok := fun _ => True) (okp := fun _ => True) ?hr ?hp (fun _ hk => hk) trivial (Below.refl _ _) (Nat.le_refl _) (by simp) ?_; (case hd => rfl); (case hg => rfl); (case hr => first | (go_simp; done) | (go_simp; rfl)); (case hp => exact (Reps.one (show Kd.M (Kd.int .u8) _ _ _ 0 [.int .u8 0] from rfl) (Reps.one (show Kd.M (Kd.int .u8) _ _ _ 1 [.int .u8 1] from rfl) (Reps.one (show Kd.M (Kd.int .u8) _ _ _ 2 [.int .u8 2] from rfl) (Reps.one (show Kd.M (Kd.int .u8) _ _ _ 3 [.int .u8 3] from rfl) (Reps.none _ _)))))); intro v203 w57 ho58 hb hg_ hnew_; clear hg_ hnew_; (first | rw [← Ny202.out] at ho58 | (simp only [Int.reduceToNat] at ho58; rw [← Ny202.out] at ho58)); have n0_ := Aside0.mk (Kd.R_elder' (by (with_reducible repeat (first | apply Kd.R_alloc | apply Kd.R_drewN | apply Kd.R_drew)); exact HO_1.out) (Kd.R_base ho58) hb); have n1_ := Aside0.mk (Kd.R_elder' (by (with_reducible repeat (first | apply Kd.R_alloc | apply Kd.R_drewN | apply Kd.R_drew)); exact HO193.out) (Kd.R_base ho58) hb); have n2_ := Aside0.mk (Kd.R_elder' (by (with_reducible repeat (first | apply Kd.R_alloc | apply Kd.R_drewN | apply Kd.R_drew)); exact HO196.out) (Kd.R_base ho58) hb); have n3_ := Aside0.mk (Kd.R_elder' (by (with_reducible repeat (first | apply Kd.R_alloc | apply Kd.R_drewN | apply Kd.R_drew)); exact HO201.out) (Kd.R_base ho58) hb); have n4_ := Aside0.mk (Kd.R_lower (Kd.R_new' (Kd.R_new' (Kd.R_new' (Kd.R_new' ho58 (Kd.R_lt (by (with_reducible repeat (first | apply Kd.R_alloc | apply Kd.R_drewN | apply Kd.R_drew)); exact HO_1.out))) (Kd.R_lt (by (with_reducible repeat (first | apply Kd.R_alloc | apply Kd.R_drewN | apply Kd.R_drew)); exact HO193.out))) (Kd.R_lt (by (with_reducible repeat (first | apply Kd.R_alloc | apply Kd.R_drewN | apply Kd.R_drew)); exact HO196.out))) (Kd.R_lt (by (with_reducible repeat (first | apply Kd.R_alloc | apply Kd.R_drewN | apply Kd.R_drew)); exact HO201.out))) (below_size (by repeat (first | (with_reducible first | exact HB.out | apply below_alloc | apply pw_below_drewN | apply below_drew1) | exact HB.out)))); have n5_ := Aside0.mk (below_step (by repeat (first | (with_reducible first | exact HB.out | apply below_alloc | apply pw_below_drewN | apply below_drew1) | exact HB.out)) hb); clear HO_1; clear HO193; clear HO196; clear HO201; clear HB; have HO_1 := n0_; have HO193 := n1_; have HO196 := n2_; have HO201 := n3_; have HO204 := n4_; have HB := n5_; clear n0_ n1_ n2_ n3_ n4_ n5_; clear hb ho58; obtain ⟨Ao59, co59, eo59⟩ := Kd.R_slice HO201.out; subst eo59; obtain ⟨Ao60, co60, eo60⟩ := Kd.R_slice HO204.out; subst eo60)  | ((with_reducible refine gate_callee (f := 30) rfl ?_); refine goesL_ (some 30) rfl rfl Try.func30 (by kernel_rfl) rfl #[.slice Ao59 y199.length co59, .slice Ao60 y202.length co60] rfl (by (try simp only [List.map_toArray, List.map_cons, List.map_nil]); first | done | rfl | (simp only [List.length_drop, List.length_take]; rfl)) ?_; (with_reducible refine (sums_Diff.calls k1 _ _ y199 _ _ y202 t205 t206 _ ?side1 ?side2 ?side3 ?side4 A11.out).mono ?_); (case side1 => repeat (first | exact (Kd.R_reads' HO201.out).2.2 | (with_reducible refine Kd.C_alloc ?_ _) | (with_reducible refine Kd.C_drewN ?_ _) | (with_reducible refine Kd.C_drew ?_))); (case side2 => exact (Kd.R_reads' HO201.out).2.1); (case side3 => repeat (first | exact (Kd.R_reads' HO204.out).2.2 | (with_reducible refine Kd.C_alloc ?_ _) | (with_reducible refine Kd.C_drewN ?_ _) | (with_reducible refine Kd.C_drew ?_))); (case side4 => exact (Kd.R_reads' HO204.out).2.1); rintro e w' ⟨rfl, ⟨nd, rfl⟩⟩; refine ⟨_, rfl, ?_⟩)  | ((with_reducible refine gate_dst (N := 34) rfl ?_); (try (refine gate_guard (by rfl) ?_; dsimp only)); refine Kd.R_lit (Kd.int .u8) _ 5 ?hg (N := 34) ?hd (xs := ([] : List Int)) (inner := []) (ok := fun _ => True) (okp := fun _ => True) ?hr ?hp (fun _ hk => hk) trivial (Below.refl _ _) (Nat.le_refl _) (by simp) ?_; (case hd => rfl); (case hg => rfl); (case hr => first | (go_simp; done) | (go_simp; rfl)); (case hp => exact (Reps.none _ _)); intro v208 w61 ho62 hb hg_ hnew_; clear hg_ hnew_; (first | rw [← Ny207.out] at ho62 | (simp only [Int.reduceToNat] at ho62; rw [← Ny207.out] at ho62)); have n0_ := Aside0.mk (Kd.R_elder' (by (with_reducible repeat (first | apply Kd.R_alloc | apply Kd.R_drewN | apply Kd.R_drew)); exact HO_1.out) (Kd.R_base ho62) hb); have n1_ := Aside0.mk (Kd.R_elder' (by (with_reducible repeat (first | apply Kd.R_alloc | apply Kd.R_drewN | apply Kd.R_drew)); exact HO193.out) (Kd.R_base ho62) hb); have n2_ := Aside0.mk (Kd.R_elder' (by (with_reducible repeat (first | apply Kd.R_alloc | apply Kd.R_drewN | apply Kd.R_drew)); exact HO196.out) (Kd.R_base ho62) hb); have n3_ := Aside0.mk (Kd.R_elder' (by (with_reducible repeat (first | apply Kd.R_alloc | apply Kd.R_drewN | apply Kd.R_drew)); exact HO201.out) (Kd.R_base ho62) hb); have n4_ := Aside0.mk (Kd.R_elder' (by (with_reducible repeat (first | apply Kd.R_alloc | apply Kd.R_drewN | apply Kd.R_drew)); exact HO204.out) (Kd.R_base ho62) hb); have n5_ := Aside0.mk (Kd.R_lower (Kd.R_new' (Kd.R_new' (Kd.R_new' (Kd.R_new' (Kd.R_new' ho62 (Kd.R_lt (by (with_reducible repeat (first | apply Kd.R_alloc | apply Kd.R_drewN | apply Kd.R_drew)); exact HO_1.out))) (Kd.R_lt (by (with_reducible repeat (first | apply Kd.R_alloc | apply Kd.R_drewN | apply Kd.R_drew)); exact HO193.out))) (Kd.R_lt (by (with_reducible repeat (first | apply Kd.R_alloc | apply Kd.R_drewN | apply Kd.R_drew)); exact HO196.out))) (Kd.R_lt (by (with_reducible repeat (first | apply Kd.R_alloc | apply Kd.R_drewN | apply Kd.R_drew)); exact HO201.out))) (Kd.R_lt (by (with_reducible repeat (first | apply Kd.R_alloc | apply Kd.R_drewN | apply Kd.R_drew)); exact HO204.out))) (below_size (by repeat (first | (with_reducible first | exact HB.out | apply below_alloc | apply pw_below_drewN | apply below_drew1) | exact HB.out)))); have n6_ := Aside0.mk (below_step (by repeat (first | (with_reducible first | exact HB.out | apply below_alloc | apply pw_below_drewN | apply below_drew1) | exact HB.out)) hb); clear HO_1; clear HO193; clear HO196; clear HO201; clear HO204; clear HB; have HO_1 := n0_; have HO193 := n1_; have HO196 := n2_; have HO201 := n3_; have HO204 := n4_; have HO209 := n5_; have HB := n6_; clear n0_ n1_ n2_ n3_ n4_ n5_ n6_; clear hb ho62; obtain ⟨Ao63, co63, eo63⟩ := Kd.R_slice HO209.out; subst eo63)  | ((with_reducible refine gate_callee (f := 30) rfl ?_); refine goesL_ (some 35) rfl rfl Try.func30 (by kernel_rfl) rfl #[.slice none 0 0, .slice Ao63 y207.length co63] rfl (by (try simp only [List.map_toArray, List.map_cons, List.map_nil]); first | done | rfl | (simp only [List.length_drop, List.length_take]; rfl)) ?_; (refine (sums_Diff.calls k1 _ _ ([] : List Int) _ _ y207 t210 t211 _ ?side1 ?side2 ?side3 ?side4 A12.out).mono ?_); (case side1 => exact Kd.C_nil _ _); (case side2 => exact Nat.le_refl _); (case side3 => repeat (first | exact (Kd.R_reads' HO209.out).2.2 | (with_reducible refine Kd.C_alloc ?_ _) | (with_reducible refine Kd.C_drewN ?_ _) | (with_reducible refine Kd.C_drew ?_))); (case side4 => exact (Kd.R_reads' HO209.out).2.1); rintro e w' ⟨rfl, ⟨nd, rfl⟩⟩; refine ⟨_, rfl, ?_⟩)  | ((with_reducible refine gate_callee (f := 16) rfl ?_); refine goesL_ (some 38) rfl rfl Try.func16 (by kernel_rfl) rfl #[.slice none 0 0] rfl (by (try simp only [List.map_toArray, List.map_cons, List.map_nil]); first | done | rfl | (simp only [List.length_drop, List.length_take]; rfl)) ?_; (refine (sums_Sum.calls k1 _ _ ([] : List Int) t212 _ ?side1 ?side2 A13.out).mono ?_); (case side1 => exact Kd.C_nil _ _); (case side2 => exact Nat.le_refl _); rintro e w' ⟨rfl, ⟨nd, rfl⟩⟩; refine ⟨_, rfl, ?_⟩)  | ((with_reducible refine gate_dst (N := 41) rfl ?_); (try (refine gate_guard (by rfl) ?_; dsimp only)); refine Kd.R_lit (Kd.int .u8) _ 5 ?hg (N := 41) ?hd (xs := ([1, 2] : List Int)) (inner := [.int .u8 1, .int .u8 2]) (ok := fun _ => True) (okp := fun _ => True) ?hr ?hp (fun _ hk => hk) trivial (Below.refl _ _) (Nat.le_refl _) (by simp) ?_; (case hd => rfl); (case hg => rfl); (case hr => first | (go_simp; done) | (go_simp; rfl)); (case hp => exact (Reps.one (show Kd.M (Kd.int .u8) _ _ _ 1 [.int .u8 1] from rfl) (Reps.one (show Kd.M (Kd.int .u8) _ _ _ 2 [.int .u8 2] from rfl) (Reps.none _ _)))); intro v214 w64 ho65 hb hg_ hnew_; clear hg_ hnew_; (first | rw [← Ny213.out] at ho65 | (simp only [Int.reduceToNat] at ho65; rw [← Ny213.out] at ho65)); have n0_ := Aside0.mk (Kd.R_elder' (by (with_reducible repeat (first | apply Kd.R_alloc | apply Kd.R_drewN | apply Kd.R_drew)); exact HO_1.out) (Kd.R_base ho65) hb); have n1_ := Aside0.mk (Kd.R_elder' (by (with_reducible repeat (first | apply Kd.R_alloc | apply Kd.R_drewN | apply Kd.R_drew)); exact HO193.out) (Kd.R_base ho65) hb); have n2_ := Aside0.mk (Kd.R_elder' (by (with_reducible repeat (first | apply Kd.R_alloc | apply Kd.R_drewN | apply Kd.R_drew)); exact HO196.out) (Kd.R_base ho65) hb); have n3_ := Aside0.mk (Kd.R_elder' (by (with_reducible repeat (first | apply Kd.R_alloc | apply Kd.R_drewN | apply Kd.R_drew)); exact HO201.out) (Kd.R_base ho65) hb); have n4_ := Aside0.mk (Kd.R_elder' (by (with_reducible repeat (first | apply Kd.R_alloc | apply Kd.R_drewN | apply Kd.R_drew)); exact HO204.out) (Kd.R_base ho65) hb); have n5_ := Aside0.mk (Kd.R_elder' (by (with_reducible repeat (first | apply Kd.R_alloc | apply Kd.R_drewN | apply Kd.R_drew)); exact HO209.out) (Kd.R_base ho65) hb); have n6_ := Aside0.mk (Kd.R_lower (Kd.R_new' (Kd.R_new' (Kd.R_new' (Kd.R_new' (Kd.R_new' (Kd.R_new' ho65 (Kd.R_lt (by (with_reducible repeat (first | apply Kd.R_alloc | apply Kd.R_drewN | apply Kd.R_drew)); exact HO_1.out))) (Kd.R_lt (by (with_reducible repeat (first | apply Kd.R_alloc | apply Kd.R_drewN | apply Kd.R_drew)); exact HO193.out))) (Kd.R_lt (by (with_reducible repeat (first | apply Kd.R_alloc | apply Kd.R_drewN | apply Kd.R_drew)); exact HO196.out))) (Kd.R_lt (by (with_reducible repeat (first | apply Kd.R_alloc | apply Kd.R_drewN | apply Kd.R_drew)); exact HO201.out))) (Kd.R_lt (by (with_reducible repeat (first | apply Kd.R_alloc | apply Kd.R_drewN | apply Kd.R_drew)); exact HO204.out))) (Kd.R_lt (by (with_reducible repeat (first | apply Kd.R_alloc | apply Kd.R_drewN | apply Kd.R_drew)); exact HO209.out))) (below_size (by repeat (first | (with_reducible first | exact HB.out | apply below_alloc | apply pw_below_drewN | apply below_drew1) | exact HB.out)))); have n7_ := Aside0.mk (below_step (by repeat (first | (with_reducible first | exact HB.out | apply below_alloc | apply pw_below_drewN | apply below_drew1) | exact HB.out)) hb); clear HO_1; clear HO193; clear HO196; clear HO201; clear HO204; clear HO209; clear HB; have HO_1 := n0_; have HO193 := n1_; have HO196 := n2_; have HO201 := n3_; have HO204 := n4_; have HO209 := n5_; have HO215 := n6_; have HB := n7_; clear n0_ n1_ n2_ n3_ n4_ n5_ n6_ n7_; clear hb ho65; obtain ⟨Ao66, co66, eo66⟩ := Kd.R_slice HO215.out; subst eo66)  | (go_at_call 16; (with_reducible refine (sums_Sum.calls k1 _ _ y213 t216 _ ?side1 ?side2 A15.out).mono ?_); (case side1 => repeat (first | exact (Kd.R_reads' HO215.out).2.2 | (with_reducible refine Kd.C_alloc ?_ _) | (with_reducible refine Kd.C_drewN ?_ _) | (with_reducible refine Kd.C_drew ?_))); (case side2 => exact (Kd.R_reads' HO215.out).2.1); rintro e w' ⟨rfl, ⟨nd, rfl⟩⟩)  | ((with_reducible refine gate_dst (N := 46) rfl ?_); (try (refine gate_guard (by rfl) ?_; dsimp only)); refine Kd.R_lit (Kd.int .u8) _ 5 ?hg (N := 46) ?hd (xs := ([255, 255] : List Int)) (inner := [.int .u8 255, .int .u8 255]) (ok := fun _ => True) (okp := fun _ => True) ?hr ?hp (fun _ hk => hk) trivial (Below.refl _ _) (Nat.le_refl _) (by simp) ?_; (case hd => rfl); (case hg => rfl); (case hr => first | (go_simp; done) | (go_simp; rfl)); (case hp => exact (Reps.one (show Kd.M (Kd.int .u8) _ _ _ 255 [.int .u8 255] from rfl) (Reps.one (show Kd.M (Kd.int .u8) _ _ _ 255 [.int .u8 255] from rfl) (Reps.none _ _)))); intro v218 w67 ho68 hb hg_ hnew_; clear hg_ hnew_; (first | rw [← Ny217.out] at ho68 | (simp only [Int.reduceToNat] at ho68; rw [← Ny217.out] at ho68)); have n0_ := Aside0.mk (Kd.R_elder' (by (with_reducible repeat (first | apply Kd.R_alloc | apply Kd.R_drewN | apply Kd.R_drew)); exact HO_1.out) (Kd.R_base ho68) hb); have n1_ := Aside0.mk (Kd.R_elder' (by (with_reducible repeat (first | apply Kd.R_alloc | apply Kd.R_drewN | apply Kd.R_drew)); exact HO193.out) (Kd.R_base ho68) hb); have n2_ := Aside0.mk (Kd.R_elder' (by (with_reducible repeat (first | apply Kd.R_alloc | apply Kd.R_drewN | apply Kd.R_drew)); exact HO196.out) (Kd.R_base ho68) hb); have n3_ := Aside0.mk (Kd.R_elder' (by (with_reducible repeat (first | apply Kd.R_alloc | apply Kd.R_drewN | apply Kd.R_drew)); exact HO201.out) (Kd.R_base ho68) hb); have n4_ := Aside0.mk (Kd.R_elder' (by (with_reducible repeat (first | apply Kd.R_alloc | apply Kd.R_drewN | apply Kd.R_drew)); exact HO204.out) (Kd.R_base ho68) hb); have n5_ := Aside0.mk (Kd.R_elder' (by (with_reducible repeat (first | apply Kd.R_alloc | apply Kd.R_drewN | apply Kd.R_drew)); exact HO209.out) (Kd.R_base ho68) hb); have n6_ := Aside0.mk (Kd.R_elder' (by (with_reducible repeat (first | apply Kd.R_alloc | apply Kd.R_drewN | apply Kd.R_drew)); exact HO215.out) (Kd.R_base ho68) hb); have n7_ := Aside0.mk (Kd.R_lower (Kd.R_new' (Kd.R_new' (Kd.R_new' (Kd.R_new' (Kd.R_new' (Kd.R_new' (Kd.R_new' ho68 (Kd.R_lt (by (with_reducible repeat (first | apply Kd.R_alloc | apply Kd.R_drewN | apply Kd.R_drew)); exact HO_1.out))) (Kd.R_lt (by (with_reducible repeat (first | apply Kd.R_alloc | apply Kd.R_drewN | apply Kd.R_drew)); exact HO193.out))) (Kd.R_lt (by (with_reducible repeat (first | apply Kd.R_alloc | apply Kd.R_drewN | apply Kd.R_drew)); exact HO196.out))) (Kd.R_lt (by (with_reducible repeat (first | apply Kd.R_alloc | apply Kd.R_drewN | apply Kd.R_drew)); exact HO201.out))) (Kd.R_lt (by (with_reducible repeat (first | apply Kd.R_alloc | apply Kd.R_drewN | apply Kd.R_drew)); exact HO204.out))) (Kd.R_lt (by (with_reducible repeat (first | apply Kd.R_alloc | apply Kd.R_drewN | apply Kd.R_drew)); exact HO209.out))) (Kd.R_lt (by (with_reducible repeat (first | apply Kd.R_alloc | apply Kd.R_drewN | apply Kd.R_drew)); exact HO215.out))) (below_size (by repeat (first | (with_reducible first | exact HB.out | apply below_alloc | apply pw_below_drewN | apply below_drew1) | exact HB.out)))); have n8_ := Aside0.mk (below_step (by repeat (first | (with_reducible first | exact HB.out | apply below_alloc | apply pw_below_drewN | apply below_drew1) | exact HB.out)) hb); clear HO_1; clear HO193; clear HO196; clear HO201; clear HO204; clear HO209; clear HO215; clear HB; have HO_1 := n0_; have HO193 := n1_; have HO196 := n2_; have HO201 := n3_; have HO204 := n4_; have HO209 := n5_; have HO215 := n6_; have HO219 := n7_; have HB := n8_; clear n0_ n1_ n2_ n3_ n4_ n5_ n6_ n7_ n8_; clear hb ho68; obtain ⟨Ao69, co69, eo69⟩ := Kd.R_slice HO219.out; subst eo69)  | (go_at_call 16; (with_reducible refine (sums_Sum.calls k1 _ _ y217 t220 _ ?side1 ?side2 A17.out).mono ?_); (case side1 => repeat (first | exact (Kd.R_reads' HO219.out).2.2 | (with_reducible refine Kd.C_alloc ?_ _) | (with_reducible refine Kd.C_drewN ?_ _) | (with_reducible refine Kd.C_drew ?_))); (case side2 => exact (Kd.R_reads' HO219.out).2.1); rintro e w' ⟨rfl, ⟨nd, rfl⟩⟩)  | ((with_reducible refine gate_dst (N := 51) rfl ?_); (try (refine gate_guard (by rfl) ?_; dsimp only)); refine Kd.R_lit (Kd.int .u8) _ 5 ?hg (N := 51) ?hd (xs := ([255, 255, 0, 1] : List Int)) (inner := [.int .u8 255, .int .u8 255, .int .u8 0, .int .u8 1]) (ok := fun _ => True) (okp := fun _ => True) ?hr ?hp (fun _ hk => hk) trivial (Below.refl _ _) (Nat.le_refl _) (by simp) ?_; (case hd => rfl); (case hg => rfl); (case hr => first | (go_simp; done) | (go_simp; rfl)); (case hp => exact (Reps.one (show Kd.M (Kd.int .u8) _ _ _ 255 [.int .u8 255] from rfl) (Reps.one (show Kd.M (Kd.int .u8) _ _ _ 255 [.int .u8 255] from rfl) (Reps.one (show Kd.M (Kd.int .u8) _ _ _ 0 [.int .u8 0] from rfl) (Reps.one (show Kd.M (Kd.int .u8) _ _ _ 1 [.int .u8 1] from rfl) (Reps.none _ _)))))); intro v222 w70 ho71 hb hg_ hnew_; clear hg_ hnew_; (first | rw [← Ny221.out] at ho71 | (simp only [Int.reduceToNat] at ho71; rw [← Ny221.out] at ho71)); have n0_ := Aside0.mk (Kd.R_elder' (by (with_reducible repeat (first | apply Kd.R_alloc | apply Kd.R_drewN | apply Kd.R_drew)); exact HO_1.out) (Kd.R_base ho71) hb); have n1_ := Aside0.mk (Kd.R_elder' (by (with_reducible repeat (first | apply Kd.R_alloc | apply Kd.R_drewN | apply Kd.R_drew)); exact HO193.out) (Kd.R_base ho71) hb); have n2_ := Aside0.mk (Kd.R_elder' (by (with_reducible repeat (first | apply Kd.R_alloc | apply Kd.R_drewN | apply Kd.R_drew)); exact HO196.out) (Kd.R_base ho71) hb); have n3_ := Aside0.mk (Kd.R_elder' (by (with_reducible repeat (first | apply Kd.R_alloc | apply Kd.R_drewN | apply Kd.R_drew)); exact HO201.out) (Kd.R_base ho71) hb); have n4_ := Aside0.mk (Kd.R_elder' (by (with_reducible repeat (first | apply Kd.R_alloc | apply Kd.R_drewN | apply Kd.R_drew)); exact HO204.out) (Kd.R_base ho71) hb); have n5_ := Aside0.mk (Kd.R_elder' (by (with_reducible repeat (first | apply Kd.R_alloc | apply Kd.R_drewN | apply Kd.R_drew)); exact HO209.out) (Kd.R_base ho71) hb); have n6_ := Aside0.mk (Kd.R_elder' (by (with_reducible repeat (first | apply Kd.R_alloc | apply Kd.R_drewN | apply Kd.R_drew)); exact HO215.out) (Kd.R_base ho71) hb); have n7_ := Aside0.mk (Kd.R_elder' (by (with_reducible repeat (first | apply Kd.R_alloc | apply Kd.R_drewN | apply Kd.R_drew)); exact HO219.out) (Kd.R_base ho71) hb); have n8_ := Aside0.mk (Kd.R_lower (Kd.R_new' (Kd.R_new' (Kd.R_new' (Kd.R_new' (Kd.R_new' (Kd.R_new' (Kd.R_new' (Kd.R_new' ho71 (Kd.R_lt (by (with_reducible repeat (first | apply Kd.R_alloc | apply Kd.R_drewN | apply Kd.R_drew)); exact HO_1.out))) (Kd.R_lt (by (with_reducible repeat (first | apply Kd.R_alloc | apply Kd.R_drewN | apply Kd.R_drew)); exact HO193.out))) (Kd.R_lt (by (with_reducible repeat (first | apply Kd.R_alloc | apply Kd.R_drewN | apply Kd.R_drew)); exact HO196.out))) (Kd.R_lt (by (with_reducible repeat (first | apply Kd.R_alloc | apply Kd.R_drewN | apply Kd.R_drew)); exact HO201.out))) (Kd.R_lt (by (with_reducible repeat (first | apply Kd.R_alloc | apply Kd.R_drewN | apply Kd.R_drew)); exact HO204.out))) (Kd.R_lt (by (with_reducible repeat (first | apply Kd.R_alloc | apply Kd.R_drewN | apply Kd.R_drew)); exact HO209.out))) (Kd.R_lt (by (with_reducible repeat (first | apply Kd.R_alloc | apply Kd.R_drewN | apply Kd.R_drew)); exact HO215.out))) (Kd.R_lt (by (with_reducible repeat (first | apply Kd.R_alloc | apply Kd.R_drewN | apply Kd.R_drew)); exact HO219.out))) (below_size (by repeat (first | (with_reducible first | exact HB.out | apply below_alloc | apply pw_below_drewN | apply below_drew1) | exact HB.out)))); have n9_ := Aside0.mk (below_step (by repeat (first | (with_reducible first | exact HB.out | apply below_alloc | apply pw_below_drewN | apply below_drew1) | exact HB.out)) hb); clear HO_1; clear HO193; clear HO196; clear HO201; clear HO204; clear HO209; clear HO215; clear HO219; clear HB; have HO_1 := n0_; have HO193 := n1_; have HO196 := n2_; have HO201 := n3_; have HO204 := n4_; have HO209 := n5_; have HO215 := n6_; have HO219 := n7_; have HO223 := n8_; have HB := n9_; clear n0_ n1_ n2_ n3_ n4_ n5_ n6_ n7_ n8_ n9_; clear hb ho71; obtain ⟨Ao72, co72, eo72⟩ := Kd.R_slice HO223.out; subst eo72)  | (go_at_call 16; (with_reducible refine (sums_Sum.calls k1 _ _ y221 t224 _ ?side1 ?side2 A19.out).mono ?_); (case side1 => repeat (first | exact (Kd.R_reads' HO223.out).2.2 | (with_reducible refine Kd.C_alloc ?_ _) | (with_reducible refine Kd.C_drewN ?_ _) | (with_reducible refine Kd.C_drew ?_))); (case side2 => exact (Kd.R_reads' HO223.out).2.1); rintro e w' ⟨rfl, ⟨nd, rfl⟩⟩)  | ((with_reducible refine gate_dst (N := 56) rfl ?_); (try (refine gate_guard (by rfl) ?_; dsimp only)); refine Kd.R_lit (Kd.int .u8) _ 5 ?hg (N := 56) ?hd (xs := ([255, 255, 255, 255, 0, 1] : List Int)) (inner := [.int .u8 255, .int .u8 255, .int .u8 255, .int .u8 255, .int .u8 0, .int .u8 1]) (ok := fun _ => True) (okp := fun _ => True) ?hr ?hp (fun _ hk => hk) trivial (Below.refl _ _) (Nat.le_refl _) (by simp) ?_; (case hd => rfl); (case hg => rfl); (case hr => first | (go_simp; done) | (go_simp; rfl)); (case hp => exact (Reps.one (show Kd.M (Kd.int .u8) _ _ _ 255 [.int .u8 255] from rfl) (Reps.one (show Kd.M (Kd.int .u8) _ _ _ 255 [.int .u8 255] from rfl) (Reps.one (show Kd.M (Kd.int .u8) _ _ _ 255 [.int .u8 255] from rfl) (Reps.one (show Kd.M (Kd.int .u8) _ _ _ 255 [.int .u8 255] from rfl) (Reps.one (show Kd.M (Kd.int .u8) _ _ _ 0 [.int .u8 0] from rfl) (Reps.one (show Kd.M (Kd.int .u8) _ _ _ 1 [.int .u8 1] from rfl) (Reps.none _ _)))))))); intro v226 w73 ho74 hb hg_ hnew_; clear hg_ hnew_; (first | rw [← Ny225.out] at ho74 | (simp only [Int.reduceToNat] at ho74; rw [← Ny225.out] at ho74)); have n0_ := Aside0.mk (Kd.R_elder' (by (with_reducible repeat (first | apply Kd.R_alloc | apply Kd.R_drewN | apply Kd.R_drew)); exact HO_1.out) (Kd.R_base ho74) hb); have n1_ := Aside0.mk (Kd.R_elder' (by (with_reducible repeat (first | apply Kd.R_alloc | apply Kd.R_drewN | apply Kd.R_drew)); exact HO193.out) (Kd.R_base ho74) hb); have n2_ := Aside0.mk (Kd.R_elder' (by (with_reducible repeat (first | apply Kd.R_alloc | apply Kd.R_drewN | apply Kd.R_drew)); exact HO196.out) (Kd.R_base ho74) hb); have n3_ := Aside0.mk (Kd.R_elder' (by (with_reducible repeat (first | apply Kd.R_alloc | apply Kd.R_drewN | apply Kd.R_drew)); exact HO201.out) (Kd.R_base ho74) hb); have n4_ := Aside0.mk (Kd.R_elder' (by (with_reducible repeat (first | apply Kd.R_alloc | apply Kd.R_drewN | apply Kd.R_drew)); exact HO204.out) (Kd.R_base ho74) hb); have n5_ := Aside0.mk (Kd.R_elder' (by (with_reducible repeat (first | apply Kd.R_alloc | apply Kd.R_drewN | apply Kd.R_drew)); exact HO209.out) (Kd.R_base ho74) hb); have n6_ := Aside0.mk (Kd.R_elder' (by (with_reducible repeat (first | apply Kd.R_alloc | apply Kd.R_drewN | apply Kd.R_drew)); exact HO215.out) (Kd.R_base ho74) hb); have n7_ := Aside0.mk (Kd.R_elder' (by (with_reducible repeat (first | apply Kd.R_alloc | apply Kd.R_drewN | apply Kd.R_drew)); exact HO219.out) (Kd.R_base ho74) hb); have n8_ := Aside0.mk (Kd.R_elder' (by (with_reducible repeat (first | apply Kd.R_alloc | apply Kd.R_drewN | apply Kd.R_drew)); exact HO223.out) (Kd.R_base ho74) hb); have n9_ := Aside0.mk (Kd.R_lower (Kd.R_new' (Kd.R_new' (Kd.R_new' (Kd.R_new' (Kd.R_new' (Kd.R_new' (Kd.R_new' (Kd.R_new' (Kd.R_new' ho74 (Kd.R_lt (by (with_reducible repeat (first | apply Kd.R_alloc | apply Kd.R_drewN | apply Kd.R_drew)); exact HO_1.out))) (Kd.R_lt (by (with_reducible repeat (first | apply Kd.R_alloc | apply Kd.R_drewN | apply Kd.R_drew)); exact HO193.out))) (Kd.R_lt (by (with_reducible repeat (first | apply Kd.R_alloc | apply Kd.R_drewN | apply Kd.R_drew)); exact HO196.out))) (Kd.R_lt (by (with_reducible repeat (first | apply Kd.R_alloc | apply Kd.R_drewN | apply Kd.R_drew)); exact HO201.out))) (Kd.R_lt (by (with_reducible repeat (first | apply Kd.R_alloc | apply Kd.R_drewN | apply Kd.R_drew)); exact HO204.out))) (Kd.R_lt (by (with_reducible repeat (first | apply Kd.R_alloc | apply Kd.R_drewN | apply Kd.R_drew)); exact HO209.out))) (Kd.R_lt (by (with_reducible repeat (first | apply Kd.R_alloc | apply Kd.R_drewN | apply Kd.R_drew)); exact HO215.out))) (Kd.R_lt (by (with_reducible repeat (first | apply Kd.R_alloc | apply Kd.R_drewN | apply Kd.R_drew)); exact HO219.out))) (Kd.R_lt (by (with_reducible repeat (first | apply Kd.R_alloc | apply Kd.R_drewN | apply Kd.R_drew)); exact HO223.out))) (below_size (by repeat (first | (with_reducible first | exact HB.out | apply below_alloc | apply pw_below_drewN | apply below_drew1) | exact HB.out)))); have n10_ := Aside0.mk (below_step (by repeat (first | (with_reducible first | exact HB.out | apply below_alloc | apply pw_below_drewN | apply below_drew1) | exact HB.out)) hb); clear HO_1; clear HO193; clear HO196; clear HO201; clear HO204; clear HO209; clear HO215; clear HO219; clear HO223; clear HB; have HO_1 := n0_; have HO193 := n1_; have HO196 := n2_; have HO201 := n3_; have HO204 := n4_; have HO209 := n5_; have HO215 := n6_; have HO219 := n7_; have HO223 := n8_; have HO227 := n9_; have HB := n10_; clear n0_ n1_ n2_ n3_ n4_ n5_ n6_ n7_ n8_ n9_ n10_; clear hb ho74; obtain ⟨Ao75, co75, eo75⟩ := Kd.R_slice HO227.out; subst eo75)  | (go_at_call 16; (with_reducible refine (sums_Sum.calls k1 _ _ y225 t228 _ ?side1 ?side2 A21.out).mono ?_); (case side1 => repeat (first | exact (Kd.R_reads' HO227.out).2.2 | (with_reducible refine Kd.C_alloc ?_ _) | (with_reducible refine Kd.C_drewN ?_ _) | (with_reducible refine Kd.C_drew ?_))); (case side2 => exact (Kd.R_reads' HO227.out).2.1); rintro e w' ⟨rfl, ⟨nd, rfl⟩⟩)  | ((with_reducible refine gate_dst (N := 65) rfl ?_); (try (refine gate_guard (by rfl) ?_; dsimp only)); refine Kd.R_lit (Kd.int .u8) _ 5 ?hg (N := 65) ?hd (xs := ([255, 255] : List Int)) (inner := [.int .u8 255, .int .u8 255]) (ok := fun _ => True) (okp := fun _ => True) ?hr ?hp (fun _ hk => hk) trivial (Below.refl _ _) (Nat.le_refl _) (by simp) ?_; (case hd => rfl); (case hg => rfl); (case hr => first | (go_simp; done) | (go_simp; rfl)); (case hp => exact (Reps.one (show Kd.M (Kd.int .u8) _ _ _ 255 [.int .u8 255] from rfl) (Reps.one (show Kd.M (Kd.int .u8) _ _ _ 255 [.int .u8 255] from rfl) (Reps.none _ _)))); intro v231 w76 ho77 hb hg_ hnew_; clear hg_ hnew_; (first | rw [← Ny230.out] at ho77 | (simp only [Int.reduceToNat] at ho77; rw [← Ny230.out] at ho77)); have n0_ := Aside0.mk (Kd.R_elder' (by (with_reducible repeat (first | apply Kd.R_alloc | apply Kd.R_drewN | apply Kd.R_drew)); exact HO_1.out) (Kd.R_base ho77) hb); have n1_ := Aside0.mk (Kd.R_elder' (by (with_reducible repeat (first | apply Kd.R_alloc | apply Kd.R_drewN | apply Kd.R_drew)); exact HO193.out) (Kd.R_base ho77) hb); have n2_ := Aside0.mk (Kd.R_elder' (by (with_reducible repeat (first | apply Kd.R_alloc | apply Kd.R_drewN | apply Kd.R_drew)); exact HO196.out) (Kd.R_base ho77) hb); have n3_ := Aside0.mk (Kd.R_elder' (by (with_reducible repeat (first | apply Kd.R_alloc | apply Kd.R_drewN | apply Kd.R_drew)); exact HO201.out) (Kd.R_base ho77) hb); have n4_ := Aside0.mk (Kd.R_elder' (by (with_reducible repeat (first | apply Kd.R_alloc | apply Kd.R_drewN | apply Kd.R_drew)); exact HO204.out) (Kd.R_base ho77) hb); have n5_ := Aside0.mk (Kd.R_elder' (by (with_reducible repeat (first | apply Kd.R_alloc | apply Kd.R_drewN | apply Kd.R_drew)); exact HO209.out) (Kd.R_base ho77) hb); have n6_ := Aside0.mk (Kd.R_elder' (by (with_reducible repeat (first | apply Kd.R_alloc | apply Kd.R_drewN | apply Kd.R_drew)); exact HO215.out) (Kd.R_base ho77) hb); have n7_ := Aside0.mk (Kd.R_elder' (by (with_reducible repeat (first | apply Kd.R_alloc | apply Kd.R_drewN | apply Kd.R_drew)); exact HO219.out) (Kd.R_base ho77) hb); have n8_ := Aside0.mk (Kd.R_elder' (by (with_reducible repeat (first | apply Kd.R_alloc | apply Kd.R_drewN | apply Kd.R_drew)); exact HO223.out) (Kd.R_base ho77) hb); have n9_ := Aside0.mk (Kd.R_elder' (by (with_reducible repeat (first | apply Kd.R_alloc | apply Kd.R_drewN | apply Kd.R_drew)); exact HO227.out) (Kd.R_base ho77) hb); have n10_ := Aside0.mk (Kd.R_lower (Kd.R_new' (Kd.R_new' (Kd.R_new' (Kd.R_new' (Kd.R_new' (Kd.R_new' (Kd.R_new' (Kd.R_new' (Kd.R_new' (Kd.R_new' ho77 (Kd.R_lt (by (with_reducible repeat (first | apply Kd.R_alloc | apply Kd.R_drewN | apply Kd.R_drew)); exact HO_1.out))) (Kd.R_lt (by (with_reducible repeat (first | apply Kd.R_alloc | apply Kd.R_drewN | apply Kd.R_drew)); exact HO193.out))) (Kd.R_lt (by (with_reducible repeat (first | apply Kd.R_alloc | apply Kd.R_drewN | apply Kd.R_drew)); exact HO196.out))) (Kd.R_lt (by (with_reducible repeat (first | apply Kd.R_alloc | apply Kd.R_drewN | apply Kd.R_drew)); exact HO201.out))) (Kd.R_lt (by (with_reducible repeat (first | apply Kd.R_alloc | apply Kd.R_drewN | apply Kd.R_drew)); exact HO204.out))) (Kd.R_lt (by (with_reducible repeat (first | apply Kd.R_alloc | apply Kd.R_drewN | apply Kd.R_drew)); exact HO209.out))) (Kd.R_lt (by (with_reducible repeat (first | apply Kd.R_alloc | apply Kd.R_drewN | apply Kd.R_drew)); exact HO215.out))) (Kd.R_lt (by (with_reducible repeat (first | apply Kd.R_alloc | apply Kd.R_drewN | apply Kd.R_drew)); exact HO219.out))) (Kd.R_lt (by (with_reducible repeat (first | apply Kd.R_alloc | apply Kd.R_drewN | apply Kd.R_drew)); exact HO223.out))) (Kd.R_lt (by (with_reducible repeat (first | apply Kd.R_alloc | apply Kd.R_drewN | apply Kd.R_drew)); exact HO227.out))) (below_size (by repeat (first | (with_reducible first | exact HB.out | apply below_alloc | apply pw_below_drewN | apply below_drew1) | exact HB.out)))); have n11_ := Aside0.mk (below_step (by repeat (first | (with_reducible first | exact HB.out | apply below_alloc | apply pw_below_drewN | apply below_drew1) | exact HB.out)) hb); clear HO_1; clear HO193; clear HO196; clear HO201; clear HO204; clear HO209; clear HO215; clear HO219; clear HO223; clear HO227; clear HB; have HO_1 := n0_; have HO193 := n1_; have HO196 := n2_; have HO201 := n3_; have HO204 := n4_; have HO209 := n5_; have HO215 := n6_; have HO219 := n7_; have HO223 := n8_; have HO227 := n9_; have HO232 := n10_; have HB := n11_; clear n0_ n1_ n2_ n3_ n4_ n5_ n6_ n7_ n8_ n9_ n10_ n11_; clear hb ho77; obtain ⟨Ao78, co78, eo78⟩ := Kd.R_slice HO232.out; subst eo78)  | (go_at_call 18; (with_reducible refine (sums_Field.calls k1 _ _ y230 t233 _ ?side1 ?side2 A25.out).mono ?_); (case side1 => repeat (first | exact (Kd.R_reads' HO232.out).2.2 | (with_reducible refine Kd.C_alloc ?_ _) | (with_reducible refine Kd.C_drewN ?_ _) | (with_reducible refine Kd.C_drew ?_))); (case side2 => exact (Kd.R_reads' HO232.out).2.1); rintro e w' ⟨rfl, ⟨nd, rfl⟩⟩)  | ((with_reducible refine gate_callee (f := 22) rfl ?_); refine goesL_ (some 69) rfl rfl Try.func22 (by kernel_rfl) rfl #[.int .u16 65535, .int .u16 65535] rfl (by (try simp only [List.map_toArray, List.map_cons, List.map_nil]); first | done | rfl | (simp only [List.length_drop, List.length_take]; rfl)) ?_; (with_reducible refine (sums_Add.calls k1 65535 65535 t234 _ A26.out).mono ?_); rintro e w' ⟨rfl, ⟨nd, rfl⟩⟩; refine ⟨_, rfl, ?_⟩)  | (go_at_call 24; (with_reducible refine (sums_Sub.calls k1 5 5 t235 _ A28.out).mono ?_); rintro e w' ⟨rfl, ⟨nd, rfl⟩⟩)  | (go_at_call 26; (with_reducible refine (sums_Same.calls 1 2 false _ A30.out).mono ?_); rintro e w' ⟨rfl, ⟨nd, rfl⟩⟩)  | (go_at_call 28; (with_reducible refine (sums_Update.calls k1 0 0 0 t238 _ A35.out).mono ?_); rintro e w' ⟨rfl, ⟨nd, rfl⟩⟩)  | (go_at_call 21; (with_reducible refine (sallyportlaw01_awake.calls k1  true ⟨by first | rfl | exact hr_.out⟩ _ A36.out).mono ?_); rintro e w79 ⟨rfl, hb⟩; have n0_ := Aside0.mk (Kd.R_below (by (with_reducible repeat (first | apply Kd.R_alloc | apply Kd.R_drewN | apply Kd.R_drew)); exact HO_1.out) hb); have n1_ := Aside0.mk (Kd.R_below (by (with_reducible repeat (first | apply Kd.R_alloc | apply Kd.R_drewN | apply Kd.R_drew)); exact HO193.out) hb); have n2_ := Aside0.mk (Kd.R_below (by (with_reducible repeat (first | apply Kd.R_alloc | apply Kd.R_drewN | apply Kd.R_drew)); exact HO196.out) hb); have n3_ := Aside0.mk (Kd.R_below (by (with_reducible repeat (first | apply Kd.R_alloc | apply Kd.R_drewN | apply Kd.R_drew)); exact HO201.out) hb); have n4_ := Aside0.mk (Kd.R_below (by (with_reducible repeat (first | apply Kd.R_alloc | apply Kd.R_drewN | apply Kd.R_drew)); exact HO204.out) hb); have n5_ := Aside0.mk (Kd.R_below (by (with_reducible repeat (first | apply Kd.R_alloc | apply Kd.R_drewN | apply Kd.R_drew)); exact HO209.out) hb); have n6_ := Aside0.mk (Kd.R_below (by (with_reducible repeat (first | apply Kd.R_alloc | apply Kd.R_drewN | apply Kd.R_drew)); exact HO215.out) hb); have n7_ := Aside0.mk (Kd.R_below (by (with_reducible repeat (first | apply Kd.R_alloc | apply Kd.R_drewN | apply Kd.R_drew)); exact HO219.out) hb); have n8_ := Aside0.mk (Kd.R_below (by (with_reducible repeat (first | apply Kd.R_alloc | apply Kd.R_drewN | apply Kd.R_drew)); exact HO223.out) hb); have n9_ := Aside0.mk (Kd.R_below (by (with_reducible repeat (first | apply Kd.R_alloc | apply Kd.R_drewN | apply Kd.R_drew)); exact HO227.out) hb); have n10_ := Aside0.mk (Kd.R_below (by (with_reducible repeat (first | apply Kd.R_alloc | apply Kd.R_drewN | apply Kd.R_drew)); exact HO232.out) hb); have n11_ := Aside0.mk (below_step (by repeat (first | (with_reducible first | exact HB.out | apply below_alloc | apply pw_below_drewN | apply below_drew1) | exact HB.out)) hb); clear HO_1; clear HO193; clear HO196; clear HO201; clear HO204; clear HO209; clear HO215; clear HO219; clear HO223; clear HO227; clear HO232; clear HB; have HO_1 := n0_; have HO193 := n1_; have HO196 := n2_; have HO201 := n3_; have HO204 := n4_; have HO209 := n5_; have HO215 := n6_; have HO219 := n7_; have HO223 := n8_; have HO227 := n9_; have HO232 := n10_; have HB := n11_; clear n0_ n1_ n2_ n3_ n4_ n5_ n6_ n7_ n8_ n9_ n10_ n11_; (try clear hb); (try clear hb2); (try clear hk); (try clear hi); have q80 : (5000 : Int) ≤ ((x1_1.length : Int) : Int) := of_decide_eq_true (by first | (with_reducible assumption) | assumption); obtain ⟨i080, hi080, _, hsz80, _⟩ := info_parts info5; have hroom80 : x1_1.length ≤ co48 := (Kd.R_reads' HO_1.out).2.1; have hC80 : Kd.C (Kd.int .u8) _ Ao48 x1_1.length x1_1 := (Kd.R_reads' HO_1.out).2.2; have hcut80 := cut_to (P := Try.prog) 22 5 .i64 Try.underlying22 hi080 Ao48 x1_1.length co48 5000 (by omega) q80 hroom80; have hr80 := Kd.C_take (m := 5000) hC80 (by omega); have hy80 : y240.length = (5000 : Int).toNat := (by rw [Ny240.out, List.length_take]; omega); rw [← Ny240.out] at hr80; rw [← hy80] at hcut80; have HR243 := Aside0.mk hr80; have HC243 := Aside0.mk (show y240.length ≤ co48 from by omega); clear hr80 hC80 hroom80 hi080 hsz80; have KY80 := Aside0.mk hy80; clear hy80; have KL80 := Aside0.mk (show 5000 ≤ x1_1.length from by omega); replace q80 := eq_true q80)  | (go_at_call 16; (with_reducible refine (sums_Sum.calls k1 _ _ y240 t244 _ ?side1 ?side2 A45.out).mono ?_); (case side1 => repeat (first | exact (by repeat (first | (with_reducible exact HR243.out) | (with_reducible refine Kd.C_alloc ?_ _) | (with_reducible refine Kd.C_drewN ?_ _) | (with_reducible refine Kd.C_drew ?_) | exact HR243.out)) | (with_reducible refine Kd.C_alloc ?_ _) | (with_reducible refine Kd.C_drewN ?_ _) | (with_reducible refine Kd.C_drew ?_))); (case side2 => exact HC243.out); rintro e w' ⟨rfl, ⟨nd, rfl⟩⟩)  | (go_at_call 16; (with_reducible refine (sums_Sum.calls k1 _ _ x1_1 t245 _ ?side1 ?side2 A47.out).mono ?_); (case side1 => repeat (first | exact (Kd.R_reads' HO_1.out).2.2 | (with_reducible refine Kd.C_alloc ?_ _) | (with_reducible refine Kd.C_drewN ?_ _) | (with_reducible refine Kd.C_drew ?_))); (case side2 => exact (Kd.R_reads' HO_1.out).2.1); rintro e w' ⟨rfl, ⟨nd, rfl⟩⟩)  | (go_at_call 18; (refine (sums_Field.calls k1 _ _ ([] : List Int) t229 _ ?side1 ?side2 A23.out).mono ?_); (case side1 => exact Kd.C_nil _ _); (case side2 => exact Nat.le_refl _); rintro e w' ⟨rfl, ⟨nd, rfl⟩⟩))
                                              go_ret
                                              exact ⟨by first | rfl | (simp [errW_none, errW_some] <;> rfl) | (simp [*, errW_none, errW_some] <;> rfl), by repeat (first | (with_reducible first | exact HB.out | apply below_alloc | apply pw_below_drewN | apply below_drew1) | exact HB.out)⟩
                                            · rw [if_neg c46] at H
                                              have c46b0 : (t244 == 65535) = false := beq_eq_false_iff_ne.mpr c46
                                              have c46b1 : (t244 != 65535) = true := bne_iff_ne.mpr c46
                                              obtain rfl := Option.some.inj H
                                              exact absurd hr_.out (by decide)
                                          · rw [if_neg c44] at H
                                            exact absurd H (by simp)
                                        · rw [if_neg c43] at H
                                          have c43b0 : (t210 == 65535) = false := beq_eq_false_iff_ne.mpr c43
                                          have c43b1 : (t210 != 65535) = true := bne_iff_ne.mpr c43
                                          obtain rfl := Option.some.inj H
                                          exact absurd hr_.out (by decide)
                                      · rw [if_neg c42] at H
                                        have c42b0 : (t211 == 0) = false := beq_eq_false_iff_ne.mpr c42
                                        have c42b1 : (t211 != 0) = true := bne_iff_ne.mpr c42
                                        obtain rfl := Option.some.inj H
                                        exact absurd hr_.out (by decide)
                                    · rw [if_neg c41] at H
                                      have c41b0 : (t206 == 2) = false := beq_eq_false_iff_ne.mpr c41
                                      have c41b1 : (t206 != 2) = true := bne_iff_ne.mpr c41
                                      obtain rfl := Option.some.inj H
                                      exact absurd hr_.out (by decide)
                                  · rw [if_neg c40] at H
                                    have c40b0 : (t198 == 2) = false := beq_eq_false_iff_ne.mpr c40
                                    have c40b1 : (t198 != 2) = true := bne_iff_ne.mpr c40
                                    obtain rfl := Option.some.inj H
                                    exact absurd hr_.out (by decide)
                                · rw [if_neg c39] at H
                                  have c39b0 : (t238 == 0) = false := beq_eq_false_iff_ne.mpr c39
                                  have c39b1 : (t238 != 0) = true := bne_iff_ne.mpr c39
                                  obtain rfl := Option.some.inj H
                                  exact absurd hr_.out (by decide)
                              · rw [if_neg c38] at H
                                have c38b0 : (t233 == 0) = false := beq_eq_false_iff_ne.mpr c38
                                have c38b1 : (t233 != 0) = true := bne_iff_ne.mpr c38
                                obtain rfl := Option.some.inj H
                                exact absurd hr_.out (by decide)
                            · replace c37 := Bool.eq_false_iff.mpr c37
                              subst c37
                              have H1 : (some false) = some r := by rw [if_neg (show ¬ (false = true) by decide)] at H; exact H
                              clear H
                              have H := H1
                              clear H1
                              obtain rfl := Option.some.inj H
                              exact absurd hr_.out (by decide)
                        · rw [if_neg c29] at H
                          have c29b0 : (t235 == 65535) = false := beq_eq_false_iff_ne.mpr c29
                          have c29b1 : (t235 != 65535) = true := bne_iff_ne.mpr c29
                          replace H := Option.bind_eq_some_iff.mp H
                          obtain ⟨t246, A810, H⟩ := H
                          replace H : (if t246 = true then (if t233 = 0 then (some false) else (some false)) else (some false)) = some r := H
                          have A81 := Aside0.mk A810
                          clear A810
                          by_cases c82 : t246 = true
                          · subst c82
                            have H1 : (if t233 = 0 then (some false) else (some false)) = some r := by rw [if_pos rfl] at H; exact H
                            clear H
                            have H := H1
                            clear H1
                            by_cases c83 : t233 = 0
                            · rw [if_pos c83] at H
                              have c83b0 : (t233 == 0) = true := beq_iff_eq.mpr c83
                              have c83b1 : (t233 != 0) = false := bne_eq_false_iff_eq.mpr c83
                              clear c83
                              obtain rfl := Option.some.inj H
                              exact absurd hr_.out (by decide)
                            · rw [if_neg c83] at H
                              have c83b0 : (t233 == 0) = false := beq_eq_false_iff_ne.mpr c83
                              have c83b1 : (t233 != 0) = true := bne_iff_ne.mpr c83
                              obtain rfl := Option.some.inj H
                              exact absurd hr_.out (by decide)
                          · replace c82 := Bool.eq_false_iff.mpr c82
                            subst c82
                            have H1 : (some false) = some r := by rw [if_neg (show ¬ (false = true) by decide)] at H; exact H
                            clear H
                            have H := H1
                            clear H1
                            obtain rfl := Option.some.inj H
                            exact absurd hr_.out (by decide)
                      · rw [if_neg c27] at H
                        have c27b0 : (t234 == 65535) = false := beq_eq_false_iff_ne.mpr c27
                        have c27b1 : (t234 != 65535) = true := bne_iff_ne.mpr c27
                        replace H := Option.bind_eq_some_iff.mp H
                        obtain ⟨t247, A840, H⟩ := H
                        replace H : (if t247 = true then (if t233 = 0 then (some false) else (some false)) else (some false)) = some r := H
                        have A84 := Aside0.mk A840
                        clear A840
                        by_cases c85 : t247 = true
                        · subst c85
                          have H1 : (if t233 = 0 then (some false) else (some false)) = some r := by rw [if_pos rfl] at H; exact H
                          clear H
                          have H := H1
                          clear H1
                          by_cases c86 : t233 = 0
                          · rw [if_pos c86] at H
                            have c86b0 : (t233 == 0) = true := beq_iff_eq.mpr c86
                            have c86b1 : (t233 != 0) = false := bne_eq_false_iff_eq.mpr c86
                            clear c86
                            obtain rfl := Option.some.inj H
                            exact absurd hr_.out (by decide)
                          · rw [if_neg c86] at H
                            have c86b0 : (t233 == 0) = false := beq_eq_false_iff_ne.mpr c86
                            have c86b1 : (t233 != 0) = true := bne_iff_ne.mpr c86
                            obtain rfl := Option.some.inj H
                            exact absurd hr_.out (by decide)
                        · replace c85 := Bool.eq_false_iff.mpr c85
                          subst c85
                          have H1 : (some false) = some r := by rw [if_neg (show ¬ (false = true) by decide)] at H; exact H
                          clear H
                          have H := H1
                          clear H1
                          obtain rfl := Option.some.inj H
                          exact absurd hr_.out (by decide)
                    · rw [if_neg c24] at H
                      have c24b0 : (t229 == 65535) = false := beq_eq_false_iff_ne.mpr c24
                      have c24b1 : (t229 != 65535) = true := bne_iff_ne.mpr c24
                      replace H := Option.bind_eq_some_iff.mp H
                      obtain ⟨t248, A870, H⟩ := H
                      replace H : (if t248 = 65535 then ((sums_Sub.f k1 5 5).bind fun t249 => (if t249 = 65535 then ((sums_Same.f 1 2).bind fun t250 => (if t250 = true then ((sallyportlaw01_awake.f k1).bind fun t251 => (if t251 = true then (some false) else (some false))) else ((sums_Update.f k1 0 0 0).bind fun t252 => ((sallyportlaw01_awake.f k1).bind fun t253 => (if t253 = true then (some false) else (some false)))))) else ((sallyportlaw01_awake.f k1).bind fun t254 => (if t254 = true then (some false) else (some false))))) else ((sallyportlaw01_awake.f k1).bind fun t255 => (if t255 = true then (some false) else (some false)))) = some r := H
                      have A87 := Aside0.mk A870
                      clear A870
                      by_cases c88 : t248 = 65535
                      · rw [if_pos c88] at H
                        have c88b0 : (t248 == 65535) = true := beq_iff_eq.mpr c88
                        have c88b1 : (t248 != 65535) = false := bne_eq_false_iff_eq.mpr c88
                        clear c88
                        replace H := Option.bind_eq_some_iff.mp H
                        obtain ⟨t249, A890, H⟩ := H
                        replace H : (if t249 = 65535 then ((sums_Same.f 1 2).bind fun t250 => (if t250 = true then ((sallyportlaw01_awake.f k1).bind fun t251 => (if t251 = true then (some false) else (some false))) else ((sums_Update.f k1 0 0 0).bind fun t252 => ((sallyportlaw01_awake.f k1).bind fun t253 => (if t253 = true then (some false) else (some false)))))) else ((sallyportlaw01_awake.f k1).bind fun t254 => (if t254 = true then (some false) else (some false)))) = some r := H
                        have A89 := Aside0.mk A890
                        clear A890
                        by_cases c90 : t249 = 65535
                        · rw [if_pos c90] at H
                          have c90b0 : (t249 == 65535) = true := beq_iff_eq.mpr c90
                          have c90b1 : (t249 != 65535) = false := bne_eq_false_iff_eq.mpr c90
                          clear c90
                          replace H := Option.bind_eq_some_iff.mp H
                          obtain ⟨t250, A910, H⟩ := H
                          replace H : (if t250 = true then ((sallyportlaw01_awake.f k1).bind fun t251 => (if t251 = true then (some false) else (some false))) else ((sums_Update.f k1 0 0 0).bind fun t252 => ((sallyportlaw01_awake.f k1).bind fun t253 => (if t253 = true then (some false) else (some false))))) = some r := H
                          have A91 := Aside0.mk A910
                          clear A910
                          by_cases c92 : t250 = true
                          · subst c92
                            have H1 : ((sallyportlaw01_awake.f k1).bind fun t251 => (if t251 = true then (some false) else (some false))) = some r := by rw [if_pos rfl] at H; exact H
                            clear H
                            have H := H1
                            clear H1
                            replace H := Option.bind_eq_some_iff.mp H
                            obtain ⟨t251, A930, H⟩ := H
                            replace H : (if t251 = true then (some false) else (some false)) = some r := H
                            have A93 := Aside0.mk A930
                            clear A930
                            by_cases c94 : t251 = true
                            · subst c94
                              have H1 : (some false) = some r := by rw [if_pos rfl] at H; exact H
                              clear H
                              have H := H1
                              clear H1
                              obtain rfl := Option.some.inj H
                              exact absurd hr_.out (by decide)
                            · replace c94 := Bool.eq_false_iff.mpr c94
                              subst c94
                              have H1 : (some false) = some r := by rw [if_neg (show ¬ (false = true) by decide)] at H; exact H
                              clear H
                              have H := H1
                              clear H1
                              obtain rfl := Option.some.inj H
                              exact absurd hr_.out (by decide)
                          · replace c92 := Bool.eq_false_iff.mpr c92
                            subst c92
                            have H1 : ((sums_Update.f k1 0 0 0).bind fun t252 => ((sallyportlaw01_awake.f k1).bind fun t253 => (if t253 = true then (some false) else (some false)))) = some r := by rw [if_neg (show ¬ (false = true) by decide)] at H; exact H
                            clear H
                            have H := H1
                            clear H1
                            replace H := Option.bind_eq_some_iff.mp H
                            obtain ⟨t252, A950, H⟩ := H
                            replace H : ((sallyportlaw01_awake.f k1).bind fun t253 => (if t253 = true then (some false) else (some false))) = some r := H
                            have A95 := Aside0.mk A950
                            clear A950
                            replace H := Option.bind_eq_some_iff.mp H
                            obtain ⟨t253, A960, H⟩ := H
                            replace H : (if t253 = true then (some false) else (some false)) = some r := H
                            have A96 := Aside0.mk A960
                            clear A960
                            by_cases c97 : t253 = true
                            · subst c97
                              have H1 : (some false) = some r := by rw [if_pos rfl] at H; exact H
                              clear H
                              have H := H1
                              clear H1
                              obtain rfl := Option.some.inj H
                              exact absurd hr_.out (by decide)
                            · replace c97 := Bool.eq_false_iff.mpr c97
                              subst c97
                              have H1 : (some false) = some r := by rw [if_neg (show ¬ (false = true) by decide)] at H; exact H
                              clear H
                              have H := H1
                              clear H1
                              obtain rfl := Option.some.inj H
                              exact absurd hr_.out (by decide)
                        · rw [if_neg c90] at H
                          have c90b0 : (t249 == 65535) = false := beq_eq_false_iff_ne.mpr c90
                          have c90b1 : (t249 != 65535) = true := bne_iff_ne.mpr c90
                          replace H := Option.bind_eq_some_iff.mp H
                          obtain ⟨t254, A980, H⟩ := H
                          replace H : (if t254 = true then (some false) else (some false)) = some r := H
                          have A98 := Aside0.mk A980
                          clear A980
                          by_cases c99 : t254 = true
                          · subst c99
                            have H1 : (some false) = some r := by rw [if_pos rfl] at H; exact H
                            clear H
                            have H := H1
                            clear H1
                            obtain rfl := Option.some.inj H
                            exact absurd hr_.out (by decide)
                          · replace c99 := Bool.eq_false_iff.mpr c99
                            subst c99
                            have H1 : (some false) = some r := by rw [if_neg (show ¬ (false = true) by decide)] at H; exact H
                            clear H
                            have H := H1
                            clear H1
                            obtain rfl := Option.some.inj H
                            exact absurd hr_.out (by decide)
                      · rw [if_neg c88] at H
                        have c88b0 : (t248 == 65535) = false := beq_eq_false_iff_ne.mpr c88
                        have c88b1 : (t248 != 65535) = true := bne_iff_ne.mpr c88
                        replace H := Option.bind_eq_some_iff.mp H
                        obtain ⟨t255, A1000, H⟩ := H
                        replace H : (if t255 = true then (some false) else (some false)) = some r := H
                        have A100 := Aside0.mk A1000
                        clear A1000
                        by_cases c101 : t255 = true
                        · subst c101
                          have H1 : (some false) = some r := by rw [if_pos rfl] at H; exact H
                          clear H
                          have H := H1
                          clear H1
                          obtain rfl := Option.some.inj H
                          exact absurd hr_.out (by decide)
                        · replace c101 := Bool.eq_false_iff.mpr c101
                          subst c101
                          have H1 : (some false) = some r := by rw [if_neg (show ¬ (false = true) by decide)] at H; exact H
                          clear H
                          have H := H1
                          clear H1
                          obtain rfl := Option.some.inj H
                          exact absurd hr_.out (by decide)
                  · rw [if_neg c22] at H
                    have c22b0 : (t228 == 1) = false := beq_eq_false_iff_ne.mpr c22
                    have c22b1 : (t228 != 1) = true := bne_iff_ne.mpr c22
                    replace H := Option.bind_eq_some_iff.mp H
                    obtain ⟨t256, A1020, H⟩ := H
                    replace H : (if t256 = 65535 then ((sums_Sub.f k1 5 5).bind fun t257 => (if t257 = 65535 then ((sums_Same.f 1 2).bind fun t258 => (if t258 = true then ((sallyportlaw01_awake.f k1).bind fun t259 => (if t259 = true then (some false) else (some false))) else ((sums_Update.f k1 0 0 0).bind fun t260 => ((sallyportlaw01_awake.f k1).bind fun t261 => (if t261 = true then (some false) else (some false)))))) else ((sallyportlaw01_awake.f k1).bind fun t262 => (if t262 = true then (some false) else (some false))))) else ((sallyportlaw01_awake.f k1).bind fun t263 => (if t263 = true then (some false) else (some false)))) = some r := H
                    have A102 := Aside0.mk A1020
                    clear A1020
                    by_cases c103 : t256 = 65535
                    · rw [if_pos c103] at H
                      have c103b0 : (t256 == 65535) = true := beq_iff_eq.mpr c103
                      have c103b1 : (t256 != 65535) = false := bne_eq_false_iff_eq.mpr c103
                      clear c103
                      replace H := Option.bind_eq_some_iff.mp H
                      obtain ⟨t257, A1040, H⟩ := H
                      replace H : (if t257 = 65535 then ((sums_Same.f 1 2).bind fun t258 => (if t258 = true then ((sallyportlaw01_awake.f k1).bind fun t259 => (if t259 = true then (some false) else (some false))) else ((sums_Update.f k1 0 0 0).bind fun t260 => ((sallyportlaw01_awake.f k1).bind fun t261 => (if t261 = true then (some false) else (some false)))))) else ((sallyportlaw01_awake.f k1).bind fun t262 => (if t262 = true then (some false) else (some false)))) = some r := H
                      have A104 := Aside0.mk A1040
                      clear A1040
                      by_cases c105 : t257 = 65535
                      · rw [if_pos c105] at H
                        have c105b0 : (t257 == 65535) = true := beq_iff_eq.mpr c105
                        have c105b1 : (t257 != 65535) = false := bne_eq_false_iff_eq.mpr c105
                        clear c105
                        replace H := Option.bind_eq_some_iff.mp H
                        obtain ⟨t258, A1060, H⟩ := H
                        replace H : (if t258 = true then ((sallyportlaw01_awake.f k1).bind fun t259 => (if t259 = true then (some false) else (some false))) else ((sums_Update.f k1 0 0 0).bind fun t260 => ((sallyportlaw01_awake.f k1).bind fun t261 => (if t261 = true then (some false) else (some false))))) = some r := H
                        have A106 := Aside0.mk A1060
                        clear A1060
                        by_cases c107 : t258 = true
                        · subst c107
                          have H1 : ((sallyportlaw01_awake.f k1).bind fun t259 => (if t259 = true then (some false) else (some false))) = some r := by rw [if_pos rfl] at H; exact H
                          clear H
                          have H := H1
                          clear H1
                          replace H := Option.bind_eq_some_iff.mp H
                          obtain ⟨t259, A1080, H⟩ := H
                          replace H : (if t259 = true then (some false) else (some false)) = some r := H
                          have A108 := Aside0.mk A1080
                          clear A1080
                          by_cases c109 : t259 = true
                          · subst c109
                            have H1 : (some false) = some r := by rw [if_pos rfl] at H; exact H
                            clear H
                            have H := H1
                            clear H1
                            obtain rfl := Option.some.inj H
                            exact absurd hr_.out (by decide)
                          · replace c109 := Bool.eq_false_iff.mpr c109
                            subst c109
                            have H1 : (some false) = some r := by rw [if_neg (show ¬ (false = true) by decide)] at H; exact H
                            clear H
                            have H := H1
                            clear H1
                            obtain rfl := Option.some.inj H
                            exact absurd hr_.out (by decide)
                        · replace c107 := Bool.eq_false_iff.mpr c107
                          subst c107
                          have H1 : ((sums_Update.f k1 0 0 0).bind fun t260 => ((sallyportlaw01_awake.f k1).bind fun t261 => (if t261 = true then (some false) else (some false)))) = some r := by rw [if_neg (show ¬ (false = true) by decide)] at H; exact H
                          clear H
                          have H := H1
                          clear H1
                          replace H := Option.bind_eq_some_iff.mp H
                          obtain ⟨t260, A1100, H⟩ := H
                          replace H : ((sallyportlaw01_awake.f k1).bind fun t261 => (if t261 = true then (some false) else (some false))) = some r := H
                          have A110 := Aside0.mk A1100
                          clear A1100
                          replace H := Option.bind_eq_some_iff.mp H
                          obtain ⟨t261, A1110, H⟩ := H
                          replace H : (if t261 = true then (some false) else (some false)) = some r := H
                          have A111 := Aside0.mk A1110
                          clear A1110
                          by_cases c112 : t261 = true
                          · subst c112
                            have H1 : (some false) = some r := by rw [if_pos rfl] at H; exact H
                            clear H
                            have H := H1
                            clear H1
                            obtain rfl := Option.some.inj H
                            exact absurd hr_.out (by decide)
                          · replace c112 := Bool.eq_false_iff.mpr c112
                            subst c112
                            have H1 : (some false) = some r := by rw [if_neg (show ¬ (false = true) by decide)] at H; exact H
                            clear H
                            have H := H1
                            clear H1
                            obtain rfl := Option.some.inj H
                            exact absurd hr_.out (by decide)
                      · rw [if_neg c105] at H
                        have c105b0 : (t257 == 65535) = false := beq_eq_false_iff_ne.mpr c105
                        have c105b1 : (t257 != 65535) = true := bne_iff_ne.mpr c105
                        replace H := Option.bind_eq_some_iff.mp H
                        obtain ⟨t262, A1130, H⟩ := H
                        replace H : (if t262 = true then (some false) else (some false)) = some r := H
                        have A113 := Aside0.mk A1130
                        clear A1130
                        by_cases c114 : t262 = true
                        · subst c114
                          have H1 : (some false) = some r := by rw [if_pos rfl] at H; exact H
                          clear H
                          have H := H1
                          clear H1
                          obtain rfl := Option.some.inj H
                          exact absurd hr_.out (by decide)
                        · replace c114 := Bool.eq_false_iff.mpr c114
                          subst c114
                          have H1 : (some false) = some r := by rw [if_neg (show ¬ (false = true) by decide)] at H; exact H
                          clear H
                          have H := H1
                          clear H1
                          obtain rfl := Option.some.inj H
                          exact absurd hr_.out (by decide)
                    · rw [if_neg c103] at H
                      have c103b0 : (t256 == 65535) = false := beq_eq_false_iff_ne.mpr c103
                      have c103b1 : (t256 != 65535) = true := bne_iff_ne.mpr c103
                      replace H := Option.bind_eq_some_iff.mp H
                      obtain ⟨t263, A1150, H⟩ := H
                      replace H : (if t263 = true then (some false) else (some false)) = some r := H
                      have A115 := Aside0.mk A1150
                      clear A1150
                      by_cases c116 : t263 = true
                      · subst c116
                        have H1 : (some false) = some r := by rw [if_pos rfl] at H; exact H
                        clear H
                        have H := H1
                        clear H1
                        obtain rfl := Option.some.inj H
                        exact absurd hr_.out (by decide)
                      · replace c116 := Bool.eq_false_iff.mpr c116
                        subst c116
                        have H1 : (some false) = some r := by rw [if_neg (show ¬ (false = true) by decide)] at H; exact H
                        clear H
                        have H := H1
                        clear H1
                        obtain rfl := Option.some.inj H
                        exact absurd hr_.out (by decide)
                · rw [if_neg c20] at H
                  have c20b0 : (t224 == 1) = false := beq_eq_false_iff_ne.mpr c20
                  have c20b1 : (t224 != 1) = true := bne_iff_ne.mpr c20
                  replace H := Option.bind_eq_some_iff.mp H
                  obtain ⟨t264, A1170, H⟩ := H
                  replace H : (if t264 = 65535 then ((sums_Sub.f k1 5 5).bind fun t265 => (if t265 = 65535 then ((sums_Same.f 1 2).bind fun t266 => (if t266 = true then ((sallyportlaw01_awake.f k1).bind fun t267 => (if t267 = true then (some false) else (some false))) else ((sums_Update.f k1 0 0 0).bind fun t268 => ((sallyportlaw01_awake.f k1).bind fun t269 => (if t269 = true then (some false) else (some false)))))) else ((sallyportlaw01_awake.f k1).bind fun t270 => (if t270 = true then (some false) else (some false))))) else ((sallyportlaw01_awake.f k1).bind fun t271 => (if t271 = true then (some false) else (some false)))) = some r := H
                  have A117 := Aside0.mk A1170
                  clear A1170
                  by_cases c118 : t264 = 65535
                  · rw [if_pos c118] at H
                    have c118b0 : (t264 == 65535) = true := beq_iff_eq.mpr c118
                    have c118b1 : (t264 != 65535) = false := bne_eq_false_iff_eq.mpr c118
                    clear c118
                    replace H := Option.bind_eq_some_iff.mp H
                    obtain ⟨t265, A1190, H⟩ := H
                    replace H : (if t265 = 65535 then ((sums_Same.f 1 2).bind fun t266 => (if t266 = true then ((sallyportlaw01_awake.f k1).bind fun t267 => (if t267 = true then (some false) else (some false))) else ((sums_Update.f k1 0 0 0).bind fun t268 => ((sallyportlaw01_awake.f k1).bind fun t269 => (if t269 = true then (some false) else (some false)))))) else ((sallyportlaw01_awake.f k1).bind fun t270 => (if t270 = true then (some false) else (some false)))) = some r := H
                    have A119 := Aside0.mk A1190
                    clear A1190
                    by_cases c120 : t265 = 65535
                    · rw [if_pos c120] at H
                      have c120b0 : (t265 == 65535) = true := beq_iff_eq.mpr c120
                      have c120b1 : (t265 != 65535) = false := bne_eq_false_iff_eq.mpr c120
                      clear c120
                      replace H := Option.bind_eq_some_iff.mp H
                      obtain ⟨t266, A1210, H⟩ := H
                      replace H : (if t266 = true then ((sallyportlaw01_awake.f k1).bind fun t267 => (if t267 = true then (some false) else (some false))) else ((sums_Update.f k1 0 0 0).bind fun t268 => ((sallyportlaw01_awake.f k1).bind fun t269 => (if t269 = true then (some false) else (some false))))) = some r := H
                      have A121 := Aside0.mk A1210
                      clear A1210
                      by_cases c122 : t266 = true
                      · subst c122
                        have H1 : ((sallyportlaw01_awake.f k1).bind fun t267 => (if t267 = true then (some false) else (some false))) = some r := by rw [if_pos rfl] at H; exact H
                        clear H
                        have H := H1
                        clear H1
                        replace H := Option.bind_eq_some_iff.mp H
                        obtain ⟨t267, A1230, H⟩ := H
                        replace H : (if t267 = true then (some false) else (some false)) = some r := H
                        have A123 := Aside0.mk A1230
                        clear A1230
                        by_cases c124 : t267 = true
                        · subst c124
                          have H1 : (some false) = some r := by rw [if_pos rfl] at H; exact H
                          clear H
                          have H := H1
                          clear H1
                          obtain rfl := Option.some.inj H
                          exact absurd hr_.out (by decide)
                        · replace c124 := Bool.eq_false_iff.mpr c124
                          subst c124
                          have H1 : (some false) = some r := by rw [if_neg (show ¬ (false = true) by decide)] at H; exact H
                          clear H
                          have H := H1
                          clear H1
                          obtain rfl := Option.some.inj H
                          exact absurd hr_.out (by decide)
                      · replace c122 := Bool.eq_false_iff.mpr c122
                        subst c122
                        have H1 : ((sums_Update.f k1 0 0 0).bind fun t268 => ((sallyportlaw01_awake.f k1).bind fun t269 => (if t269 = true then (some false) else (some false)))) = some r := by rw [if_neg (show ¬ (false = true) by decide)] at H; exact H
                        clear H
                        have H := H1
                        clear H1
                        replace H := Option.bind_eq_some_iff.mp H
                        obtain ⟨t268, A1250, H⟩ := H
                        replace H : ((sallyportlaw01_awake.f k1).bind fun t269 => (if t269 = true then (some false) else (some false))) = some r := H
                        have A125 := Aside0.mk A1250
                        clear A1250
                        replace H := Option.bind_eq_some_iff.mp H
                        obtain ⟨t269, A1260, H⟩ := H
                        replace H : (if t269 = true then (some false) else (some false)) = some r := H
                        have A126 := Aside0.mk A1260
                        clear A1260
                        by_cases c127 : t269 = true
                        · subst c127
                          have H1 : (some false) = some r := by rw [if_pos rfl] at H; exact H
                          clear H
                          have H := H1
                          clear H1
                          obtain rfl := Option.some.inj H
                          exact absurd hr_.out (by decide)
                        · replace c127 := Bool.eq_false_iff.mpr c127
                          subst c127
                          have H1 : (some false) = some r := by rw [if_neg (show ¬ (false = true) by decide)] at H; exact H
                          clear H
                          have H := H1
                          clear H1
                          obtain rfl := Option.some.inj H
                          exact absurd hr_.out (by decide)
                    · rw [if_neg c120] at H
                      have c120b0 : (t265 == 65535) = false := beq_eq_false_iff_ne.mpr c120
                      have c120b1 : (t265 != 65535) = true := bne_iff_ne.mpr c120
                      replace H := Option.bind_eq_some_iff.mp H
                      obtain ⟨t270, A1280, H⟩ := H
                      replace H : (if t270 = true then (some false) else (some false)) = some r := H
                      have A128 := Aside0.mk A1280
                      clear A1280
                      by_cases c129 : t270 = true
                      · subst c129
                        have H1 : (some false) = some r := by rw [if_pos rfl] at H; exact H
                        clear H
                        have H := H1
                        clear H1
                        obtain rfl := Option.some.inj H
                        exact absurd hr_.out (by decide)
                      · replace c129 := Bool.eq_false_iff.mpr c129
                        subst c129
                        have H1 : (some false) = some r := by rw [if_neg (show ¬ (false = true) by decide)] at H; exact H
                        clear H
                        have H := H1
                        clear H1
                        obtain rfl := Option.some.inj H
                        exact absurd hr_.out (by decide)
                  · rw [if_neg c118] at H
                    have c118b0 : (t264 == 65535) = false := beq_eq_false_iff_ne.mpr c118
                    have c118b1 : (t264 != 65535) = true := bne_iff_ne.mpr c118
                    replace H := Option.bind_eq_some_iff.mp H
                    obtain ⟨t271, A1300, H⟩ := H
                    replace H : (if t271 = true then (some false) else (some false)) = some r := H
                    have A130 := Aside0.mk A1300
                    clear A1300
                    by_cases c131 : t271 = true
                    · subst c131
                      have H1 : (some false) = some r := by rw [if_pos rfl] at H; exact H
                      clear H
                      have H := H1
                      clear H1
                      obtain rfl := Option.some.inj H
                      exact absurd hr_.out (by decide)
                    · replace c131 := Bool.eq_false_iff.mpr c131
                      subst c131
                      have H1 : (some false) = some r := by rw [if_neg (show ¬ (false = true) by decide)] at H; exact H
                      clear H
                      have H := H1
                      clear H1
                      obtain rfl := Option.some.inj H
                      exact absurd hr_.out (by decide)
              · rw [if_neg c18] at H
                have c18b0 : (t220 == 65535) = false := beq_eq_false_iff_ne.mpr c18
                have c18b1 : (t220 != 65535) = true := bne_iff_ne.mpr c18
                replace H := Option.bind_eq_some_iff.mp H
                obtain ⟨t272, A1320, H⟩ := H
                replace H : (if t272 = 65535 then ((sums_Sub.f k1 5 5).bind fun t273 => (if t273 = 65535 then ((sums_Same.f 1 2).bind fun t274 => (if t274 = true then ((sallyportlaw01_awake.f k1).bind fun t275 => (if t275 = true then (some false) else (some false))) else ((sums_Update.f k1 0 0 0).bind fun t276 => ((sallyportlaw01_awake.f k1).bind fun t277 => (if t277 = true then (some false) else (some false)))))) else ((sallyportlaw01_awake.f k1).bind fun t278 => (if t278 = true then (some false) else (some false))))) else ((sallyportlaw01_awake.f k1).bind fun t279 => (if t279 = true then (some false) else (some false)))) = some r := H
                have A132 := Aside0.mk A1320
                clear A1320
                by_cases c133 : t272 = 65535
                · rw [if_pos c133] at H
                  have c133b0 : (t272 == 65535) = true := beq_iff_eq.mpr c133
                  have c133b1 : (t272 != 65535) = false := bne_eq_false_iff_eq.mpr c133
                  clear c133
                  replace H := Option.bind_eq_some_iff.mp H
                  obtain ⟨t273, A1340, H⟩ := H
                  replace H : (if t273 = 65535 then ((sums_Same.f 1 2).bind fun t274 => (if t274 = true then ((sallyportlaw01_awake.f k1).bind fun t275 => (if t275 = true then (some false) else (some false))) else ((sums_Update.f k1 0 0 0).bind fun t276 => ((sallyportlaw01_awake.f k1).bind fun t277 => (if t277 = true then (some false) else (some false)))))) else ((sallyportlaw01_awake.f k1).bind fun t278 => (if t278 = true then (some false) else (some false)))) = some r := H
                  have A134 := Aside0.mk A1340
                  clear A1340
                  by_cases c135 : t273 = 65535
                  · rw [if_pos c135] at H
                    have c135b0 : (t273 == 65535) = true := beq_iff_eq.mpr c135
                    have c135b1 : (t273 != 65535) = false := bne_eq_false_iff_eq.mpr c135
                    clear c135
                    replace H := Option.bind_eq_some_iff.mp H
                    obtain ⟨t274, A1360, H⟩ := H
                    replace H : (if t274 = true then ((sallyportlaw01_awake.f k1).bind fun t275 => (if t275 = true then (some false) else (some false))) else ((sums_Update.f k1 0 0 0).bind fun t276 => ((sallyportlaw01_awake.f k1).bind fun t277 => (if t277 = true then (some false) else (some false))))) = some r := H
                    have A136 := Aside0.mk A1360
                    clear A1360
                    by_cases c137 : t274 = true
                    · subst c137
                      have H1 : ((sallyportlaw01_awake.f k1).bind fun t275 => (if t275 = true then (some false) else (some false))) = some r := by rw [if_pos rfl] at H; exact H
                      clear H
                      have H := H1
                      clear H1
                      replace H := Option.bind_eq_some_iff.mp H
                      obtain ⟨t275, A1380, H⟩ := H
                      replace H : (if t275 = true then (some false) else (some false)) = some r := H
                      have A138 := Aside0.mk A1380
                      clear A1380
                      by_cases c139 : t275 = true
                      · subst c139
                        have H1 : (some false) = some r := by rw [if_pos rfl] at H; exact H
                        clear H
                        have H := H1
                        clear H1
                        obtain rfl := Option.some.inj H
                        exact absurd hr_.out (by decide)
                      · replace c139 := Bool.eq_false_iff.mpr c139
                        subst c139
                        have H1 : (some false) = some r := by rw [if_neg (show ¬ (false = true) by decide)] at H; exact H
                        clear H
                        have H := H1
                        clear H1
                        obtain rfl := Option.some.inj H
                        exact absurd hr_.out (by decide)
                    · replace c137 := Bool.eq_false_iff.mpr c137
                      subst c137
                      have H1 : ((sums_Update.f k1 0 0 0).bind fun t276 => ((sallyportlaw01_awake.f k1).bind fun t277 => (if t277 = true then (some false) else (some false)))) = some r := by rw [if_neg (show ¬ (false = true) by decide)] at H; exact H
                      clear H
                      have H := H1
                      clear H1
                      replace H := Option.bind_eq_some_iff.mp H
                      obtain ⟨t276, A1400, H⟩ := H
                      replace H : ((sallyportlaw01_awake.f k1).bind fun t277 => (if t277 = true then (some false) else (some false))) = some r := H
                      have A140 := Aside0.mk A1400
                      clear A1400
                      replace H := Option.bind_eq_some_iff.mp H
                      obtain ⟨t277, A1410, H⟩ := H
                      replace H : (if t277 = true then (some false) else (some false)) = some r := H
                      have A141 := Aside0.mk A1410
                      clear A1410
                      by_cases c142 : t277 = true
                      · subst c142
                        have H1 : (some false) = some r := by rw [if_pos rfl] at H; exact H
                        clear H
                        have H := H1
                        clear H1
                        obtain rfl := Option.some.inj H
                        exact absurd hr_.out (by decide)
                      · replace c142 := Bool.eq_false_iff.mpr c142
                        subst c142
                        have H1 : (some false) = some r := by rw [if_neg (show ¬ (false = true) by decide)] at H; exact H
                        clear H
                        have H := H1
                        clear H1
                        obtain rfl := Option.some.inj H
                        exact absurd hr_.out (by decide)
                  · rw [if_neg c135] at H
                    have c135b0 : (t273 == 65535) = false := beq_eq_false_iff_ne.mpr c135
                    have c135b1 : (t273 != 65535) = true := bne_iff_ne.mpr c135
                    replace H := Option.bind_eq_some_iff.mp H
                    obtain ⟨t278, A1430, H⟩ := H
                    replace H : (if t278 = true then (some false) else (some false)) = some r := H
                    have A143 := Aside0.mk A1430
                    clear A1430
                    by_cases c144 : t278 = true
                    · subst c144
                      have H1 : (some false) = some r := by rw [if_pos rfl] at H; exact H
                      clear H
                      have H := H1
                      clear H1
                      obtain rfl := Option.some.inj H
                      exact absurd hr_.out (by decide)
                    · replace c144 := Bool.eq_false_iff.mpr c144
                      subst c144
                      have H1 : (some false) = some r := by rw [if_neg (show ¬ (false = true) by decide)] at H; exact H
                      clear H
                      have H := H1
                      clear H1
                      obtain rfl := Option.some.inj H
                      exact absurd hr_.out (by decide)
                · rw [if_neg c133] at H
                  have c133b0 : (t272 == 65535) = false := beq_eq_false_iff_ne.mpr c133
                  have c133b1 : (t272 != 65535) = true := bne_iff_ne.mpr c133
                  replace H := Option.bind_eq_some_iff.mp H
                  obtain ⟨t279, A1450, H⟩ := H
                  replace H : (if t279 = true then (some false) else (some false)) = some r := H
                  have A145 := Aside0.mk A1450
                  clear A1450
                  by_cases c146 : t279 = true
                  · subst c146
                    have H1 : (some false) = some r := by rw [if_pos rfl] at H; exact H
                    clear H
                    have H := H1
                    clear H1
                    obtain rfl := Option.some.inj H
                    exact absurd hr_.out (by decide)
                  · replace c146 := Bool.eq_false_iff.mpr c146
                    subst c146
                    have H1 : (some false) = some r := by rw [if_neg (show ¬ (false = true) by decide)] at H; exact H
                    clear H
                    have H := H1
                    clear H1
                    obtain rfl := Option.some.inj H
                    exact absurd hr_.out (by decide)
            · rw [if_neg c16] at H
              have c16b0 : (t216 == 258) = false := beq_eq_false_iff_ne.mpr c16
              have c16b1 : (t216 != 258) = true := bne_iff_ne.mpr c16
              replace H := Option.bind_eq_some_iff.mp H
              obtain ⟨t280, A1470, H⟩ := H
              replace H : (if t280 = 65535 then ((sums_Sub.f k1 5 5).bind fun t281 => (if t281 = 65535 then ((sums_Same.f 1 2).bind fun t282 => (if t282 = true then ((sallyportlaw01_awake.f k1).bind fun t283 => (if t283 = true then (some false) else (some false))) else ((sums_Update.f k1 0 0 0).bind fun t284 => ((sallyportlaw01_awake.f k1).bind fun t285 => (if t285 = true then (some false) else (some false)))))) else ((sallyportlaw01_awake.f k1).bind fun t286 => (if t286 = true then (some false) else (some false))))) else ((sallyportlaw01_awake.f k1).bind fun t287 => (if t287 = true then (some false) else (some false)))) = some r := H
              have A147 := Aside0.mk A1470
              clear A1470
              by_cases c148 : t280 = 65535
              · rw [if_pos c148] at H
                have c148b0 : (t280 == 65535) = true := beq_iff_eq.mpr c148
                have c148b1 : (t280 != 65535) = false := bne_eq_false_iff_eq.mpr c148
                clear c148
                replace H := Option.bind_eq_some_iff.mp H
                obtain ⟨t281, A1490, H⟩ := H
                replace H : (if t281 = 65535 then ((sums_Same.f 1 2).bind fun t282 => (if t282 = true then ((sallyportlaw01_awake.f k1).bind fun t283 => (if t283 = true then (some false) else (some false))) else ((sums_Update.f k1 0 0 0).bind fun t284 => ((sallyportlaw01_awake.f k1).bind fun t285 => (if t285 = true then (some false) else (some false)))))) else ((sallyportlaw01_awake.f k1).bind fun t286 => (if t286 = true then (some false) else (some false)))) = some r := H
                have A149 := Aside0.mk A1490
                clear A1490
                by_cases c150 : t281 = 65535
                · rw [if_pos c150] at H
                  have c150b0 : (t281 == 65535) = true := beq_iff_eq.mpr c150
                  have c150b1 : (t281 != 65535) = false := bne_eq_false_iff_eq.mpr c150
                  clear c150
                  replace H := Option.bind_eq_some_iff.mp H
                  obtain ⟨t282, A1510, H⟩ := H
                  replace H : (if t282 = true then ((sallyportlaw01_awake.f k1).bind fun t283 => (if t283 = true then (some false) else (some false))) else ((sums_Update.f k1 0 0 0).bind fun t284 => ((sallyportlaw01_awake.f k1).bind fun t285 => (if t285 = true then (some false) else (some false))))) = some r := H
                  have A151 := Aside0.mk A1510
                  clear A1510
                  by_cases c152 : t282 = true
                  · subst c152
                    have H1 : ((sallyportlaw01_awake.f k1).bind fun t283 => (if t283 = true then (some false) else (some false))) = some r := by rw [if_pos rfl] at H; exact H
                    clear H
                    have H := H1
                    clear H1
                    replace H := Option.bind_eq_some_iff.mp H
                    obtain ⟨t283, A1530, H⟩ := H
                    replace H : (if t283 = true then (some false) else (some false)) = some r := H
                    have A153 := Aside0.mk A1530
                    clear A1530
                    by_cases c154 : t283 = true
                    · subst c154
                      have H1 : (some false) = some r := by rw [if_pos rfl] at H; exact H
                      clear H
                      have H := H1
                      clear H1
                      obtain rfl := Option.some.inj H
                      exact absurd hr_.out (by decide)
                    · replace c154 := Bool.eq_false_iff.mpr c154
                      subst c154
                      have H1 : (some false) = some r := by rw [if_neg (show ¬ (false = true) by decide)] at H; exact H
                      clear H
                      have H := H1
                      clear H1
                      obtain rfl := Option.some.inj H
                      exact absurd hr_.out (by decide)
                  · replace c152 := Bool.eq_false_iff.mpr c152
                    subst c152
                    have H1 : ((sums_Update.f k1 0 0 0).bind fun t284 => ((sallyportlaw01_awake.f k1).bind fun t285 => (if t285 = true then (some false) else (some false)))) = some r := by rw [if_neg (show ¬ (false = true) by decide)] at H; exact H
                    clear H
                    have H := H1
                    clear H1
                    replace H := Option.bind_eq_some_iff.mp H
                    obtain ⟨t284, A1550, H⟩ := H
                    replace H : ((sallyportlaw01_awake.f k1).bind fun t285 => (if t285 = true then (some false) else (some false))) = some r := H
                    have A155 := Aside0.mk A1550
                    clear A1550
                    replace H := Option.bind_eq_some_iff.mp H
                    obtain ⟨t285, A1560, H⟩ := H
                    replace H : (if t285 = true then (some false) else (some false)) = some r := H
                    have A156 := Aside0.mk A1560
                    clear A1560
                    by_cases c157 : t285 = true
                    · subst c157
                      have H1 : (some false) = some r := by rw [if_pos rfl] at H; exact H
                      clear H
                      have H := H1
                      clear H1
                      obtain rfl := Option.some.inj H
                      exact absurd hr_.out (by decide)
                    · replace c157 := Bool.eq_false_iff.mpr c157
                      subst c157
                      have H1 : (some false) = some r := by rw [if_neg (show ¬ (false = true) by decide)] at H; exact H
                      clear H
                      have H := H1
                      clear H1
                      obtain rfl := Option.some.inj H
                      exact absurd hr_.out (by decide)
                · rw [if_neg c150] at H
                  have c150b0 : (t281 == 65535) = false := beq_eq_false_iff_ne.mpr c150
                  have c150b1 : (t281 != 65535) = true := bne_iff_ne.mpr c150
                  replace H := Option.bind_eq_some_iff.mp H
                  obtain ⟨t286, A1580, H⟩ := H
                  replace H : (if t286 = true then (some false) else (some false)) = some r := H
                  have A158 := Aside0.mk A1580
                  clear A1580
                  by_cases c159 : t286 = true
                  · subst c159
                    have H1 : (some false) = some r := by rw [if_pos rfl] at H; exact H
                    clear H
                    have H := H1
                    clear H1
                    obtain rfl := Option.some.inj H
                    exact absurd hr_.out (by decide)
                  · replace c159 := Bool.eq_false_iff.mpr c159
                    subst c159
                    have H1 : (some false) = some r := by rw [if_neg (show ¬ (false = true) by decide)] at H; exact H
                    clear H
                    have H := H1
                    clear H1
                    obtain rfl := Option.some.inj H
                    exact absurd hr_.out (by decide)
              · rw [if_neg c148] at H
                have c148b0 : (t280 == 65535) = false := beq_eq_false_iff_ne.mpr c148
                have c148b1 : (t280 != 65535) = true := bne_iff_ne.mpr c148
                replace H := Option.bind_eq_some_iff.mp H
                obtain ⟨t287, A1600, H⟩ := H
                replace H : (if t287 = true then (some false) else (some false)) = some r := H
                have A160 := Aside0.mk A1600
                clear A1600
                by_cases c161 : t287 = true
                · subst c161
                  have H1 : (some false) = some r := by rw [if_pos rfl] at H; exact H
                  clear H
                  have H := H1
                  clear H1
                  obtain rfl := Option.some.inj H
                  exact absurd hr_.out (by decide)
                · replace c161 := Bool.eq_false_iff.mpr c161
                  subst c161
                  have H1 : (some false) = some r := by rw [if_neg (show ¬ (false = true) by decide)] at H; exact H
                  clear H
                  have H := H1
                  clear H1
                  obtain rfl := Option.some.inj H
                  exact absurd hr_.out (by decide)
          · rw [if_neg c14] at H
            have c14b0 : (t212 == 0) = false := beq_eq_false_iff_ne.mpr c14
            have c14b1 : (t212 != 0) = true := bne_iff_ne.mpr c14
            replace H := Option.bind_eq_some_iff.mp H
            obtain ⟨t288, A1620, H⟩ := H
            replace H : (if t288 = 65535 then ((sums_Sub.f k1 5 5).bind fun t289 => (if t289 = 65535 then ((sums_Same.f 1 2).bind fun t290 => (if t290 = true then ((sallyportlaw01_awake.f k1).bind fun t291 => (if t291 = true then (some false) else (some false))) else ((sums_Update.f k1 0 0 0).bind fun t292 => ((sallyportlaw01_awake.f k1).bind fun t293 => (if t293 = true then (some false) else (some false)))))) else ((sallyportlaw01_awake.f k1).bind fun t294 => (if t294 = true then (some false) else (some false))))) else ((sallyportlaw01_awake.f k1).bind fun t295 => (if t295 = true then (some false) else (some false)))) = some r := H
            have A162 := Aside0.mk A1620
            clear A1620
            by_cases c163 : t288 = 65535
            · rw [if_pos c163] at H
              have c163b0 : (t288 == 65535) = true := beq_iff_eq.mpr c163
              have c163b1 : (t288 != 65535) = false := bne_eq_false_iff_eq.mpr c163
              clear c163
              replace H := Option.bind_eq_some_iff.mp H
              obtain ⟨t289, A1640, H⟩ := H
              replace H : (if t289 = 65535 then ((sums_Same.f 1 2).bind fun t290 => (if t290 = true then ((sallyportlaw01_awake.f k1).bind fun t291 => (if t291 = true then (some false) else (some false))) else ((sums_Update.f k1 0 0 0).bind fun t292 => ((sallyportlaw01_awake.f k1).bind fun t293 => (if t293 = true then (some false) else (some false)))))) else ((sallyportlaw01_awake.f k1).bind fun t294 => (if t294 = true then (some false) else (some false)))) = some r := H
              have A164 := Aside0.mk A1640
              clear A1640
              by_cases c165 : t289 = 65535
              · rw [if_pos c165] at H
                have c165b0 : (t289 == 65535) = true := beq_iff_eq.mpr c165
                have c165b1 : (t289 != 65535) = false := bne_eq_false_iff_eq.mpr c165
                clear c165
                replace H := Option.bind_eq_some_iff.mp H
                obtain ⟨t290, A1660, H⟩ := H
                replace H : (if t290 = true then ((sallyportlaw01_awake.f k1).bind fun t291 => (if t291 = true then (some false) else (some false))) else ((sums_Update.f k1 0 0 0).bind fun t292 => ((sallyportlaw01_awake.f k1).bind fun t293 => (if t293 = true then (some false) else (some false))))) = some r := H
                have A166 := Aside0.mk A1660
                clear A1660
                by_cases c167 : t290 = true
                · subst c167
                  have H1 : ((sallyportlaw01_awake.f k1).bind fun t291 => (if t291 = true then (some false) else (some false))) = some r := by rw [if_pos rfl] at H; exact H
                  clear H
                  have H := H1
                  clear H1
                  replace H := Option.bind_eq_some_iff.mp H
                  obtain ⟨t291, A1680, H⟩ := H
                  replace H : (if t291 = true then (some false) else (some false)) = some r := H
                  have A168 := Aside0.mk A1680
                  clear A1680
                  by_cases c169 : t291 = true
                  · subst c169
                    have H1 : (some false) = some r := by rw [if_pos rfl] at H; exact H
                    clear H
                    have H := H1
                    clear H1
                    obtain rfl := Option.some.inj H
                    exact absurd hr_.out (by decide)
                  · replace c169 := Bool.eq_false_iff.mpr c169
                    subst c169
                    have H1 : (some false) = some r := by rw [if_neg (show ¬ (false = true) by decide)] at H; exact H
                    clear H
                    have H := H1
                    clear H1
                    obtain rfl := Option.some.inj H
                    exact absurd hr_.out (by decide)
                · replace c167 := Bool.eq_false_iff.mpr c167
                  subst c167
                  have H1 : ((sums_Update.f k1 0 0 0).bind fun t292 => ((sallyportlaw01_awake.f k1).bind fun t293 => (if t293 = true then (some false) else (some false)))) = some r := by rw [if_neg (show ¬ (false = true) by decide)] at H; exact H
                  clear H
                  have H := H1
                  clear H1
                  replace H := Option.bind_eq_some_iff.mp H
                  obtain ⟨t292, A1700, H⟩ := H
                  replace H : ((sallyportlaw01_awake.f k1).bind fun t293 => (if t293 = true then (some false) else (some false))) = some r := H
                  have A170 := Aside0.mk A1700
                  clear A1700
                  replace H := Option.bind_eq_some_iff.mp H
                  obtain ⟨t293, A1710, H⟩ := H
                  replace H : (if t293 = true then (some false) else (some false)) = some r := H
                  have A171 := Aside0.mk A1710
                  clear A1710
                  by_cases c172 : t293 = true
                  · subst c172
                    have H1 : (some false) = some r := by rw [if_pos rfl] at H; exact H
                    clear H
                    have H := H1
                    clear H1
                    obtain rfl := Option.some.inj H
                    exact absurd hr_.out (by decide)
                  · replace c172 := Bool.eq_false_iff.mpr c172
                    subst c172
                    have H1 : (some false) = some r := by rw [if_neg (show ¬ (false = true) by decide)] at H; exact H
                    clear H
                    have H := H1
                    clear H1
                    obtain rfl := Option.some.inj H
                    exact absurd hr_.out (by decide)
              · rw [if_neg c165] at H
                have c165b0 : (t289 == 65535) = false := beq_eq_false_iff_ne.mpr c165
                have c165b1 : (t289 != 65535) = true := bne_iff_ne.mpr c165
                replace H := Option.bind_eq_some_iff.mp H
                obtain ⟨t294, A1730, H⟩ := H
                replace H : (if t294 = true then (some false) else (some false)) = some r := H
                have A173 := Aside0.mk A1730
                clear A1730
                by_cases c174 : t294 = true
                · subst c174
                  have H1 : (some false) = some r := by rw [if_pos rfl] at H; exact H
                  clear H
                  have H := H1
                  clear H1
                  obtain rfl := Option.some.inj H
                  exact absurd hr_.out (by decide)
                · replace c174 := Bool.eq_false_iff.mpr c174
                  subst c174
                  have H1 : (some false) = some r := by rw [if_neg (show ¬ (false = true) by decide)] at H; exact H
                  clear H
                  have H := H1
                  clear H1
                  obtain rfl := Option.some.inj H
                  exact absurd hr_.out (by decide)
            · rw [if_neg c163] at H
              have c163b0 : (t288 == 65535) = false := beq_eq_false_iff_ne.mpr c163
              have c163b1 : (t288 != 65535) = true := bne_iff_ne.mpr c163
              replace H := Option.bind_eq_some_iff.mp H
              obtain ⟨t295, A1750, H⟩ := H
              replace H : (if t295 = true then (some false) else (some false)) = some r := H
              have A175 := Aside0.mk A1750
              clear A1750
              by_cases c176 : t295 = true
              · subst c176
                have H1 : (some false) = some r := by rw [if_pos rfl] at H; exact H
                clear H
                have H := H1
                clear H1
                obtain rfl := Option.some.inj H
                exact absurd hr_.out (by decide)
              · replace c176 := Bool.eq_false_iff.mpr c176
                subst c176
                have H1 : (some false) = some r := by rw [if_neg (show ¬ (false = true) by decide)] at H; exact H
                clear H
                have H := H1
                clear H1
                obtain rfl := Option.some.inj H
                exact absurd hr_.out (by decide)
  · rw [if_neg c1] at H
    exact absurd H (by simp)

/-- THE ONE PURE STATEMENT of sallyportlaw01_SumsNames: yours. -/
def sallyportlaw01_SumsNames.Pure : Prop := ∃ k, sallyportlaw01_SumsNames.f k  = some true
theorem sallyportlaw01_SumsNames.walk (P : sallyportlaw01_SumsNames.Pure)  (w : World)  :
    Calls Try.prog 9 #[] w fun e w' => e = .returned (.bool true) ∧ Below w.heap.size w w' := by
  obtain ⟨k, h⟩ := P  
  refine (sallyportlaw01_SumsNames.calls k  true ⟨rfl⟩ w h).mono ?_
  rintro e w' ⟨rfl, hd⟩
  exact ⟨rfl, hd⟩

end Go.Proofs.Ytlgiibchnnaceaa.P
