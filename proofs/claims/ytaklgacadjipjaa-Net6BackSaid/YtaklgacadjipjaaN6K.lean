/- Sx laws of layer 8: there and back: the tree's leaves are true. Conditions: none. -/
import Derived.Test.YtaklgacadjipjaaN6R
import Derived.Test.YtaklgacadjipjaaTN6Back
set_option linter.unusedVariables false
set_option linter.unusedSimpArgs false
namespace Go.Proofs.Ytaklgacadjipjaa.Sx
open Go
theorem n6back_ok : TmplOk Go.Proofs.Try.prog (fun _ _ _ _ => .i 0) 10 tN6Back := by
  refine tmpl_of cons6_ok treeN6Back_is (fun ρ res hres => ⟨eqJ, ?_⟩)
  obtain ⟨hk, hres⟩ := inKs_some hres
  obtain ⟨_, hres⟩ := short_some hres
  obtain ⟨_, hres⟩ := bytes_some hres
  obtain ⟨h0, hres⟩ := short_some hres
  obtain ⟨hb, hres⟩ := bytes_some hres
  obtain rfl := ret_some hres
  have v0 := hk 0 .u8 rfl
  have v1 := hk 1 .u32 rfl
  simp only [kmin, kmax, Nat.zero_add] at v0 v1
  have b0 := byte_rd hb 0
  have b1 := byte_rd hb 1
  have b2 := byte_rd hb 2
  have b3 := byte_rd hb 3
  have b4 := byte_rd hb 4
  have b5 := byte_rd hb 5
  refine ⟨fun c1 => ?_, fun c1 => ⟨fun c2 => ?_, fun c2 => ⟨fun c3 => ?_, fun c3 => ?_⟩⟩⟩
  · refine ⟨fun d1 => leaf_true rfl (by decide), fun d1 => ⟨fun d2 => leaf_true rfl (by decide), fun d2 => ⟨fun d3 => leaf_true rfl (by decide), fun d3 => ⟨fun d4 => leaf_true rfl (by decide), fun d4 => ⟨fun d5 => ?_, fun d5 => ?_⟩⟩⟩⟩⟩
    · exfalso
      simp at d1 d2 d5
      omega
    · refine leaf_true ?_ (by decide)
      simp at d1 d2 d3 d5
      refine decide_eq_true ?_
      refine Eq.trans (b := ((ρ 37).list.drop 0).take 40) ?_ rfl
      have hl : 40 ≤ (ρ 37).list.length := by omega
      refine (cons_take (by omega) ?_ (cons_take (by omega) ?_ (cons_take (by omega) ?_ (cons_take (by omega) ?_ (cons_take (by omega) ?_ (cons_take (by omega) ?_ (cons_take (by omega) ?_ (cons_take (by omega) ?_ (cons_take (by omega) ?_ (cons_take (by omega) ?_ (cons_take (by omega) ?_ (cons_take (by omega) ?_ (cons_take (by omega) ?_ (cons_take (by omega) ?_ (cons_take (by omega) ?_ (cons_take (by omega) ?_ (cons_take (by omega) ?_ (cons_take (by omega) ?_ (cons_take (by omega) ?_ (cons_take (by omega) ?_ (cons_take (by omega) ?_ (cons_take (by omega) ?_ (cons_take (by omega) ?_ (cons_take (by omega) ?_ (cons_take (by omega) ?_ (cons_take (by omega) ?_ (cons_take (by omega) ?_ (cons_take (by omega) ?_ (cons_take (by omega) ?_ (cons_take (by omega) ?_ (cons_take (by omega) ?_ (cons_take (by omega) ?_ (cons_take (by omega) ?_ (cons_take (by omega) ?_ (cons_take (by omega) ?_ (cons_take (by omega) ?_ (cons_take (by omega) ?_ (cons_take (by omega) ?_ (cons_take (by omega) ?_ (cons_take (by omega) ?_ (nil_take _ _)))))))))))))))))))))))))))))))))))))))))
      all_goals first | rfl | (simp; omega)
  · refine ⟨fun d1 => leaf_true rfl (by decide), fun d1 => ⟨fun d2 => leaf_true rfl (by decide), fun d2 => ⟨fun d3 => leaf_true rfl (by decide), fun d3 => ⟨fun d4 => leaf_true rfl (by decide), fun d4 => ⟨fun d5 => ?_, fun d5 => ?_⟩⟩⟩⟩⟩
    · exfalso
      simp at d1 d2 d5
      omega
    · refine leaf_true ?_ (by decide)
      simp at d1 d2 d3 d5
      refine decide_eq_true ?_
      refine Eq.trans (b := ((ρ 37).list.drop 0).take 40) ?_ rfl
      have hl : 40 ≤ (ρ 37).list.length := by omega
      refine (cons_take (by omega) ?_ (cons_take (by omega) ?_ (cons_take (by omega) ?_ (cons_take (by omega) ?_ (cons_take (by omega) ?_ (cons_take (by omega) ?_ (cons_take (by omega) ?_ (cons_take (by omega) ?_ (cons_take (by omega) ?_ (cons_take (by omega) ?_ (cons_take (by omega) ?_ (cons_take (by omega) ?_ (cons_take (by omega) ?_ (cons_take (by omega) ?_ (cons_take (by omega) ?_ (cons_take (by omega) ?_ (cons_take (by omega) ?_ (cons_take (by omega) ?_ (cons_take (by omega) ?_ (cons_take (by omega) ?_ (cons_take (by omega) ?_ (cons_take (by omega) ?_ (cons_take (by omega) ?_ (cons_take (by omega) ?_ (cons_take (by omega) ?_ (cons_take (by omega) ?_ (cons_take (by omega) ?_ (cons_take (by omega) ?_ (cons_take (by omega) ?_ (cons_take (by omega) ?_ (cons_take (by omega) ?_ (cons_take (by omega) ?_ (cons_take (by omega) ?_ (cons_take (by omega) ?_ (cons_take (by omega) ?_ (cons_take (by omega) ?_ (cons_take (by omega) ?_ (cons_take (by omega) ?_ (cons_take (by omega) ?_ (cons_take (by omega) ?_ (nil_take _ _)))))))))))))))))))))))))))))))))))))))))
      all_goals first | rfl | (simp; omega)
  · exfalso
    simp at c1 c3
    omega
  · refine ⟨fun d1 => leaf_true rfl (by decide), fun d1 => ⟨fun d2 => leaf_true rfl (by decide), fun d2 => ⟨fun d3 => leaf_true rfl (by decide), fun d3 => ⟨fun d4 => leaf_true rfl (by decide), fun d4 => ⟨fun d5 => ?_, fun d5 => ?_⟩⟩⟩⟩⟩
    · exfalso
      simp at d1 d2 d5
      omega
    · refine leaf_true ?_ (by decide)
      simp at d1 d2 d3 d5
      refine decide_eq_true ?_
      refine Eq.trans (b := ((ρ 37).list.drop 0).take 40) ?_ rfl
      have hl : 40 ≤ (ρ 37).list.length := by omega
      refine (cons_take (by omega) ?_ (cons_take (by omega) ?_ (cons_take (by omega) ?_ (cons_take (by omega) ?_ (cons_take (by omega) ?_ (cons_take (by omega) ?_ (cons_take (by omega) ?_ (cons_take (by omega) ?_ (cons_take (by omega) ?_ (cons_take (by omega) ?_ (cons_take (by omega) ?_ (cons_take (by omega) ?_ (cons_take (by omega) ?_ (cons_take (by omega) ?_ (cons_take (by omega) ?_ (cons_take (by omega) ?_ (cons_take (by omega) ?_ (cons_take (by omega) ?_ (cons_take (by omega) ?_ (cons_take (by omega) ?_ (cons_take (by omega) ?_ (cons_take (by omega) ?_ (cons_take (by omega) ?_ (cons_take (by omega) ?_ (cons_take (by omega) ?_ (cons_take (by omega) ?_ (cons_take (by omega) ?_ (cons_take (by omega) ?_ (cons_take (by omega) ?_ (cons_take (by omega) ?_ (cons_take (by omega) ?_ (cons_take (by omega) ?_ (cons_take (by omega) ?_ (cons_take (by omega) ?_ (cons_take (by omega) ?_ (cons_take (by omega) ?_ (cons_take (by omega) ?_ (cons_take (by omega) ?_ (cons_take (by omega) ?_ (cons_take (by omega) ?_ (nil_take _ _)))))))))))))))))))))))))))))))))))))))))
      all_goals first | rfl | (simp; omega)
end Go.Proofs.Ytaklgacadjipjaa.Sx
