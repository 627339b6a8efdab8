/- Sx laws of layer 8: reading: the tree's leaves are true. Conditions: none. -/
import Derived.Test.YtaklgacadjipjaaMx
import Derived.Test.YtaklgacadjipjaaTN6Reads
import Derived.Test.YtaklgacadjipjaaTN6Awake
import Derived.Test.YtaklgacadjipjaaTEq
set_option linter.unusedVariables false
set_option linter.unusedSimpArgs false
namespace Go.Proofs.Ytaklgacadjipjaa.Sx
open Go
theorem consEq_ok : ConsOk Go.Proofs.Try.prog (fun _ _ _ _ => .i 0) consEq := moreCons (con_ok (eq_ok treeEq_is)) noCons
theorem awake_ok : TmplOk Go.Proofs.Try.prog (fun _ _ _ _ => .i 0) 32 tTrue := by
  refine tmpl_of consEq_ok treeN6Awake_is (fun ρ res hres => ⟨eqJ, ?_⟩)
  obtain rfl := ret_some hres
  exact leaf_true rfl (by decide)
theorem cons6_ok : ConsOk Go.Proofs.Try.prog (fun _ _ _ _ => .i 0) ((32, tTrue.con) :: consEq) := moreCons (con_ok awake_ok) consEq_ok
theorem n6reads_ok : TmplOk Go.Proofs.Try.prog (fun _ _ _ _ => .i 0) 9 tN6Reads := by
  refine tmpl_of cons6_ok treeN6Reads_is (fun ρ res hres => ⟨eqJ, ?_⟩)
  obtain ⟨h0, hres⟩ := short_some hres
  obtain ⟨hb, hres⟩ := bytes_some hres
  obtain rfl := ret_some hres
  refine ⟨fun c1 => leaf_true rfl (by decide), fun c1 => ⟨fun c2 => leaf_true rfl (by decide), fun c2 => ⟨fun c3 => leaf_true rfl (by decide), fun c3 => ⟨fun c4 => leaf_true rfl (by decide), fun c4 => ?_⟩⟩⟩⟩
  exfalso
  have b0 := byte_rd hb 0
  have b1 := byte_rd hb 1
  have b2 := byte_rd hb 2
  have b3 := byte_rd hb 3
  simp at c2 c4
  omega
end Go.Proofs.Ytaklgacadjipjaa.Sx
