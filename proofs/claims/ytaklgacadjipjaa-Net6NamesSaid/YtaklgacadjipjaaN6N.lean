/- Sx laws of layer 8, the closed one: the tree's leaf is true. Conditions: none. -/
import Derived.Test.YtaklgacadjipjaaN6F
import Derived.Test.YtaklgacadjipjaaN6K
import Derived.Test.YtaklgacadjipjaaTN6Names
set_option linter.unusedVariables false
namespace Go.Proofs.Ytaklgacadjipjaa.Sx
open Go
theorem n6names_ok : TmplOk Go.Proofs.Try.prog (fun _ _ _ _ => .i 0) 12 tN6Names := by
  refine tmpl_of (moreCons (con_ok n6reads_ok) (moreCons (con_ok n6bytes_ok) (moreCons (con_ok n6back_ok) cons6_ok))) treeN6Names_is (fun ρ res hres => ⟨eqJ, ?_⟩)
  obtain rfl := ret_some hres
  exact leaf_true rfl (by decide)
end Go.Proofs.Ytaklgacadjipjaa.Sx
