/- Sx: what Go function 32 does, as a tree of conditions (printed by a tool of this claim, proved by the kernel). Conditions: none. -/
import Derived.Test.YtaklgacadjipjaaN6A
import Derived.Test.YtaklgacadjipjaaProg
import Derived.KernelRfl
set_option maxRecDepth 100000
namespace Go.Proofs.Ytaklgacadjipjaa.Sx
open Go
def treeN6Awake : M (V × St) :=
(.ret (.w (.c (.b (.bol true))), ⟨[], [], 16, 0, []⟩))
theorem treeN6Awake_is : funTree (ctxN Go.Proofs.Try.prog anns consEq 8) anns 32 tTrue.vs tTrue.bs tTrue.n (preF tTrue.res) = treeN6Awake := by kernel_rfl
end Go.Proofs.Ytaklgacadjipjaa.Sx
