/- Sx: what Go function 12 does, as a tree of conditions (printed by a tool of this claim, proved by the kernel). Conditions: none. -/
import Derived.Test.YtaklgacadjipjaaN6NA
import Derived.Test.YtaklgacadjipjaaProg
import Derived.KernelRfl
set_option maxRecDepth 100000
namespace Go.Proofs.Ytaklgacadjipjaa.Sx
open Go
def treeN6Names : M (V × St) :=
(.ret (.w (.c (.b (.bol true))), ⟨[], [], 1360238, 0, []⟩))
theorem treeN6Names_is : funTree (ctxN Go.Proofs.Try.prog annsN consN 8) annsN 12 tN6Names.vs tN6Names.bs tN6Names.n (preF tN6Names.res) = treeN6Names := by kernel_rfl
end Go.Proofs.Ytaklgacadjipjaa.Sx
