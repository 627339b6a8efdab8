/- Sx: what Go function 28 does, as a tree of conditions (printed by a tool of this claim, proved by the kernel). Conditions: none. -/
import Derived.Test.YtlgiibchnnaceaaSuA
import Derived.Test.YtlgiibchnnaceaaProg
import Derived.KernelRfl
set_option maxRecDepth 100000
namespace Go.Proofs.Ytlgiibchnnaceaa.Sx
open Go
def treeSuUpdate : M (V × St) :=
(.ret (.w (.c (.i .u16 (.c2 .sub (.num 65535) (.wr .u16 (.fn 2 (.c2 .add (.wr .u16 (.fn 2 (.c2 .add (.c2 .sub (.num 65535) (.var 0)) (.c2 .sub (.num 65535) (.var 1))) .nil .nil)) (.var 2)) .nil .nil))))), ⟨[], [], 0, 3, []⟩))
theorem treeSuUpdate_is : funTree (ctxN Go.Proofs.Try.prog annsSu consSu0 8) annsSu 28 tUpdate.vs tUpdate.bs tUpdate.n (preF tUpdate.res) = treeSuUpdate := by kernel_rfl
end Go.Proofs.Ytlgiibchnnaceaa.Sx
