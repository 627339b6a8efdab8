/- Sx: what Go function 45 does, as a tree of conditions (printed by a tool of this claim, proved by the kernel). Conditions: none. -/
import Derived.Test.YtlgiibchnnaceaaSmA
import Derived.Test.YtlgiibchnnaceaaProg
import Derived.KernelRfl
set_option maxRecDepth 100000
namespace Go.Proofs.Ytlgiibchnnaceaa.Sx
open Go
def treeSmFold : M (V × St) :=
(.loop 0 1 1 [(.var 0)] [((.c2 .le (.num 0) (.var 1)), true), ((.c2 .le (.var 1) (.num 18446744073709551615)), true)]
 (.split (.c2 .lt (.num 65535) (.var 1))
  (.back 0 1 [(.c2 .add (.c2 .fdiv (.var 1) (.num 65536)) (.c2 .sub (.var 1) (.c2 .mul (.c2 .fdiv (.var 1) (.num 65536)) (.num 65536))))])
  (.ret (.w (.c (.i .u16 (.var 1))), ⟨[], [], 0, 2, []⟩))))
theorem treeSmFold_is : funTree (ctxN Go.Proofs.Try.prog annsSm [] 8) annsSm 45 tFold.vs tFold.bs tFold.n (preF tFold.res) = treeSmFold := by kernel_rfl
end Go.Proofs.Ytlgiibchnnaceaa.Sx
