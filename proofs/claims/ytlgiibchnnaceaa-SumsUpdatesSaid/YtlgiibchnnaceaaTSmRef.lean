/- Sx: what Go function 17 does, as a tree of conditions (printed by a tool of this claim, proved by the kernel). Conditions: none. -/
import Derived.Test.YtlgiibchnnaceaaSmA
import Derived.Test.YtlgiibchnnaceaaProg
import Derived.KernelRfl
set_option maxRecDepth 100000
namespace Go.Proofs.Ytlgiibchnnaceaa.Sx
open Go
def treeSmRef : M (V × St) :=
(.loop 0 1 2 [(.num 0), (.num 0)] [((.c2 .le (.num 0) (.var 1)), true), ((.c2 .le (.var 1) (.num 65535)), true), ((.c2 .le (.num 0) (.var 2)), true)]
 (.split (.c2 .lt (.var 2) (.c1 .len (.var 0)))
  (.split (.c2 .eq (.c2 .sub (.var 2) (.c2 .mul (.c2 .fdiv (.var 2) (.num 2)) (.num 2))) (.num 0))
   (.split (.c2 .lt (.num 65535) (.c2 .add (.var 1) (.c2 .mul (.c2 .rd (.var 0) (.var 2)) (.num 256))))
    (.back 0 1 [(.c2 .sub (.c2 .add (.var 1) (.c2 .mul (.c2 .rd (.var 0) (.var 2)) (.num 256))) (.num 65535)), (.wr .i64 (.c2 .add (.var 2) (.num 1)))])
    (.back 0 1 [(.c2 .add (.var 1) (.c2 .mul (.c2 .rd (.var 0) (.var 2)) (.num 256))), (.wr .i64 (.c2 .add (.var 2) (.num 1)))]))
   (.split (.c2 .lt (.num 65535) (.c2 .add (.var 1) (.c2 .rd (.var 0) (.var 2))))
    (.back 0 1 [(.c2 .sub (.c2 .add (.var 1) (.c2 .rd (.var 0) (.var 2))) (.num 65535)), (.wr .i64 (.c2 .add (.var 2) (.num 1)))])
    (.back 0 1 [(.c2 .add (.var 1) (.c2 .rd (.var 0) (.var 2))), (.wr .i64 (.c2 .add (.var 2) (.num 1)))])))
  (.ret (.w (.c (.i .u16 (.var 1))), ⟨[], [], 1, 3, []⟩))))
theorem treeSmRef_is : funTree (ctxN Go.Proofs.Try.prog annsSm [] 8) annsSm 17 tSum.vs tSum.bs tSum.n (preF tSum.res) = treeSmRef := by kernel_rfl
end Go.Proofs.Ytlgiibchnnaceaa.Sx
