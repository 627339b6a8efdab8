/- Sx: what Go function 16 does, as a tree of conditions (printed by a tool of this claim, proved by the kernel). Conditions: none. -/
import Derived.Test.YtlgiibchnnaceaaSmA
import Derived.Test.YtlgiibchnnaceaaProg
import Derived.KernelRfl
set_option maxRecDepth 100000
namespace Go.Proofs.Ytlgiibchnnaceaa.Sx
open Go
def treeSmSum : M (V × St) :=
(.loop 0 1 2 [(.num 0), (.num 0)] [((.c2 .le (.num 0) (.var 1)), true), ((.c2 .le (.var 1) (.num 10000000000000000000)), true), ((.c2 .le (.num 0) (.var 2)), true)]
 (.split (.c2 .lt (.var 2) (.c2 .fdiv (.c1 .len (.var 0)) (.num 2)))
  (.chk (.c2 .le (.num 0) (.wr .i64 (.c2 .mul (.var 2) (.num 2))))
  (.chk (.c2 .lt (.wr .i64 (.c2 .mul (.var 2) (.num 2))) (.c1 .len (.var 0)))
  (.chk (.c2 .le (.num 0) (.wr .i64 (.c2 .add (.wr .i64 (.c2 .mul (.var 2) (.num 2))) (.num 1))))
  (.chk (.c2 .lt (.wr .i64 (.c2 .add (.wr .i64 (.c2 .mul (.var 2) (.num 2))) (.num 1))) (.c1 .len (.var 0)))
  (.back 0 1 [(.c2 .add (.var 1) (.c2 .add (.c2 .mul (.c2 .rd (.var 0) (.wr .i64 (.c2 .mul (.var 2) (.num 2)))) (.num 256)) (.c2 .rd (.var 0) (.wr .i64 (.c2 .add (.wr .i64 (.c2 .mul (.var 2) (.num 2))) (.num 1)))))), (.wr .i64 (.c2 .add (.var 2) (.num 1)))])))))
  (.split (.c2 .eq (.c2 .sub (.c1 .len (.var 0)) (.c2 .mul (.c2 .fdiv (.c1 .len (.var 0)) (.num 2)) (.num 2))) (.num 1))
   (.ret (.w (.c (.i .u16 (.wr .u16 (.fn 2 (.c2 .add (.var 1) (.c2 .mul (.c2 .rd (.var 0) (.c2 .sub (.c1 .len (.var 0)) (.num 1))) (.num 256))) .nil .nil)))), ⟨[], [], 1, 3, []⟩))
   (.ret (.w (.c (.i .u16 (.wr .u16 (.fn 2 (.var 1) .nil .nil)))), ⟨[], [], 1, 3, []⟩)))))
theorem treeSmSum_is : funTree (ctxN Go.Proofs.Try.prog annsSm consFold 8) annsSm 16 tSum.vs tSum.bs tSum.n (preF tSum.res) = treeSmSum := by kernel_rfl
end Go.Proofs.Ytlgiibchnnaceaa.Sx
