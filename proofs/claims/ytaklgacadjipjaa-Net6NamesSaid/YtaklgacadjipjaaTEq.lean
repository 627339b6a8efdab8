/- Sx: what Go function 20 does, as a tree of conditions (printed by a tool of this claim, proved by the kernel). Conditions: none. -/
import Derived.Test.YtaklgacadjipjaaN6A
import Derived.Test.YtaklgacadjipjaaProg
import Derived.KernelRfl
set_option maxRecDepth 100000
namespace Go.Proofs.Ytaklgacadjipjaa.Sx
open Go
def treeEq : M (V × St) :=
(.split (.c1 .not (.c2 .eq (.c1 .len (.var 0)) (.c1 .len (.var 1))))
 (.ret (.w (.c (.b (.bol false))), ⟨[], [], 2, 2, []⟩))
 (.loop 0 2 1 [(.num 0)] [((.c2 .le (.num 0) (.var 2)), true)]
  (.split (.c2 .lt (.var 2) (.c1 .len (.var 0)))
   (.chk (.c2 .lt (.var 2) (.c1 .len (.var 1)))
   (.split (.c1 .not (.c2 .eq (.c2 .rd (.var 0) (.var 2)) (.c2 .rd (.var 1) (.var 2))))
    (.ret (.w (.c (.b (.bol false))), ⟨[], [], 2, 3, []⟩))
    (.back 0 2 [(.wr .i64 (.c2 .add (.var 2) (.num 1)))])))
   (.ret (.w (.c (.b (.bol true))), ⟨[], [], 2, 3, []⟩)))))
theorem treeEq_is : funTree (ctxN Go.Proofs.Try.prog anns [] 8) anns 20 tEq.vs tEq.bs tEq.n (preF tEq.res) = treeEq := by kernel_rfl
end Go.Proofs.Ytaklgacadjipjaa.Sx
