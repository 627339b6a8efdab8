/- Sx: what Go function 33 does, as a tree of conditions (printed by a tool of this claim, proved by the kernel). Conditions: none. -/
import Derived.Test.YtlgiibchnnaceaaSuA
import Derived.Test.YtlgiibchnnaceaaProg
import Derived.KernelRfl
set_option maxRecDepth 100000
namespace Go.Proofs.Ytlgiibchnnaceaa.Sx
open Go
def treeSuBring : M (V × St) :=
(.split (.c2 .lt (.c2 .rem (.var 0) (.var 1)) (.num 0))
 (.ret (.w (.c (.i .i64 (.wr .i64 (.c2 .add (.c2 .rem (.var 0) (.var 1)) (.var 1))))), ⟨[], [], 0, 2, []⟩))
 (.ret (.w (.c (.i .i64 (.c2 .rem (.var 0) (.var 1)))), ⟨[], [], 0, 2, []⟩)))
theorem treeSuBring_is : funTree (ctxN Go.Proofs.Try.prog annsSu [] 8) annsSu 33 tBring.vs tBring.bs tBring.n (preF tBring.res) = treeSuBring := by kernel_rfl
end Go.Proofs.Ytlgiibchnnaceaa.Sx
