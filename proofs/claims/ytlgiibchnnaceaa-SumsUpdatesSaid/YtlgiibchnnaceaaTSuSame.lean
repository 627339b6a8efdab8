/- Sx: what Go function 26 does, as a tree of conditions (printed by a tool of this claim, proved by the kernel). Conditions: none. -/
import Derived.Test.YtlgiibchnnaceaaSuA
import Derived.Test.YtlgiibchnnaceaaProg
import Derived.KernelRfl
set_option maxRecDepth 100000
namespace Go.Proofs.Ytlgiibchnnaceaa.Sx
open Go
def treeSuSame : M (V × St) :=
(.split (.c2 .eq (.var 0) (.var 1))
 (.ret (.w (.c (.b (.bol true))), ⟨[], [], 0, 2, []⟩))
 (.ret (.w (.c (.b (.c2 .eq (.c2 .sub (.var 0) (.c2 .mul (.c2 .fdiv (.var 0) (.num 65535)) (.num 65535))) (.c2 .sub (.var 1) (.c2 .mul (.c2 .fdiv (.var 1) (.num 65535)) (.num 65535)))))), ⟨[], [], 0, 2, []⟩)))
theorem treeSuSame_is : funTree (ctxN Go.Proofs.Try.prog annsSu [] 8) annsSu 26 tSame.vs tSame.bs tSame.n (preF tSame.res) = treeSuSame := by kernel_rfl
end Go.Proofs.Ytlgiibchnnaceaa.Sx
