/- Sx: what Go function 21 does, as a tree of conditions (printed by a tool of this claim, proved by the kernel). Conditions: none. -/
import Derived.Test.YtlgiibchnnaceaaSuA
import Derived.Test.YtlgiibchnnaceaaProg
import Derived.KernelRfl
set_option maxRecDepth 100000
namespace Go.Proofs.Ytlgiibchnnaceaa.Sx
open Go
def treeSuAwake : M (V × St) :=
(.split (.c2 .eq (.wr .u16 (.fn 1 (.cons (.num 1) (.cons (.num 2) (.cons (.num 3) .nil))) .nil .nil)) (.num 1026))
 (.split (.c2 .eq (.c2 .sub (.num 65535) (.wr .u16 (.fn 1 (.cons (.num 69) (.cons (.num 0) (.cons (.num 0) (.cons (.num 20) .nil)))) .nil .nil))) (.num 47851))
  (.split (.c2 .eq (.wr .u16 (.fn 2 (.num 65536) .nil .nil)) (.num 1))
   (.split (.c2 .eq (.wr .u16 (.fn 2 (.num 65533) .nil .nil)) (.num 65533))
    (.split (.fn 4 (.num 0) (.num 65535) .nil)
     (.split (.c2 .eq (.wr .u16 (.fn 2 (.c2 .add (.wr .u16 (.fn 1 (.cons (.num 0) (.cons (.num 3) .nil)) .nil .nil)) (.c2 .sub (.num 65535) (.wr .u16 (.fn 1 (.cons (.num 0) (.cons (.num 1) .nil)) .nil .nil)))) .nil .nil)) (.num 2))
      (.ret (.w (.c (.b (.c2 .eq (.wr .u16 (.fn 5 (.num 47851) (.num 20) (.num 40))) (.num 47831)))), ⟨[], [], 8, 0, []⟩))
      (.ret (.w (.c (.b (.bol false))), ⟨[], [], 8, 0, []⟩)))
     (.ret (.w (.c (.b (.bol false))), ⟨[], [], 8, 0, []⟩)))
    (.ret (.w (.c (.b (.bol false))), ⟨[], [], 8, 0, []⟩)))
   (.ret (.w (.c (.b (.bol false))), ⟨[], [], 8, 0, []⟩)))
  (.ret (.w (.c (.b (.bol false))), ⟨[], [], 8, 0, []⟩)))
 (.ret (.w (.c (.b (.bol false))), ⟨[], [], 6, 0, []⟩)))
theorem treeSuAwake_is : funTree (ctxN Go.Proofs.Try.prog annsSu consSu 8) annsSu 21 tTrue.vs tTrue.bs tTrue.n (preF tTrue.res) = treeSuAwake := by kernel_rfl
end Go.Proofs.Ytlgiibchnnaceaa.Sx
