/- Sx: what Go function 9 does, as a tree of conditions (printed by a tool of this claim, proved by the kernel). Conditions: none. -/
import Derived.Test.YtaklgacadjipjaaN6A
import Derived.Test.YtaklgacadjipjaaProg
import Derived.KernelRfl
set_option maxRecDepth 100000
namespace Go.Proofs.Ytaklgacadjipjaa.Sx
open Go
def treeN6Reads : M (V × St) :=
(.split (.c2 .lt (.c1 .len (.var 0)) (.num 40))
 (.ret (.w (.c (.b (.bol true))), ⟨[], [], 109, 1, []⟩))
 (.split (.c1 .not (.c2 .eq (.c2 .fdiv (.c2 .rd (.var 0) (.num 0)) (.num 16)) (.num 6)))
  (.ret (.w (.c (.b (.bol true))), ⟨[], [], 109, 1, []⟩))
  (.split (.c1 .not (.c2 .eq (.c2 .add (.c2 .mul (.c2 .rd (.var 0) (.num 4)) (.num 256)) (.c2 .rd (.var 0) (.num 5))) (.c2 .sub (.c1 .len (.var 0)) (.num 40))))
   (.ret (.w (.c (.b (.bol true))), ⟨[], [], 109, 1, []⟩))
   (.split (.c2 .and (.c2 .eq (.c2 .sub (.c2 .fdiv (.c2 .add (.c2 .mul (.c2 .rd (.var 0) (.num 0)) (.num 256)) (.c2 .rd (.var 0) (.num 1))) (.num 16)) (.c2 .mul (.c2 .fdiv (.c2 .fdiv (.c2 .add (.c2 .mul (.c2 .rd (.var 0) (.num 0)) (.num 256)) (.c2 .rd (.var 0) (.num 1))) (.num 16)) (.num 256)) (.num 256))) (.c2 .sub (.c2 .fdiv (.c2 .add (.c2 .mul (.c2 .add (.c2 .mul (.c2 .add (.c2 .mul (.c2 .rd (.var 0) (.num 0)) (.num 256)) (.c2 .rd (.var 0) (.num 1))) (.num 256)) (.c2 .rd (.var 0) (.num 2))) (.num 256)) (.c2 .rd (.var 0) (.num 3))) (.num 1048576)) (.c2 .mul (.c2 .fdiv (.c2 .fdiv (.c2 .add (.c2 .mul (.c2 .add (.c2 .mul (.c2 .add (.c2 .mul (.c2 .rd (.var 0) (.num 0)) (.num 256)) (.c2 .rd (.var 0) (.num 1))) (.num 256)) (.c2 .rd (.var 0) (.num 2))) (.num 256)) (.c2 .rd (.var 0) (.num 3))) (.num 1048576)) (.num 256)) (.num 256)))) (.c2 .eq (.c2 .add (.c2 .mul (.c2 .sub (.c2 .rd (.var 0) (.num 1)) (.c2 .mul (.c2 .fdiv (.c2 .rd (.var 0) (.num 1)) (.num 16)) (.num 16))) (.num 65536)) (.c2 .add (.c2 .mul (.c2 .rd (.var 0) (.num 2)) (.num 256)) (.c2 .rd (.var 0) (.num 3)))) (.c2 .sub (.c2 .add (.c2 .mul (.c2 .add (.c2 .mul (.c2 .add (.c2 .mul (.c2 .rd (.var 0) (.num 0)) (.num 256)) (.c2 .rd (.var 0) (.num 1))) (.num 256)) (.c2 .rd (.var 0) (.num 2))) (.num 256)) (.c2 .rd (.var 0) (.num 3))) (.c2 .mul (.c2 .fdiv (.c2 .add (.c2 .mul (.c2 .add (.c2 .mul (.c2 .add (.c2 .mul (.c2 .rd (.var 0) (.num 0)) (.num 256)) (.c2 .rd (.var 0) (.num 1))) (.num 256)) (.c2 .rd (.var 0) (.num 2))) (.num 256)) (.c2 .rd (.var 0) (.num 3))) (.num 1048576)) (.num 1048576)))))
    (.ret (.w (.c (.b (.bol true))), ⟨[], [], 111, 1, []⟩))
    (.ret (.w (.c (.b (.bol false))), ⟨[], [], 9, 1, []⟩))))))
theorem treeN6Reads_is : funTree (ctxN Go.Proofs.Try.prog anns ((32, tTrue.con) :: consEq) 8) anns 9 tN6Reads.vs tN6Reads.bs tN6Reads.n (preF tN6Reads.res) = treeN6Reads := by kernel_rfl
end Go.Proofs.Ytaklgacadjipjaa.Sx
