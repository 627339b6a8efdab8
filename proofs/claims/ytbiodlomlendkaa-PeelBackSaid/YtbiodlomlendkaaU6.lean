/- Sx: texts of this claim put together: TPePeelR, PeK, TPeSame, PeS, TPlEq, TPlAwake, TPlPeels, TPlAll, PlK, PlB, TPwWhere, TPwWhereR, TPwWheres, PwK, TPbBack. Conditions: none. -/
import Derived.Test.YtbiodlomlendkaaU5
import Derived.Test.YtbiodlomlendkaaProg
import Derived.KernelRfl
/- Sx: what Go function 12 does, as a tree of conditions (printed by a tool of this claim, proved by the kernel). Conditions: none. -/
set_option maxRecDepth 100000
namespace Go.Proofs.Ytbiodlomlendkaa.Sx
open Go
def treePePeelR : M (V × St) :=
(.loop 0 1 5 [(.num 0), (.num 1), (.bol true), (.num 0), .nil] [((.c2 .le (.num 0) (.var 1)), true), ((.c2 .le (.var 1) (.num 8)), true), ((.c2 .le (.num 0) (.var 2)), true), ((.c2 .le (.var 2) (.num 6)), true), ((.c2 .le (.num 0) (.var 4)), true), ((.c2 .le (.var 4) (.c1 .len (.var 0))), true), ((.c2 .eq (.c1 .len (.var 5)) (.c2 .mul (.var 1) (.num 73))), true), ((.c1 (.kin [.u8, .u8, .u8, .u8, .u8, .u8, .u8, .u8, .u8, .u8, .u8, .u8, .u8, .u16, .u8, .u16, .u16, .u8, .u8, .u8, .u16, .u8, .u8, .u8, .u8, .u8, .u8, .u8, .u8, .u8, .u32, .u8, .u8, .u8, .u8, .u8, .u8, .u8, .u8, .u8, .u8, .u8, .u8, .u8, .u8, .u8, .u8, .u8, .u8, .u8, .u8, .u8, .u8, .u8, .u8, .u8, .u8, .u8, .u8, .u8, .u8, .u8, .u8, .u8, .u8, .u16, .u16, .u32, .u32, .u8, .u16, .u16, .u16]) (.var 5)), true)]
 (.split (.var 3)
  (.split (.c2 .eq (.var 1) (.num 8))
   (.ret (.t [.c (.sn), .c (.sn), .c (.i .i64 (.num 3))], ⟨[], [], 2, 6, []⟩))
   (.split (.c2 .eq (.var 2) (.num 1))
    (.chk (.c1 (.kin [.u8]) (.c2 .drop (.var 4) (.var 0)))
    (.split (.c1 .not (.c2 .eq (.fn 21 (.c2 .drop (.var 4) (.var 0)) .nil .nil) (.num 0)))
     (.ret (.t [.c (.sn), .c (.sn), .c (.i .i64 (.fn 21 (.c2 .drop (.var 4) (.var 0)) .nil .nil))], ⟨[], [], 67, 6, []⟩))
     (.back 0 1 [(.c2 .add (.var 1) (.num 1)), (.wr .u8 (.fn 54 (.cons (.num 1) (.cons (.wr .u8 (.c2 .rd (.fn 11 (.c2 .drop (.var 4) (.var 0)) .nil .nil) (.num 0))) (.cons (.wr .u8 (.c2 .rd (.fn 11 (.c2 .drop (.var 4) (.var 0)) .nil .nil) (.num 1))) (.cons (.wr .u8 (.c2 .rd (.fn 11 (.c2 .drop (.var 4) (.var 0)) .nil .nil) (.num 2))) (.cons (.wr .u8 (.c2 .rd (.fn 11 (.c2 .drop (.var 4) (.var 0)) .nil .nil) (.num 3))) (.cons (.wr .u8 (.c2 .rd (.fn 11 (.c2 .drop (.var 4) (.var 0)) .nil .nil) (.num 4))) (.cons (.wr .u8 (.c2 .rd (.fn 11 (.c2 .drop (.var 4) (.var 0)) .nil .nil) (.num 5))) (.cons (.wr .u8 (.c2 .rd (.fn 11 (.c2 .drop (.var 4) (.var 0)) .nil .nil) (.num 6))) (.cons (.wr .u8 (.c2 .rd (.fn 11 (.c2 .drop (.var 4) (.var 0)) .nil .nil) (.num 7))) (.cons (.wr .u8 (.c2 .rd (.fn 11 (.c2 .drop (.var 4) (.var 0)) .nil .nil) (.num 8))) (.cons (.wr .u8 (.c2 .rd (.fn 11 (.c2 .drop (.var 4) (.var 0)) .nil .nil) (.num 9))) (.cons (.wr .u8 (.c2 .rd (.fn 11 (.c2 .drop (.var 4) (.var 0)) .nil .nil) (.num 10))) (.cons (.wr .u8 (.c2 .rd (.fn 11 (.c2 .drop (.var 4) (.var 0)) .nil .nil) (.num 11))) (.cons (.wr .u16 (.c2 .rd (.fn 11 (.c2 .drop (.var 4) (.var 0)) .nil .nil) (.num 12))) (.cons (.num 0) (.cons (.num 0) (.cons (.num 0) (.cons (.num 0) (.cons (.num 0) (.cons (.num 0) (.cons (.num 0) (.cons (.num 0) (.cons (.num 0) (.cons (.num 0) (.cons (.num 0) (.cons (.num 0) (.cons (.num 0) (.cons (.num 0) (.cons (.num 0) (.cons (.num 0) (.cons (.num 0) (.cons (.num 0) (.cons (.num 0) (.cons (.num 0) (.cons (.num 0) (.cons (.num 0) (.cons (.num 0) (.cons (.num 0) (.cons (.num 0) (.cons (.num 0) (.cons (.num 0) (.cons (.num 0) (.cons (.num 0) (.cons (.num 0) (.cons (.num 0) (.cons (.num 0) (.cons (.num 0) (.cons (.num 0) (.cons (.num 0) (.cons (.num 0) (.cons (.num 0) (.cons (.num 0) (.cons (.num 0) (.cons (.num 0) (.cons (.num 0) (.cons (.num 0) (.cons (.num 0) (.cons (.num 0) (.cons (.num 0) (.cons (.num 0) (.cons (.num 0) (.cons (.num 0) (.cons (.num 0) (.cons (.num 0) (.cons (.num 0) (.cons (.num 0) (.cons (.num 0) (.cons (.num 0) (.cons (.num 0) (.cons (.num 0) (.cons (.num 0) (.cons (.num 0) (.cons (.num 0) .nil))))))))))))))))))))))))))))))))))))))))))))))))))))))))))))))))))))))))) .nil .nil)), (.c1 .not (.c2 .eq (.wr .u8 (.fn 54 (.cons (.num 1) (.cons (.wr .u8 (.c2 .rd (.fn 11 (.c2 .drop (.var 4) (.var 0)) .nil .nil) (.num 0))) (.cons (.wr .u8 (.c2 .rd (.fn 11 (.c2 .drop (.var 4) (.var 0)) .nil .nil) (.num 1))) (.cons (.wr .u8 (.c2 .rd (.fn 11 (.c2 .drop (.var 4) (.var 0)) .nil .nil) (.num 2))) (.cons (.wr .u8 (.c2 .rd (.fn 11 (.c2 .drop (.var 4) (.var 0)) .nil .nil) (.num 3))) (.cons (.wr .u8 (.c2 .rd (.fn 11 (.c2 .drop (.var 4) (.var 0)) .nil .nil) (.num 4))) (.cons (.wr .u8 (.c2 .rd (.fn 11 (.c2 .drop (.var 4) (.var 0)) .nil .nil) (.num 5))) (.cons (.wr .u8 (.c2 .rd (.fn 11 (.c2 .drop (.var 4) (.var 0)) .nil .nil) (.num 6))) (.cons (.wr .u8 (.c2 .rd (.fn 11 (.c2 .drop (.var 4) (.var 0)) .nil .nil) (.num 7))) (.cons (.wr .u8 (.c2 .rd (.fn 11 (.c2 .drop (.var 4) (.var 0)) .nil .nil) (.num 8))) (.cons (.wr .u8 (.c2 .rd (.fn 11 (.c2 .drop (.var 4) (.var 0)) .nil .nil) (.num 9))) (.cons (.wr .u8 (.c2 .rd (.fn 11 (.c2 .drop (.var 4) (.var 0)) .nil .nil) (.num 10))) (.cons (.wr .u8 (.c2 .rd (.fn 11 (.c2 .drop (.var 4) (.var 0)) .nil .nil) (.num 11))) (.cons (.wr .u16 (.c2 .rd (.fn 11 (.c2 .drop (.var 4) (.var 0)) .nil .nil) (.num 12))) (.cons (.num 0) (.cons (.num 0) (.cons (.num 0) (.cons (.num 0) (.cons (.num 0) (.cons (.num 0) (.cons (.num 0) (.cons (.num 0) (.cons (.num 0) (.cons (.num 0) (.cons (.num 0) (.cons (.num 0) (.cons (.num 0) (.cons (.num 0) (.cons (.num 0) (.cons (.num 0) (.cons (.num 0) (.cons (.num 0) (.cons (.num 0) (.cons (.num 0) (.cons (.num 0) (.cons (.num 0) (.cons (.num 0) (.cons (.num 0) (.cons (.num 0) (.cons (.num 0) (.cons (.num 0) (.cons (.num 0) (.cons (.num 0) (.cons (.num 0) (.cons (.num 0) (.cons (.num 0) (.cons (.num 0) (.cons (.num 0) (.cons (.num 0) (.cons (.num 0) (.cons (.num 0) (.cons (.num 0) (.cons (.num 0) (.cons (.num 0) (.cons (.num 0) (.cons (.num 0) (.cons (.num 0) (.cons (.num 0) (.cons (.num 0) (.cons (.num 0) (.cons (.num 0) (.cons (.num 0) (.cons (.num 0) (.cons (.num 0) (.cons (.num 0) (.cons (.num 0) (.cons (.num 0) (.cons (.num 0) (.cons (.num 0) (.cons (.num 0) (.cons (.num 0) (.cons (.num 0) (.cons (.num 0) .nil))))))))))))))))))))))))))))))))))))))))))))))))))))))))))))))))))))))))) .nil .nil)) (.num 0))), (.wr .i64 (.c2 .add (.var 4) (.c2 .rd (.cons (.num 0) (.cons (.num 14) (.cons (.num 4) (.cons (.num 20) (.cons (.num 40) (.cons (.num 20) (.cons (.num 8) .nil))))))) (.var 2)))), (.c2 .app (.c2 .take (.c2 .mul (.var 1) (.num 73)) (.var 5)) (.cons (.num 1) (.cons (.wr .u8 (.c2 .rd (.fn 11 (.c2 .drop (.var 4) (.var 0)) .nil .nil) (.num 0))) (.cons (.wr .u8 (.c2 .rd (.fn 11 (.c2 .drop (.var 4) (.var 0)) .nil .nil) (.num 1))) (.cons (.wr .u8 (.c2 .rd (.fn 11 (.c2 .drop (.var 4) (.var 0)) .nil .nil) (.num 2))) (.cons (.wr .u8 (.c2 .rd (.fn 11 (.c2 .drop (.var 4) (.var 0)) .nil .nil) (.num 3))) (.cons (.wr .u8 (.c2 .rd (.fn 11 (.c2 .drop (.var 4) (.var 0)) .nil .nil) (.num 4))) (.cons (.wr .u8 (.c2 .rd (.fn 11 (.c2 .drop (.var 4) (.var 0)) .nil .nil) (.num 5))) (.cons (.wr .u8 (.c2 .rd (.fn 11 (.c2 .drop (.var 4) (.var 0)) .nil .nil) (.num 6))) (.cons (.wr .u8 (.c2 .rd (.fn 11 (.c2 .drop (.var 4) (.var 0)) .nil .nil) (.num 7))) (.cons (.wr .u8 (.c2 .rd (.fn 11 (.c2 .drop (.var 4) (.var 0)) .nil .nil) (.num 8))) (.cons (.wr .u8 (.c2 .rd (.fn 11 (.c2 .drop (.var 4) (.var 0)) .nil .nil) (.num 9))) (.cons (.wr .u8 (.c2 .rd (.fn 11 (.c2 .drop (.var 4) (.var 0)) .nil .nil) (.num 10))) (.cons (.wr .u8 (.c2 .rd (.fn 11 (.c2 .drop (.var 4) (.var 0)) .nil .nil) (.num 11))) (.cons (.wr .u16 (.c2 .rd (.fn 11 (.c2 .drop (.var 4) (.var 0)) .nil .nil) (.num 12))) (.cons (.num 0) (.cons (.num 0) (.cons (.num 0) (.cons (.num 0) (.cons (.num 0) (.cons (.num 0) (.cons (.num 0) (.cons (.num 0) (.cons (.num 0) (.cons (.num 0) (.cons (.num 0) (.cons (.num 0) (.cons (.num 0) (.cons (.num 0) (.cons (.num 0) (.cons (.num 0) (.cons (.num 0) (.cons (.num 0) (.cons (.num 0) (.cons (.num 0) (.cons (.num 0) (.cons (.num 0) (.cons (.num 0) (.cons (.num 0) (.cons (.num 0) (.cons (.num 0) (.cons (.num 0) (.cons (.num 0) (.cons (.num 0) (.cons (.num 0) (.cons (.num 0) (.cons (.num 0) (.cons (.num 0) (.cons (.num 0) (.cons (.num 0) (.cons (.num 0) (.cons (.num 0) (.cons (.num 0) (.cons (.num 0) (.cons (.num 0) (.cons (.num 0) (.cons (.num 0) (.cons (.num 0) (.cons (.num 0) (.cons (.num 0) (.cons (.num 0) (.cons (.num 0) (.cons (.num 0) (.cons (.num 0) (.cons (.num 0) (.cons (.num 0) (.cons (.num 0) (.cons (.num 0) (.cons (.num 0) (.cons (.num 0) (.cons (.num 0) (.cons (.num 0) (.cons (.num 0) (.cons (.num 0) .nil))))))))))))))))))))))))))))))))))))))))))))))))))))))))))))))))))))))))))])))
    (.split (.c2 .eq (.var 2) (.num 2))
     (.chk (.c1 (.kin [.u8]) (.c2 .drop (.var 4) (.var 0)))
     (.split (.c1 .not (.c2 .eq (.fn 22 (.c2 .drop (.var 4) (.var 0)) .nil .nil) (.num 0)))
      (.ret (.t [.c (.sn), .c (.sn), .c (.i .i64 (.fn 22 (.c2 .drop (.var 4) (.var 0)) .nil .nil))], ⟨[], [], 67, 6, []⟩))
      (.back 0 1 [(.c2 .add (.var 1) (.num 1)), (.wr .u8 (.fn 54 (.cons (.num 2) (.cons (.num 0) (.cons (.num 0) (.cons (.num 0) (.cons (.num 0) (.cons (.num 0) (.cons (.num 0) (.cons (.num 0) (.cons (.num 0) (.cons (.num 0) (.cons (.num 0) (.cons (.num 0) (.cons (.num 0) (.cons (.num 0) (.cons (.wr .u8 (.c2 .rd (.fn 12 (.c2 .drop (.var 4) (.var 0)) .nil .nil) (.num 0))) (.cons (.wr .u16 (.c2 .rd (.fn 12 (.c2 .drop (.var 4) (.var 0)) .nil .nil) (.num 1))) (.cons (.wr .u16 (.c2 .rd (.fn 12 (.c2 .drop (.var 4) (.var 0)) .nil .nil) (.num 2))) (.cons (.num 0) (.cons (.num 0) (.cons (.num 0) (.cons (.num 0) (.cons (.num 0) (.cons (.num 0) (.cons (.num 0) (.cons (.num 0) (.cons (.num 0) (.cons (.num 0) (.cons (.num 0) (.cons (.num 0) (.cons (.num 0) (.cons (.num 0) (.cons (.num 0) (.cons (.num 0) (.cons (.num 0) (.cons (.num 0) (.cons (.num 0) (.cons (.num 0) (.cons (.num 0) (.cons (.num 0) (.cons (.num 0) (.cons (.num 0) (.cons (.num 0) (.cons (.num 0) (.cons (.num 0) (.cons (.num 0) (.cons (.num 0) (.cons (.num 0) (.cons (.num 0) (.cons (.num 0) (.cons (.num 0) (.cons (.num 0) (.cons (.num 0) (.cons (.num 0) (.cons (.num 0) (.cons (.num 0) (.cons (.num 0) (.cons (.num 0) (.cons (.num 0) (.cons (.num 0) (.cons (.num 0) (.cons (.num 0) (.cons (.num 0) (.cons (.num 0) (.cons (.num 0) (.cons (.num 0) (.cons (.num 0) (.cons (.num 0) (.cons (.num 0) (.cons (.num 0) (.cons (.num 0) (.cons (.num 0) (.cons (.num 0) (.cons (.num 0) .nil))))))))))))))))))))))))))))))))))))))))))))))))))))))))))))))))))))))))) .nil .nil)), (.c1 .not (.c2 .eq (.wr .u8 (.fn 54 (.cons (.num 2) (.cons (.num 0) (.cons (.num 0) (.cons (.num 0) (.cons (.num 0) (.cons (.num 0) (.cons (.num 0) (.cons (.num 0) (.cons (.num 0) (.cons (.num 0) (.cons (.num 0) (.cons (.num 0) (.cons (.num 0) (.cons (.num 0) (.cons (.wr .u8 (.c2 .rd (.fn 12 (.c2 .drop (.var 4) (.var 0)) .nil .nil) (.num 0))) (.cons (.wr .u16 (.c2 .rd (.fn 12 (.c2 .drop (.var 4) (.var 0)) .nil .nil) (.num 1))) (.cons (.wr .u16 (.c2 .rd (.fn 12 (.c2 .drop (.var 4) (.var 0)) .nil .nil) (.num 2))) (.cons (.num 0) (.cons (.num 0) (.cons (.num 0) (.cons (.num 0) (.cons (.num 0) (.cons (.num 0) (.cons (.num 0) (.cons (.num 0) (.cons (.num 0) (.cons (.num 0) (.cons (.num 0) (.cons (.num 0) (.cons (.num 0) (.cons (.num 0) (.cons (.num 0) (.cons (.num 0) (.cons (.num 0) (.cons (.num 0) (.cons (.num 0) (.cons (.num 0) (.cons (.num 0) (.cons (.num 0) (.cons (.num 0) (.cons (.num 0) (.cons (.num 0) (.cons (.num 0) (.cons (.num 0) (.cons (.num 0) (.cons (.num 0) (.cons (.num 0) (.cons (.num 0) (.cons (.num 0) (.cons (.num 0) (.cons (.num 0) (.cons (.num 0) (.cons (.num 0) (.cons (.num 0) (.cons (.num 0) (.cons (.num 0) (.cons (.num 0) (.cons (.num 0) (.cons (.num 0) (.cons (.num 0) (.cons (.num 0) (.cons (.num 0) (.cons (.num 0) (.cons (.num 0) (.cons (.num 0) (.cons (.num 0) (.cons (.num 0) (.cons (.num 0) (.cons (.num 0) (.cons (.num 0) (.cons (.num 0) (.cons (.num 0) (.cons (.num 0) .nil))))))))))))))))))))))))))))))))))))))))))))))))))))))))))))))))))))))))) .nil .nil)) (.num 0))), (.wr .i64 (.c2 .add (.var 4) (.c2 .rd (.cons (.num 0) (.cons (.num 14) (.cons (.num 4) (.cons (.num 20) (.cons (.num 40) (.cons (.num 20) (.cons (.num 8) .nil))))))) (.var 2)))), (.c2 .app (.c2 .take (.c2 .mul (.var 1) (.num 73)) (.var 5)) (.cons (.num 2) (.cons (.num 0) (.cons (.num 0) (.cons (.num 0) (.cons (.num 0) (.cons (.num 0) (.cons (.num 0) (.cons (.num 0) (.cons (.num 0) (.cons (.num 0) (.cons (.num 0) (.cons (.num 0) (.cons (.num 0) (.cons (.num 0) (.cons (.wr .u8 (.c2 .rd (.fn 12 (.c2 .drop (.var 4) (.var 0)) .nil .nil) (.num 0))) (.cons (.wr .u16 (.c2 .rd (.fn 12 (.c2 .drop (.var 4) (.var 0)) .nil .nil) (.num 1))) (.cons (.wr .u16 (.c2 .rd (.fn 12 (.c2 .drop (.var 4) (.var 0)) .nil .nil) (.num 2))) (.cons (.num 0) (.cons (.num 0) (.cons (.num 0) (.cons (.num 0) (.cons (.num 0) (.cons (.num 0) (.cons (.num 0) (.cons (.num 0) (.cons (.num 0) (.cons (.num 0) (.cons (.num 0) (.cons (.num 0) (.cons (.num 0) (.cons (.num 0) (.cons (.num 0) (.cons (.num 0) (.cons (.num 0) (.cons (.num 0) (.cons (.num 0) (.cons (.num 0) (.cons (.num 0) (.cons (.num 0) (.cons (.num 0) (.cons (.num 0) (.cons (.num 0) (.cons (.num 0) (.cons (.num 0) (.cons (.num 0) (.cons (.num 0) (.cons (.num 0) (.cons (.num 0) (.cons (.num 0) (.cons (.num 0) (.cons (.num 0) (.cons (.num 0) (.cons (.num 0) (.cons (.num 0) (.cons (.num 0) (.cons (.num 0) (.cons (.num 0) (.cons (.num 0) (.cons (.num 0) (.cons (.num 0) (.cons (.num 0) (.cons (.num 0) (.cons (.num 0) (.cons (.num 0) (.cons (.num 0) (.cons (.num 0) (.cons (.num 0) (.cons (.num 0) (.cons (.num 0) (.cons (.num 0) (.cons (.num 0) (.cons (.num 0) (.cons (.num 0) .nil))))))))))))))))))))))))))))))))))))))))))))))))))))))))))))))))))))))))))])))
     (.split (.c2 .eq (.var 2) (.num 3))
      (.chk (.c1 (.kin [.u8]) (.c2 .drop (.var 4) (.var 0)))
      (.split (.c1 .not (.c2 .eq (.fn 23 (.c2 .drop (.var 4) (.var 0)) .nil .nil) (.num 0)))
       (.ret (.t [.c (.sn), .c (.sn), .c (.i .i64 (.fn 23 (.c2 .drop (.var 4) (.var 0)) .nil .nil))], ⟨[], [], 67, 6, []⟩))
       (.back 0 1 [(.c2 .add (.var 1) (.num 1)), (.wr .u8 (.fn 54 (.cons (.num 3) (.cons (.num 0) (.cons (.num 0) (.cons (.num 0) (.cons (.num 0) (.cons (.num 0) (.cons (.num 0) (.cons (.num 0) (.cons (.num 0) (.cons (.num 0) (.cons (.num 0) (.cons (.num 0) (.cons (.num 0) (.cons (.num 0) (.cons (.num 0) (.cons (.num 0) (.cons (.num 0) (.cons (.wr .u8 (.c2 .rd (.fn 13 (.c2 .drop (.var 4) (.var 0)) .nil .nil) (.num 0))) (.cons (.wr .u8 (.c2 .rd (.fn 13 (.c2 .drop (.var 4) (.var 0)) .nil .nil) (.num 1))) (.cons (.wr .u8 (.c2 .rd (.fn 13 (.c2 .drop (.var 4) (.var 0)) .nil .nil) (.num 2))) (.cons (.wr .u16 (.c2 .rd (.fn 13 (.c2 .drop (.var 4) (.var 0)) .nil .nil) (.num 3))) (.cons (.wr .u8 (.c2 .rd (.fn 13 (.c2 .drop (.var 4) (.var 0)) .nil .nil) (.num 4))) (.cons (.wr .u8 (.c2 .rd (.fn 13 (.c2 .drop (.var 4) (.var 0)) .nil .nil) (.num 5))) (.cons (.wr .u8 (.c2 .rd (.fn 13 (.c2 .drop (.var 4) (.var 0)) .nil .nil) (.num 6))) (.cons (.wr .u8 (.c2 .rd (.fn 13 (.c2 .drop (.var 4) (.var 0)) .nil .nil) (.num 7))) (.cons (.wr .u8 (.c2 .rd (.fn 13 (.c2 .drop (.var 4) (.var 0)) .nil .nil) (.num 8))) (.cons (.wr .u8 (.c2 .rd (.fn 13 (.c2 .drop (.var 4) (.var 0)) .nil .nil) (.num 9))) (.cons (.wr .u8 (.c2 .rd (.fn 13 (.c2 .drop (.var 4) (.var 0)) .nil .nil) (.num 10))) (.cons (.wr .u8 (.c2 .rd (.fn 13 (.c2 .drop (.var 4) (.var 0)) .nil .nil) (.num 11))) (.cons (.num 0) (.cons (.num 0) (.cons (.num 0) (.cons (.num 0) (.cons (.num 0) (.cons (.num 0) (.cons (.num 0) (.cons (.num 0) (.cons (.num 0) (.cons (.num 0) (.cons (.num 0) (.cons (.num 0) (.cons (.num 0) (.cons (.num 0) (.cons (.num 0) (.cons (.num 0) (.cons (.num 0) (.cons (.num 0) (.cons (.num 0) (.cons (.num 0) (.cons (.num 0) (.cons (.num 0) (.cons (.num 0) (.cons (.num 0) (.cons (.num 0) (.cons (.num 0) (.cons (.num 0) (.cons (.num 0) (.cons (.num 0) (.cons (.num 0) (.cons (.num 0) (.cons (.num 0) (.cons (.num 0) (.cons (.num 0) (.cons (.num 0) (.cons (.num 0) (.cons (.num 0) (.cons (.num 0) (.cons (.num 0) (.cons (.num 0) (.cons (.num 0) (.cons (.num 0) (.cons (.num 0) (.cons (.num 0) .nil))))))))))))))))))))))))))))))))))))))))))))))))))))))))))))))))))))))))) .nil .nil)), (.c1 .not (.c2 .eq (.wr .u8 (.fn 54 (.cons (.num 3) (.cons (.num 0) (.cons (.num 0) (.cons (.num 0) (.cons (.num 0) (.cons (.num 0) (.cons (.num 0) (.cons (.num 0) (.cons (.num 0) (.cons (.num 0) (.cons (.num 0) (.cons (.num 0) (.cons (.num 0) (.cons (.num 0) (.cons (.num 0) (.cons (.num 0) (.cons (.num 0) (.cons (.wr .u8 (.c2 .rd (.fn 13 (.c2 .drop (.var 4) (.var 0)) .nil .nil) (.num 0))) (.cons (.wr .u8 (.c2 .rd (.fn 13 (.c2 .drop (.var 4) (.var 0)) .nil .nil) (.num 1))) (.cons (.wr .u8 (.c2 .rd (.fn 13 (.c2 .drop (.var 4) (.var 0)) .nil .nil) (.num 2))) (.cons (.wr .u16 (.c2 .rd (.fn 13 (.c2 .drop (.var 4) (.var 0)) .nil .nil) (.num 3))) (.cons (.wr .u8 (.c2 .rd (.fn 13 (.c2 .drop (.var 4) (.var 0)) .nil .nil) (.num 4))) (.cons (.wr .u8 (.c2 .rd (.fn 13 (.c2 .drop (.var 4) (.var 0)) .nil .nil) (.num 5))) (.cons (.wr .u8 (.c2 .rd (.fn 13 (.c2 .drop (.var 4) (.var 0)) .nil .nil) (.num 6))) (.cons (.wr .u8 (.c2 .rd (.fn 13 (.c2 .drop (.var 4) (.var 0)) .nil .nil) (.num 7))) (.cons (.wr .u8 (.c2 .rd (.fn 13 (.c2 .drop (.var 4) (.var 0)) .nil .nil) (.num 8))) (.cons (.wr .u8 (.c2 .rd (.fn 13 (.c2 .drop (.var 4) (.var 0)) .nil .nil) (.num 9))) (.cons (.wr .u8 (.c2 .rd (.fn 13 (.c2 .drop (.var 4) (.var 0)) .nil .nil) (.num 10))) (.cons (.wr .u8 (.c2 .rd (.fn 13 (.c2 .drop (.var 4) (.var 0)) .nil .nil) (.num 11))) (.cons (.num 0) (.cons (.num 0) (.cons (.num 0) (.cons (.num 0) (.cons (.num 0) (.cons (.num 0) (.cons (.num 0) (.cons (.num 0) (.cons (.num 0) (.cons (.num 0) (.cons (.num 0) (.cons (.num 0) (.cons (.num 0) (.cons (.num 0) (.cons (.num 0) (.cons (.num 0) (.cons (.num 0) (.cons (.num 0) (.cons (.num 0) (.cons (.num 0) (.cons (.num 0) (.cons (.num 0) (.cons (.num 0) (.cons (.num 0) (.cons (.num 0) (.cons (.num 0) (.cons (.num 0) (.cons (.num 0) (.cons (.num 0) (.cons (.num 0) (.cons (.num 0) (.cons (.num 0) (.cons (.num 0) (.cons (.num 0) (.cons (.num 0) (.cons (.num 0) (.cons (.num 0) (.cons (.num 0) (.cons (.num 0) (.cons (.num 0) (.cons (.num 0) (.cons (.num 0) (.cons (.num 0) (.cons (.num 0) .nil))))))))))))))))))))))))))))))))))))))))))))))))))))))))))))))))))))))))) .nil .nil)) (.num 0))), (.wr .i64 (.c2 .add (.var 4) (.c2 .rd (.cons (.num 0) (.cons (.num 14) (.cons (.num 4) (.cons (.num 20) (.cons (.num 40) (.cons (.num 20) (.cons (.num 8) .nil))))))) (.var 2)))), (.c2 .app (.c2 .take (.c2 .mul (.var 1) (.num 73)) (.var 5)) (.cons (.num 3) (.cons (.num 0) (.cons (.num 0) (.cons (.num 0) (.cons (.num 0) (.cons (.num 0) (.cons (.num 0) (.cons (.num 0) (.cons (.num 0) (.cons (.num 0) (.cons (.num 0) (.cons (.num 0) (.cons (.num 0) (.cons (.num 0) (.cons (.num 0) (.cons (.num 0) (.cons (.num 0) (.cons (.wr .u8 (.c2 .rd (.fn 13 (.c2 .drop (.var 4) (.var 0)) .nil .nil) (.num 0))) (.cons (.wr .u8 (.c2 .rd (.fn 13 (.c2 .drop (.var 4) (.var 0)) .nil .nil) (.num 1))) (.cons (.wr .u8 (.c2 .rd (.fn 13 (.c2 .drop (.var 4) (.var 0)) .nil .nil) (.num 2))) (.cons (.wr .u16 (.c2 .rd (.fn 13 (.c2 .drop (.var 4) (.var 0)) .nil .nil) (.num 3))) (.cons (.wr .u8 (.c2 .rd (.fn 13 (.c2 .drop (.var 4) (.var 0)) .nil .nil) (.num 4))) (.cons (.wr .u8 (.c2 .rd (.fn 13 (.c2 .drop (.var 4) (.var 0)) .nil .nil) (.num 5))) (.cons (.wr .u8 (.c2 .rd (.fn 13 (.c2 .drop (.var 4) (.var 0)) .nil .nil) (.num 6))) (.cons (.wr .u8 (.c2 .rd (.fn 13 (.c2 .drop (.var 4) (.var 0)) .nil .nil) (.num 7))) (.cons (.wr .u8 (.c2 .rd (.fn 13 (.c2 .drop (.var 4) (.var 0)) .nil .nil) (.num 8))) (.cons (.wr .u8 (.c2 .rd (.fn 13 (.c2 .drop (.var 4) (.var 0)) .nil .nil) (.num 9))) (.cons (.wr .u8 (.c2 .rd (.fn 13 (.c2 .drop (.var 4) (.var 0)) .nil .nil) (.num 10))) (.cons (.wr .u8 (.c2 .rd (.fn 13 (.c2 .drop (.var 4) (.var 0)) .nil .nil) (.num 11))) (.cons (.num 0) (.cons (.num 0) (.cons (.num 0) (.cons (.num 0) (.cons (.num 0) (.cons (.num 0) (.cons (.num 0) (.cons (.num 0) (.cons (.num 0) (.cons (.num 0) (.cons (.num 0) (.cons (.num 0) (.cons (.num 0) (.cons (.num 0) (.cons (.num 0) (.cons (.num 0) (.cons (.num 0) (.cons (.num 0) (.cons (.num 0) (.cons (.num 0) (.cons (.num 0) (.cons (.num 0) (.cons (.num 0) (.cons (.num 0) (.cons (.num 0) (.cons (.num 0) (.cons (.num 0) (.cons (.num 0) (.cons (.num 0) (.cons (.num 0) (.cons (.num 0) (.cons (.num 0) (.cons (.num 0) (.cons (.num 0) (.cons (.num 0) (.cons (.num 0) (.cons (.num 0) (.cons (.num 0) (.cons (.num 0) (.cons (.num 0) (.cons (.num 0) (.cons (.num 0) (.cons (.num 0) (.cons (.num 0) .nil))))))))))))))))))))))))))))))))))))))))))))))))))))))))))))))))))))))))))])))
      (.split (.c2 .eq (.var 2) (.num 4))
       (.chk (.c1 (.kin [.u8]) (.c2 .drop (.var 4) (.var 0)))
       (.split (.c1 .not (.c2 .eq (.fn 24 (.c2 .drop (.var 4) (.var 0)) .nil .nil) (.num 0)))
        (.ret (.t [.c (.sn), .c (.sn), .c (.i .i64 (.fn 24 (.c2 .drop (.var 4) (.var 0)) .nil .nil))], ⟨[], [], 67, 6, []⟩))
        (.back 0 1 [(.c2 .add (.var 1) (.num 1)), (.wr .u8 (.fn 54 (.cons (.num 4) (.cons (.num 0) (.cons (.num 0) (.cons (.num 0) (.cons (.num 0) (.cons (.num 0) (.cons (.num 0) (.cons (.num 0) (.cons (.num 0) (.cons (.num 0) (.cons (.num 0) (.cons (.num 0) (.cons (.num 0) (.cons (.num 0) (.cons (.num 0) (.cons (.num 0) (.cons (.num 0) (.cons (.num 0) (.cons (.num 0) (.cons (.num 0) (.cons (.num 0) (.cons (.num 0) (.cons (.num 0) (.cons (.num 0) (.cons (.num 0) (.cons (.num 0) (.cons (.num 0) (.cons (.num 0) (.cons (.num 0) (.cons (.wr .u8 (.c2 .rd (.fn 14 (.c2 .drop (.var 4) (.var 0)) .nil .nil) (.num 0))) (.cons (.wr .u32 (.c2 .rd (.fn 14 (.c2 .drop (.var 4) (.var 0)) .nil .nil) (.num 1))) (.cons (.wr .u8 (.c2 .rd (.fn 14 (.c2 .drop (.var 4) (.var 0)) .nil .nil) (.num 2))) (.cons (.wr .u8 (.c2 .rd (.fn 14 (.c2 .drop (.var 4) (.var 0)) .nil .nil) (.num 3))) (.cons (.wr .u8 (.c2 .rd (.fn 14 (.c2 .drop (.var 4) (.var 0)) .nil .nil) (.num 4))) (.cons (.wr .u8 (.c2 .rd (.fn 14 (.c2 .drop (.var 4) (.var 0)) .nil .nil) (.num 5))) (.cons (.wr .u8 (.c2 .rd (.fn 14 (.c2 .drop (.var 4) (.var 0)) .nil .nil) (.num 6))) (.cons (.wr .u8 (.c2 .rd (.fn 14 (.c2 .drop (.var 4) (.var 0)) .nil .nil) (.num 7))) (.cons (.wr .u8 (.c2 .rd (.fn 14 (.c2 .drop (.var 4) (.var 0)) .nil .nil) (.num 8))) (.cons (.wr .u8 (.c2 .rd (.fn 14 (.c2 .drop (.var 4) (.var 0)) .nil .nil) (.num 9))) (.cons (.wr .u8 (.c2 .rd (.fn 14 (.c2 .drop (.var 4) (.var 0)) .nil .nil) (.num 10))) (.cons (.wr .u8 (.c2 .rd (.fn 14 (.c2 .drop (.var 4) (.var 0)) .nil .nil) (.num 11))) (.cons (.wr .u8 (.c2 .rd (.fn 14 (.c2 .drop (.var 4) (.var 0)) .nil .nil) (.num 12))) (.cons (.wr .u8 (.c2 .rd (.fn 14 (.c2 .drop (.var 4) (.var 0)) .nil .nil) (.num 13))) (.cons (.wr .u8 (.c2 .rd (.fn 14 (.c2 .drop (.var 4) (.var 0)) .nil .nil) (.num 14))) (.cons (.wr .u8 (.c2 .rd (.fn 14 (.c2 .drop (.var 4) (.var 0)) .nil .nil) (.num 15))) (.cons (.wr .u8 (.c2 .rd (.fn 14 (.c2 .drop (.var 4) (.var 0)) .nil .nil) (.num 16))) (.cons (.wr .u8 (.c2 .rd (.fn 14 (.c2 .drop (.var 4) (.var 0)) .nil .nil) (.num 17))) (.cons (.wr .u8 (.c2 .rd (.fn 14 (.c2 .drop (.var 4) (.var 0)) .nil .nil) (.num 18))) (.cons (.wr .u8 (.c2 .rd (.fn 14 (.c2 .drop (.var 4) (.var 0)) .nil .nil) (.num 19))) (.cons (.wr .u8 (.c2 .rd (.fn 14 (.c2 .drop (.var 4) (.var 0)) .nil .nil) (.num 20))) (.cons (.wr .u8 (.c2 .rd (.fn 14 (.c2 .drop (.var 4) (.var 0)) .nil .nil) (.num 21))) (.cons (.wr .u8 (.c2 .rd (.fn 14 (.c2 .drop (.var 4) (.var 0)) .nil .nil) (.num 22))) (.cons (.wr .u8 (.c2 .rd (.fn 14 (.c2 .drop (.var 4) (.var 0)) .nil .nil) (.num 23))) (.cons (.wr .u8 (.c2 .rd (.fn 14 (.c2 .drop (.var 4) (.var 0)) .nil .nil) (.num 24))) (.cons (.wr .u8 (.c2 .rd (.fn 14 (.c2 .drop (.var 4) (.var 0)) .nil .nil) (.num 25))) (.cons (.wr .u8 (.c2 .rd (.fn 14 (.c2 .drop (.var 4) (.var 0)) .nil .nil) (.num 26))) (.cons (.wr .u8 (.c2 .rd (.fn 14 (.c2 .drop (.var 4) (.var 0)) .nil .nil) (.num 27))) (.cons (.wr .u8 (.c2 .rd (.fn 14 (.c2 .drop (.var 4) (.var 0)) .nil .nil) (.num 28))) (.cons (.wr .u8 (.c2 .rd (.fn 14 (.c2 .drop (.var 4) (.var 0)) .nil .nil) (.num 29))) (.cons (.wr .u8 (.c2 .rd (.fn 14 (.c2 .drop (.var 4) (.var 0)) .nil .nil) (.num 30))) (.cons (.wr .u8 (.c2 .rd (.fn 14 (.c2 .drop (.var 4) (.var 0)) .nil .nil) (.num 31))) (.cons (.wr .u8 (.c2 .rd (.fn 14 (.c2 .drop (.var 4) (.var 0)) .nil .nil) (.num 32))) (.cons (.wr .u8 (.c2 .rd (.fn 14 (.c2 .drop (.var 4) (.var 0)) .nil .nil) (.num 33))) (.cons (.wr .u8 (.c2 .rd (.fn 14 (.c2 .drop (.var 4) (.var 0)) .nil .nil) (.num 34))) (.cons (.wr .u8 (.c2 .rd (.fn 14 (.c2 .drop (.var 4) (.var 0)) .nil .nil) (.num 35))) (.cons (.num 0) (.cons (.num 0) (.cons (.num 0) (.cons (.num 0) (.cons (.num 0) (.cons (.num 0) (.cons (.num 0) (.cons (.num 0) .nil))))))))))))))))))))))))))))))))))))))))))))))))))))))))))))))))))))))))) .nil .nil)), (.c1 .not (.c2 .eq (.wr .u8 (.fn 54 (.cons (.num 4) (.cons (.num 0) (.cons (.num 0) (.cons (.num 0) (.cons (.num 0) (.cons (.num 0) (.cons (.num 0) (.cons (.num 0) (.cons (.num 0) (.cons (.num 0) (.cons (.num 0) (.cons (.num 0) (.cons (.num 0) (.cons (.num 0) (.cons (.num 0) (.cons (.num 0) (.cons (.num 0) (.cons (.num 0) (.cons (.num 0) (.cons (.num 0) (.cons (.num 0) (.cons (.num 0) (.cons (.num 0) (.cons (.num 0) (.cons (.num 0) (.cons (.num 0) (.cons (.num 0) (.cons (.num 0) (.cons (.num 0) (.cons (.wr .u8 (.c2 .rd (.fn 14 (.c2 .drop (.var 4) (.var 0)) .nil .nil) (.num 0))) (.cons (.wr .u32 (.c2 .rd (.fn 14 (.c2 .drop (.var 4) (.var 0)) .nil .nil) (.num 1))) (.cons (.wr .u8 (.c2 .rd (.fn 14 (.c2 .drop (.var 4) (.var 0)) .nil .nil) (.num 2))) (.cons (.wr .u8 (.c2 .rd (.fn 14 (.c2 .drop (.var 4) (.var 0)) .nil .nil) (.num 3))) (.cons (.wr .u8 (.c2 .rd (.fn 14 (.c2 .drop (.var 4) (.var 0)) .nil .nil) (.num 4))) (.cons (.wr .u8 (.c2 .rd (.fn 14 (.c2 .drop (.var 4) (.var 0)) .nil .nil) (.num 5))) (.cons (.wr .u8 (.c2 .rd (.fn 14 (.c2 .drop (.var 4) (.var 0)) .nil .nil) (.num 6))) (.cons (.wr .u8 (.c2 .rd (.fn 14 (.c2 .drop (.var 4) (.var 0)) .nil .nil) (.num 7))) (.cons (.wr .u8 (.c2 .rd (.fn 14 (.c2 .drop (.var 4) (.var 0)) .nil .nil) (.num 8))) (.cons (.wr .u8 (.c2 .rd (.fn 14 (.c2 .drop (.var 4) (.var 0)) .nil .nil) (.num 9))) (.cons (.wr .u8 (.c2 .rd (.fn 14 (.c2 .drop (.var 4) (.var 0)) .nil .nil) (.num 10))) (.cons (.wr .u8 (.c2 .rd (.fn 14 (.c2 .drop (.var 4) (.var 0)) .nil .nil) (.num 11))) (.cons (.wr .u8 (.c2 .rd (.fn 14 (.c2 .drop (.var 4) (.var 0)) .nil .nil) (.num 12))) (.cons (.wr .u8 (.c2 .rd (.fn 14 (.c2 .drop (.var 4) (.var 0)) .nil .nil) (.num 13))) (.cons (.wr .u8 (.c2 .rd (.fn 14 (.c2 .drop (.var 4) (.var 0)) .nil .nil) (.num 14))) (.cons (.wr .u8 (.c2 .rd (.fn 14 (.c2 .drop (.var 4) (.var 0)) .nil .nil) (.num 15))) (.cons (.wr .u8 (.c2 .rd (.fn 14 (.c2 .drop (.var 4) (.var 0)) .nil .nil) (.num 16))) (.cons (.wr .u8 (.c2 .rd (.fn 14 (.c2 .drop (.var 4) (.var 0)) .nil .nil) (.num 17))) (.cons (.wr .u8 (.c2 .rd (.fn 14 (.c2 .drop (.var 4) (.var 0)) .nil .nil) (.num 18))) (.cons (.wr .u8 (.c2 .rd (.fn 14 (.c2 .drop (.var 4) (.var 0)) .nil .nil) (.num 19))) (.cons (.wr .u8 (.c2 .rd (.fn 14 (.c2 .drop (.var 4) (.var 0)) .nil .nil) (.num 20))) (.cons (.wr .u8 (.c2 .rd (.fn 14 (.c2 .drop (.var 4) (.var 0)) .nil .nil) (.num 21))) (.cons (.wr .u8 (.c2 .rd (.fn 14 (.c2 .drop (.var 4) (.var 0)) .nil .nil) (.num 22))) (.cons (.wr .u8 (.c2 .rd (.fn 14 (.c2 .drop (.var 4) (.var 0)) .nil .nil) (.num 23))) (.cons (.wr .u8 (.c2 .rd (.fn 14 (.c2 .drop (.var 4) (.var 0)) .nil .nil) (.num 24))) (.cons (.wr .u8 (.c2 .rd (.fn 14 (.c2 .drop (.var 4) (.var 0)) .nil .nil) (.num 25))) (.cons (.wr .u8 (.c2 .rd (.fn 14 (.c2 .drop (.var 4) (.var 0)) .nil .nil) (.num 26))) (.cons (.wr .u8 (.c2 .rd (.fn 14 (.c2 .drop (.var 4) (.var 0)) .nil .nil) (.num 27))) (.cons (.wr .u8 (.c2 .rd (.fn 14 (.c2 .drop (.var 4) (.var 0)) .nil .nil) (.num 28))) (.cons (.wr .u8 (.c2 .rd (.fn 14 (.c2 .drop (.var 4) (.var 0)) .nil .nil) (.num 29))) (.cons (.wr .u8 (.c2 .rd (.fn 14 (.c2 .drop (.var 4) (.var 0)) .nil .nil) (.num 30))) (.cons (.wr .u8 (.c2 .rd (.fn 14 (.c2 .drop (.var 4) (.var 0)) .nil .nil) (.num 31))) (.cons (.wr .u8 (.c2 .rd (.fn 14 (.c2 .drop (.var 4) (.var 0)) .nil .nil) (.num 32))) (.cons (.wr .u8 (.c2 .rd (.fn 14 (.c2 .drop (.var 4) (.var 0)) .nil .nil) (.num 33))) (.cons (.wr .u8 (.c2 .rd (.fn 14 (.c2 .drop (.var 4) (.var 0)) .nil .nil) (.num 34))) (.cons (.wr .u8 (.c2 .rd (.fn 14 (.c2 .drop (.var 4) (.var 0)) .nil .nil) (.num 35))) (.cons (.num 0) (.cons (.num 0) (.cons (.num 0) (.cons (.num 0) (.cons (.num 0) (.cons (.num 0) (.cons (.num 0) (.cons (.num 0) .nil))))))))))))))))))))))))))))))))))))))))))))))))))))))))))))))))))))))))) .nil .nil)) (.num 0))), (.wr .i64 (.c2 .add (.var 4) (.c2 .rd (.cons (.num 0) (.cons (.num 14) (.cons (.num 4) (.cons (.num 20) (.cons (.num 40) (.cons (.num 20) (.cons (.num 8) .nil))))))) (.var 2)))), (.c2 .app (.c2 .take (.c2 .mul (.var 1) (.num 73)) (.var 5)) (.cons (.num 4) (.cons (.num 0) (.cons (.num 0) (.cons (.num 0) (.cons (.num 0) (.cons (.num 0) (.cons (.num 0) (.cons (.num 0) (.cons (.num 0) (.cons (.num 0) (.cons (.num 0) (.cons (.num 0) (.cons (.num 0) (.cons (.num 0) (.cons (.num 0) (.cons (.num 0) (.cons (.num 0) (.cons (.num 0) (.cons (.num 0) (.cons (.num 0) (.cons (.num 0) (.cons (.num 0) (.cons (.num 0) (.cons (.num 0) (.cons (.num 0) (.cons (.num 0) (.cons (.num 0) (.cons (.num 0) (.cons (.num 0) (.cons (.wr .u8 (.c2 .rd (.fn 14 (.c2 .drop (.var 4) (.var 0)) .nil .nil) (.num 0))) (.cons (.wr .u32 (.c2 .rd (.fn 14 (.c2 .drop (.var 4) (.var 0)) .nil .nil) (.num 1))) (.cons (.wr .u8 (.c2 .rd (.fn 14 (.c2 .drop (.var 4) (.var 0)) .nil .nil) (.num 2))) (.cons (.wr .u8 (.c2 .rd (.fn 14 (.c2 .drop (.var 4) (.var 0)) .nil .nil) (.num 3))) (.cons (.wr .u8 (.c2 .rd (.fn 14 (.c2 .drop (.var 4) (.var 0)) .nil .nil) (.num 4))) (.cons (.wr .u8 (.c2 .rd (.fn 14 (.c2 .drop (.var 4) (.var 0)) .nil .nil) (.num 5))) (.cons (.wr .u8 (.c2 .rd (.fn 14 (.c2 .drop (.var 4) (.var 0)) .nil .nil) (.num 6))) (.cons (.wr .u8 (.c2 .rd (.fn 14 (.c2 .drop (.var 4) (.var 0)) .nil .nil) (.num 7))) (.cons (.wr .u8 (.c2 .rd (.fn 14 (.c2 .drop (.var 4) (.var 0)) .nil .nil) (.num 8))) (.cons (.wr .u8 (.c2 .rd (.fn 14 (.c2 .drop (.var 4) (.var 0)) .nil .nil) (.num 9))) (.cons (.wr .u8 (.c2 .rd (.fn 14 (.c2 .drop (.var 4) (.var 0)) .nil .nil) (.num 10))) (.cons (.wr .u8 (.c2 .rd (.fn 14 (.c2 .drop (.var 4) (.var 0)) .nil .nil) (.num 11))) (.cons (.wr .u8 (.c2 .rd (.fn 14 (.c2 .drop (.var 4) (.var 0)) .nil .nil) (.num 12))) (.cons (.wr .u8 (.c2 .rd (.fn 14 (.c2 .drop (.var 4) (.var 0)) .nil .nil) (.num 13))) (.cons (.wr .u8 (.c2 .rd (.fn 14 (.c2 .drop (.var 4) (.var 0)) .nil .nil) (.num 14))) (.cons (.wr .u8 (.c2 .rd (.fn 14 (.c2 .drop (.var 4) (.var 0)) .nil .nil) (.num 15))) (.cons (.wr .u8 (.c2 .rd (.fn 14 (.c2 .drop (.var 4) (.var 0)) .nil .nil) (.num 16))) (.cons (.wr .u8 (.c2 .rd (.fn 14 (.c2 .drop (.var 4) (.var 0)) .nil .nil) (.num 17))) (.cons (.wr .u8 (.c2 .rd (.fn 14 (.c2 .drop (.var 4) (.var 0)) .nil .nil) (.num 18))) (.cons (.wr .u8 (.c2 .rd (.fn 14 (.c2 .drop (.var 4) (.var 0)) .nil .nil) (.num 19))) (.cons (.wr .u8 (.c2 .rd (.fn 14 (.c2 .drop (.var 4) (.var 0)) .nil .nil) (.num 20))) (.cons (.wr .u8 (.c2 .rd (.fn 14 (.c2 .drop (.var 4) (.var 0)) .nil .nil) (.num 21))) (.cons (.wr .u8 (.c2 .rd (.fn 14 (.c2 .drop (.var 4) (.var 0)) .nil .nil) (.num 22))) (.cons (.wr .u8 (.c2 .rd (.fn 14 (.c2 .drop (.var 4) (.var 0)) .nil .nil) (.num 23))) (.cons (.wr .u8 (.c2 .rd (.fn 14 (.c2 .drop (.var 4) (.var 0)) .nil .nil) (.num 24))) (.cons (.wr .u8 (.c2 .rd (.fn 14 (.c2 .drop (.var 4) (.var 0)) .nil .nil) (.num 25))) (.cons (.wr .u8 (.c2 .rd (.fn 14 (.c2 .drop (.var 4) (.var 0)) .nil .nil) (.num 26))) (.cons (.wr .u8 (.c2 .rd (.fn 14 (.c2 .drop (.var 4) (.var 0)) .nil .nil) (.num 27))) (.cons (.wr .u8 (.c2 .rd (.fn 14 (.c2 .drop (.var 4) (.var 0)) .nil .nil) (.num 28))) (.cons (.wr .u8 (.c2 .rd (.fn 14 (.c2 .drop (.var 4) (.var 0)) .nil .nil) (.num 29))) (.cons (.wr .u8 (.c2 .rd (.fn 14 (.c2 .drop (.var 4) (.var 0)) .nil .nil) (.num 30))) (.cons (.wr .u8 (.c2 .rd (.fn 14 (.c2 .drop (.var 4) (.var 0)) .nil .nil) (.num 31))) (.cons (.wr .u8 (.c2 .rd (.fn 14 (.c2 .drop (.var 4) (.var 0)) .nil .nil) (.num 32))) (.cons (.wr .u8 (.c2 .rd (.fn 14 (.c2 .drop (.var 4) (.var 0)) .nil .nil) (.num 33))) (.cons (.wr .u8 (.c2 .rd (.fn 14 (.c2 .drop (.var 4) (.var 0)) .nil .nil) (.num 34))) (.cons (.wr .u8 (.c2 .rd (.fn 14 (.c2 .drop (.var 4) (.var 0)) .nil .nil) (.num 35))) (.cons (.num 0) (.cons (.num 0) (.cons (.num 0) (.cons (.num 0) (.cons (.num 0) (.cons (.num 0) (.cons (.num 0) (.cons (.num 0) .nil))))))))))))))))))))))))))))))))))))))))))))))))))))))))))))))))))))))))))])))
       (.split (.c2 .eq (.var 2) (.num 5))
        (.chk (.c1 (.kin [.u8]) (.c2 .drop (.var 4) (.var 0)))
        (.split (.c1 .not (.c2 .eq (.fn 25 (.c2 .drop (.var 4) (.var 0)) .nil .nil) (.num 0)))
         (.ret (.t [.c (.sn), .c (.sn), .c (.i .i64 (.fn 25 (.c2 .drop (.var 4) (.var 0)) .nil .nil))], ⟨[], [], 67, 6, []⟩))
         (.back 0 1 [(.c2 .add (.var 1) (.num 1)), (.wr .u8 (.fn 54 (.cons (.num 5) (.cons (.num 0) (.cons (.num 0) (.cons (.num 0) (.cons (.num 0) (.cons (.num 0) (.cons (.num 0) (.cons (.num 0) (.cons (.num 0) (.cons (.num 0) (.cons (.num 0) (.cons (.num 0) (.cons (.num 0) (.cons (.num 0) (.cons (.num 0) (.cons (.num 0) (.cons (.num 0) (.cons (.num 0) (.cons (.num 0) (.cons (.num 0) (.cons (.num 0) (.cons (.num 0) (.cons (.num 0) (.cons (.num 0) (.cons (.num 0) (.cons (.num 0) (.cons (.num 0) (.cons (.num 0) (.cons (.num 0) (.cons (.num 0) (.cons (.num 0) (.cons (.num 0) (.cons (.num 0) (.cons (.num 0) (.cons (.num 0) (.cons (.num 0) (.cons (.num 0) (.cons (.num 0) (.cons (.num 0) (.cons (.num 0) (.cons (.num 0) (.cons (.num 0) (.cons (.num 0) (.cons (.num 0) (.cons (.num 0) (.cons (.num 0) (.cons (.num 0) (.cons (.num 0) (.cons (.num 0) (.cons (.num 0) (.cons (.num 0) (.cons (.num 0) (.cons (.num 0) (.cons (.num 0) (.cons (.num 0) (.cons (.num 0) (.cons (.num 0) (.cons (.num 0) (.cons (.num 0) (.cons (.num 0) (.cons (.num 0) (.cons (.num 0) (.cons (.num 0) (.cons (.num 0) (.cons (.num 0) (.cons (.wr .u16 (.c2 .rd (.fn 15 (.c2 .drop (.var 4) (.var 0)) .nil .nil) (.num 0))) (.cons (.wr .u16 (.c2 .rd (.fn 15 (.c2 .drop (.var 4) (.var 0)) .nil .nil) (.num 1))) (.cons (.wr .u32 (.c2 .rd (.fn 15 (.c2 .drop (.var 4) (.var 0)) .nil .nil) (.num 2))) (.cons (.wr .u32 (.c2 .rd (.fn 15 (.c2 .drop (.var 4) (.var 0)) .nil .nil) (.num 3))) (.cons (.wr .u8 (.c2 .rd (.fn 15 (.c2 .drop (.var 4) (.var 0)) .nil .nil) (.num 4))) (.cons (.wr .u16 (.c2 .rd (.fn 15 (.c2 .drop (.var 4) (.var 0)) .nil .nil) (.num 5))) (.cons (.num 0) (.cons (.num 0) .nil))))))))))))))))))))))))))))))))))))))))))))))))))))))))))))))))))))))))) .nil .nil)), (.c1 .not (.c2 .eq (.wr .u8 (.fn 54 (.cons (.num 5) (.cons (.num 0) (.cons (.num 0) (.cons (.num 0) (.cons (.num 0) (.cons (.num 0) (.cons (.num 0) (.cons (.num 0) (.cons (.num 0) (.cons (.num 0) (.cons (.num 0) (.cons (.num 0) (.cons (.num 0) (.cons (.num 0) (.cons (.num 0) (.cons (.num 0) (.cons (.num 0) (.cons (.num 0) (.cons (.num 0) (.cons (.num 0) (.cons (.num 0) (.cons (.num 0) (.cons (.num 0) (.cons (.num 0) (.cons (.num 0) (.cons (.num 0) (.cons (.num 0) (.cons (.num 0) (.cons (.num 0) (.cons (.num 0) (.cons (.num 0) (.cons (.num 0) (.cons (.num 0) (.cons (.num 0) (.cons (.num 0) (.cons (.num 0) (.cons (.num 0) (.cons (.num 0) (.cons (.num 0) (.cons (.num 0) (.cons (.num 0) (.cons (.num 0) (.cons (.num 0) (.cons (.num 0) (.cons (.num 0) (.cons (.num 0) (.cons (.num 0) (.cons (.num 0) (.cons (.num 0) (.cons (.num 0) (.cons (.num 0) (.cons (.num 0) (.cons (.num 0) (.cons (.num 0) (.cons (.num 0) (.cons (.num 0) (.cons (.num 0) (.cons (.num 0) (.cons (.num 0) (.cons (.num 0) (.cons (.num 0) (.cons (.num 0) (.cons (.num 0) (.cons (.num 0) (.cons (.num 0) (.cons (.wr .u16 (.c2 .rd (.fn 15 (.c2 .drop (.var 4) (.var 0)) .nil .nil) (.num 0))) (.cons (.wr .u16 (.c2 .rd (.fn 15 (.c2 .drop (.var 4) (.var 0)) .nil .nil) (.num 1))) (.cons (.wr .u32 (.c2 .rd (.fn 15 (.c2 .drop (.var 4) (.var 0)) .nil .nil) (.num 2))) (.cons (.wr .u32 (.c2 .rd (.fn 15 (.c2 .drop (.var 4) (.var 0)) .nil .nil) (.num 3))) (.cons (.wr .u8 (.c2 .rd (.fn 15 (.c2 .drop (.var 4) (.var 0)) .nil .nil) (.num 4))) (.cons (.wr .u16 (.c2 .rd (.fn 15 (.c2 .drop (.var 4) (.var 0)) .nil .nil) (.num 5))) (.cons (.num 0) (.cons (.num 0) .nil))))))))))))))))))))))))))))))))))))))))))))))))))))))))))))))))))))))))) .nil .nil)) (.num 0))), (.wr .i64 (.c2 .add (.var 4) (.c2 .rd (.cons (.num 0) (.cons (.num 14) (.cons (.num 4) (.cons (.num 20) (.cons (.num 40) (.cons (.num 20) (.cons (.num 8) .nil))))))) (.var 2)))), (.c2 .app (.c2 .take (.c2 .mul (.var 1) (.num 73)) (.var 5)) (.cons (.num 5) (.cons (.num 0) (.cons (.num 0) (.cons (.num 0) (.cons (.num 0) (.cons (.num 0) (.cons (.num 0) (.cons (.num 0) (.cons (.num 0) (.cons (.num 0) (.cons (.num 0) (.cons (.num 0) (.cons (.num 0) (.cons (.num 0) (.cons (.num 0) (.cons (.num 0) (.cons (.num 0) (.cons (.num 0) (.cons (.num 0) (.cons (.num 0) (.cons (.num 0) (.cons (.num 0) (.cons (.num 0) (.cons (.num 0) (.cons (.num 0) (.cons (.num 0) (.cons (.num 0) (.cons (.num 0) (.cons (.num 0) (.cons (.num 0) (.cons (.num 0) (.cons (.num 0) (.cons (.num 0) (.cons (.num 0) (.cons (.num 0) (.cons (.num 0) (.cons (.num 0) (.cons (.num 0) (.cons (.num 0) (.cons (.num 0) (.cons (.num 0) (.cons (.num 0) (.cons (.num 0) (.cons (.num 0) (.cons (.num 0) (.cons (.num 0) (.cons (.num 0) (.cons (.num 0) (.cons (.num 0) (.cons (.num 0) (.cons (.num 0) (.cons (.num 0) (.cons (.num 0) (.cons (.num 0) (.cons (.num 0) (.cons (.num 0) (.cons (.num 0) (.cons (.num 0) (.cons (.num 0) (.cons (.num 0) (.cons (.num 0) (.cons (.num 0) (.cons (.num 0) (.cons (.num 0) (.cons (.num 0) (.cons (.wr .u16 (.c2 .rd (.fn 15 (.c2 .drop (.var 4) (.var 0)) .nil .nil) (.num 0))) (.cons (.wr .u16 (.c2 .rd (.fn 15 (.c2 .drop (.var 4) (.var 0)) .nil .nil) (.num 1))) (.cons (.wr .u32 (.c2 .rd (.fn 15 (.c2 .drop (.var 4) (.var 0)) .nil .nil) (.num 2))) (.cons (.wr .u32 (.c2 .rd (.fn 15 (.c2 .drop (.var 4) (.var 0)) .nil .nil) (.num 3))) (.cons (.wr .u8 (.c2 .rd (.fn 15 (.c2 .drop (.var 4) (.var 0)) .nil .nil) (.num 4))) (.cons (.wr .u16 (.c2 .rd (.fn 15 (.c2 .drop (.var 4) (.var 0)) .nil .nil) (.num 5))) (.cons (.num 0) (.cons (.num 0) .nil))))))))))))))))))))))))))))))))))))))))))))))))))))))))))))))))))))))))))])))
        (.chk (.c1 (.kin [.u8]) (.c2 .drop (.var 4) (.var 0)))
        (.split (.c1 .not (.c2 .eq (.fn 26 (.c2 .drop (.var 4) (.var 0)) .nil .nil) (.num 0)))
         (.ret (.t [.c (.sn), .c (.sn), .c (.i .i64 (.fn 26 (.c2 .drop (.var 4) (.var 0)) .nil .nil))], ⟨[], [], 67, 6, []⟩))
         (.back 0 1 [(.c2 .add (.var 1) (.num 1)), (.wr .u8 (.fn 54 (.cons (.num 6) (.cons (.num 0) (.cons (.num 0) (.cons (.num 0) (.cons (.num 0) (.cons (.num 0) (.cons (.num 0) (.cons (.num 0) (.cons (.num 0) (.cons (.num 0) (.cons (.num 0) (.cons (.num 0) (.cons (.num 0) (.cons (.num 0) (.cons (.num 0) (.cons (.num 0) (.cons (.num 0) (.cons (.num 0) (.cons (.num 0) (.cons (.num 0) (.cons (.num 0) (.cons (.num 0) (.cons (.num 0) (.cons (.num 0) (.cons (.num 0) (.cons (.num 0) (.cons (.num 0) (.cons (.num 0) (.cons (.num 0) (.cons (.num 0) (.cons (.num 0) (.cons (.num 0) (.cons (.num 0) (.cons (.num 0) (.cons (.num 0) (.cons (.num 0) (.cons (.num 0) (.cons (.num 0) (.cons (.num 0) (.cons (.num 0) (.cons (.num 0) (.cons (.num 0) (.cons (.num 0) (.cons (.num 0) (.cons (.num 0) (.cons (.num 0) (.cons (.num 0) (.cons (.num 0) (.cons (.num 0) (.cons (.num 0) (.cons (.num 0) (.cons (.num 0) (.cons (.num 0) (.cons (.num 0) (.cons (.num 0) (.cons (.num 0) (.cons (.num 0) (.cons (.num 0) (.cons (.num 0) (.cons (.num 0) (.cons (.num 0) (.cons (.num 0) (.cons (.num 0) (.cons (.num 0) (.cons (.num 0) (.cons (.num 0) (.cons (.num 0) (.cons (.num 0) (.cons (.num 0) (.cons (.num 0) (.cons (.num 0) (.cons (.wr .u16 (.c2 .rd (.fn 16 (.c2 .drop (.var 4) (.var 0)) .nil .nil) (.num 0))) (.cons (.wr .u16 (.c2 .rd (.fn 16 (.c2 .drop (.var 4) (.var 0)) .nil .nil) (.num 1))) .nil))))))))))))))))))))))))))))))))))))))))))))))))))))))))))))))))))))))))) .nil .nil)), (.c1 .not (.c2 .eq (.wr .u8 (.fn 54 (.cons (.num 6) (.cons (.num 0) (.cons (.num 0) (.cons (.num 0) (.cons (.num 0) (.cons (.num 0) (.cons (.num 0) (.cons (.num 0) (.cons (.num 0) (.cons (.num 0) (.cons (.num 0) (.cons (.num 0) (.cons (.num 0) (.cons (.num 0) (.cons (.num 0) (.cons (.num 0) (.cons (.num 0) (.cons (.num 0) (.cons (.num 0) (.cons (.num 0) (.cons (.num 0) (.cons (.num 0) (.cons (.num 0) (.cons (.num 0) (.cons (.num 0) (.cons (.num 0) (.cons (.num 0) (.cons (.num 0) (.cons (.num 0) (.cons (.num 0) (.cons (.num 0) (.cons (.num 0) (.cons (.num 0) (.cons (.num 0) (.cons (.num 0) (.cons (.num 0) (.cons (.num 0) (.cons (.num 0) (.cons (.num 0) (.cons (.num 0) (.cons (.num 0) (.cons (.num 0) (.cons (.num 0) (.cons (.num 0) (.cons (.num 0) (.cons (.num 0) (.cons (.num 0) (.cons (.num 0) (.cons (.num 0) (.cons (.num 0) (.cons (.num 0) (.cons (.num 0) (.cons (.num 0) (.cons (.num 0) (.cons (.num 0) (.cons (.num 0) (.cons (.num 0) (.cons (.num 0) (.cons (.num 0) (.cons (.num 0) (.cons (.num 0) (.cons (.num 0) (.cons (.num 0) (.cons (.num 0) (.cons (.num 0) (.cons (.num 0) (.cons (.num 0) (.cons (.num 0) (.cons (.num 0) (.cons (.num 0) (.cons (.num 0) (.cons (.wr .u16 (.c2 .rd (.fn 16 (.c2 .drop (.var 4) (.var 0)) .nil .nil) (.num 0))) (.cons (.wr .u16 (.c2 .rd (.fn 16 (.c2 .drop (.var 4) (.var 0)) .nil .nil) (.num 1))) .nil))))))))))))))))))))))))))))))))))))))))))))))))))))))))))))))))))))))))) .nil .nil)) (.num 0))), (.wr .i64 (.c2 .add (.var 4) (.c2 .rd (.cons (.num 0) (.cons (.num 14) (.cons (.num 4) (.cons (.num 20) (.cons (.num 40) (.cons (.num 20) (.cons (.num 8) .nil))))))) (.var 2)))), (.c2 .app (.c2 .take (.c2 .mul (.var 1) (.num 73)) (.var 5)) (.cons (.num 6) (.cons (.num 0) (.cons (.num 0) (.cons (.num 0) (.cons (.num 0) (.cons (.num 0) (.cons (.num 0) (.cons (.num 0) (.cons (.num 0) (.cons (.num 0) (.cons (.num 0) (.cons (.num 0) (.cons (.num 0) (.cons (.num 0) (.cons (.num 0) (.cons (.num 0) (.cons (.num 0) (.cons (.num 0) (.cons (.num 0) (.cons (.num 0) (.cons (.num 0) (.cons (.num 0) (.cons (.num 0) (.cons (.num 0) (.cons (.num 0) (.cons (.num 0) (.cons (.num 0) (.cons (.num 0) (.cons (.num 0) (.cons (.num 0) (.cons (.num 0) (.cons (.num 0) (.cons (.num 0) (.cons (.num 0) (.cons (.num 0) (.cons (.num 0) (.cons (.num 0) (.cons (.num 0) (.cons (.num 0) (.cons (.num 0) (.cons (.num 0) (.cons (.num 0) (.cons (.num 0) (.cons (.num 0) (.cons (.num 0) (.cons (.num 0) (.cons (.num 0) (.cons (.num 0) (.cons (.num 0) (.cons (.num 0) (.cons (.num 0) (.cons (.num 0) (.cons (.num 0) (.cons (.num 0) (.cons (.num 0) (.cons (.num 0) (.cons (.num 0) (.cons (.num 0) (.cons (.num 0) (.cons (.num 0) (.cons (.num 0) (.cons (.num 0) (.cons (.num 0) (.cons (.num 0) (.cons (.num 0) (.cons (.num 0) (.cons (.num 0) (.cons (.num 0) (.cons (.num 0) (.cons (.num 0) (.cons (.num 0) (.cons (.wr .u16 (.c2 .rd (.fn 16 (.c2 .drop (.var 4) (.var 0)) .nil .nil) (.num 0))) (.cons (.wr .u16 (.c2 .rd (.fn 16 (.c2 .drop (.var 4) (.var 0)) .nil .nil) (.num 1))) .nil))))))))))))))))))))))))))))))))))))))))))))))))))))))))))))))))))))))))))])))))))))
  (.ret (.t [.c (.s 1 73 0 (.num 0) (.var 1)), .c (.s 2 1 0 (.num 0) (.c2 .sub (.c1 .len (.var 0)) (.var 4))), .c (.i .i64 (.num 0))], ⟨[], [(2, some ⟨true, .row [.u8] (.c2 .take (.c2 .sub (.c1 .len (.var 0)) (.var 4)) (.c2 .drop (.var 4) (.var 0)))⟩), (1, some ⟨true, .row [.u8, .u8, .u8, .u8, .u8, .u8, .u8, .u8, .u8, .u8, .u8, .u8, .u8, .u16, .u8, .u16, .u16, .u8, .u8, .u8, .u16, .u8, .u8, .u8, .u8, .u8, .u8, .u8, .u8, .u8, .u32, .u8, .u8, .u8, .u8, .u8, .u8, .u8, .u8, .u8, .u8, .u8, .u8, .u8, .u8, .u8, .u8, .u8, .u8, .u8, .u8, .u8, .u8, .u8, .u8, .u8, .u8, .u8, .u8, .u8, .u8, .u8, .u8, .u8, .u8, .u16, .u16, .u32, .u32, .u8, .u16, .u16, .u16] (.var 5)⟩)], 3, 6, []⟩))))
theorem treePePeelR_is : funTree (ctxN Go.Proofs.Try.prog annsPe consPe 8) annsPe 12 (tPeel 1 2).vs (tPeel 1 2).bs (tPeel 1 2).n (preF (tPeel 1 2).res) = treePePeelR := by kernel_rfl
end Go.Proofs.Ytbiodlomlendkaa.Sx
/- Sx laws of peeling: the contracts of Next and Peel, the program's and the document's. Conditions: none. -/
set_option linter.unusedVariables false
set_option linter.unusedSimpArgs false
namespace Go.Proofs.Ytbiodlomlendkaa.Sx
open Go
theorem next_ok {Φ : Sig} (hΦ : PeSig Φ) : TmplOk Go.Proofs.Try.prog Φ 18 tNext := by
  refine tmpl_of noCons treePeNext_is (fun ρ res hres => ⟨eqJ, ?_⟩)
  obtain ⟨_, hres⟩ := chk_some hres
  obtain rfl := ret_some hres
  have hN := next_vars Φ ρ
  refine ⟨fun c1 => ?_, fun c1 => ?_⟩
  · refine ⟨fun c2 => ?_, fun c2 => ?_⟩
    · simp at c1 c2
      refine leaf_next hΦ (z := 2) ?_ rfl (by decide)
      rw [hN]
      simp only [byT, byP]
      repeat' split
      all_goals first | rfl | omega
    · refine ⟨fun c3 => ?_, fun c3 => ?_⟩
      · simp at c1 c2 c3
        refine leaf_next hΦ (z := 3) ?_ rfl (by decide)
        rw [hN]
        simp only [byT, byP]
        repeat' split
        all_goals first | rfl | omega
      · refine ⟨fun c4 => ?_, fun c4 => ?_⟩
        · simp at c1 c2 c3 c4
          refine leaf_next hΦ (z := 4) ?_ rfl (by decide)
          rw [hN]
          simp only [byT, byP]
          repeat' split
          all_goals first | rfl | omega
        · simp at c1 c2 c3 c4
          refine leaf_next hΦ (z := 0) ?_ rfl (by decide)
          rw [hN]
          simp only [byT, byP]
          repeat' split
          all_goals first | rfl | omega
  · refine ⟨fun c5 => ?_, fun c5 => ?_⟩
    · refine ⟨fun c6 => ?_, fun c6 => ?_⟩
      · simp at c1 c5 c6
        refine leaf_next hΦ (z := 2) ?_ rfl (by decide)
        rw [hN]
        simp only [byT, byP]
        repeat' split
        all_goals first | rfl | omega
      · refine ⟨fun c7 => ?_, fun c7 => ?_⟩
        · simp at c1 c5 c6 c7
          refine leaf_next hΦ (z := 3) ?_ rfl (by decide)
          rw [hN]
          simp only [byT, byP]
          repeat' split
          all_goals first | rfl | omega
        · refine ⟨fun c8 => ?_, fun c8 => ?_⟩
          · simp at c1 c5 c6 c7 c8
            refine leaf_next hΦ (z := 4) ?_ rfl (by decide)
            rw [hN]
            simp only [byT, byP]
            repeat' split
            all_goals first | rfl | omega
          · simp at c1 c5 c6 c7 c8
            refine leaf_next hΦ (z := 0) ?_ rfl (by decide)
            rw [hN]
            simp only [byT, byP]
            repeat' split
            all_goals first | rfl | omega
    · refine ⟨fun c9 => ?_, fun c9 => ?_⟩
      · refine ⟨fun c10 => ?_, fun c10 => ?_⟩
        · simp at c1 c5 c9 c10
          refine leaf_next hΦ (z := 5) ?_ rfl (by decide)
          rw [hN]
          simp only [byT, byP]
          repeat' split
          all_goals first | rfl | omega
        · refine ⟨fun c11 => ?_, fun c11 => ?_⟩
          · simp at c1 c5 c9 c10 c11
            refine leaf_next hΦ (z := 6) ?_ rfl (by decide)
            rw [hN]
            simp only [byT, byP]
            repeat' split
            all_goals first | rfl | omega
          · simp at c1 c5 c9 c10 c11
            refine leaf_next hΦ (z := 0) ?_ rfl (by decide)
            rw [hN]
            simp only [byT, byP]
            repeat' split
            all_goals first | rfl | omega
      · refine ⟨fun c12 => ?_, fun c12 => ?_⟩
        · refine ⟨fun c13 => ?_, fun c13 => ?_⟩
          · simp at c1 c5 c9 c12 c13
            refine leaf_next hΦ (z := 5) ?_ rfl (by decide)
            rw [hN]
            simp only [byT, byP]
            repeat' split
            all_goals first | rfl | omega
          · refine ⟨fun c14 => ?_, fun c14 => ?_⟩
            · simp at c1 c5 c9 c12 c13 c14
              refine leaf_next hΦ (z := 6) ?_ rfl (by decide)
              rw [hN]
              simp only [byT, byP]
              repeat' split
              all_goals first | rfl | omega
            · simp at c1 c5 c9 c12 c13 c14
              refine leaf_next hΦ (z := 0) ?_ rfl (by decide)
              rw [hN]
              simp only [byT, byP]
              repeat' split
              all_goals first | rfl | omega
        · simp at c1 c5 c9 c12
          refine leaf_next hΦ (z := 0) ?_ rfl (by decide)
          rw [hN]
          simp only [byT, byP]
          repeat' split
          all_goals first | rfl | omega
theorem nextR_ok {Φ : Sig} (hΦ : PeSig Φ) : TmplOk Go.Proofs.Try.prog Φ 19 tNext := by
  refine tmpl_of noCons treePeNextR_is (fun ρ res hres => ⟨eqJ, ?_⟩)
  obtain ⟨_, hres⟩ := chk_some hres
  obtain rfl := ret_some hres
  have hN := next_vars Φ ρ
  refine ⟨fun c1 => ?_, fun c1 => ?_⟩
  · refine ⟨fun c2 => ?_, fun c2 => ?_⟩
    · simp at c1 c2
      refine leaf_next hΦ (z := 2) ?_ rfl (by decide)
      rw [hN]
      simp only [byT, byP]
      repeat' split
      all_goals first | rfl | omega
    · refine ⟨fun c3 => ?_, fun c3 => ?_⟩
      · simp at c1 c2 c3
        refine leaf_next hΦ (z := 3) ?_ rfl (by decide)
        rw [hN]
        simp only [byT, byP]
        repeat' split
        all_goals first | rfl | omega
      · refine ⟨fun c4 => ?_, fun c4 => ?_⟩
        · simp at c1 c2 c3 c4
          refine leaf_next hΦ (z := 4) ?_ rfl (by decide)
          rw [hN]
          simp only [byT, byP]
          repeat' split
          all_goals first | rfl | omega
        · simp at c1 c2 c3 c4
          refine leaf_next hΦ (z := 0) ?_ rfl (by decide)
          rw [hN]
          simp only [byT, byP]
          repeat' split
          all_goals first | rfl | omega
  · refine ⟨fun c5 => ?_, fun c5 => ?_⟩
    · refine ⟨fun c6 => ?_, fun c6 => ?_⟩
      · simp at c1 c5 c6
        refine leaf_next hΦ (z := 2) ?_ rfl (by decide)
        rw [hN]
        simp only [byT, byP]
        repeat' split
        all_goals first | rfl | omega
      · refine ⟨fun c7 => ?_, fun c7 => ?_⟩
        · simp at c1 c5 c6 c7
          refine leaf_next hΦ (z := 3) ?_ rfl (by decide)
          rw [hN]
          simp only [byT, byP]
          repeat' split
          all_goals first | rfl | omega
        · refine ⟨fun c8 => ?_, fun c8 => ?_⟩
          · simp at c1 c5 c6 c7 c8
            refine leaf_next hΦ (z := 4) ?_ rfl (by decide)
            rw [hN]
            simp only [byT, byP]
            repeat' split
            all_goals first | rfl | omega
          · simp at c1 c5 c6 c7 c8
            refine leaf_next hΦ (z := 0) ?_ rfl (by decide)
            rw [hN]
            simp only [byT, byP]
            repeat' split
            all_goals first | rfl | omega
    · refine ⟨fun c9 => ?_, fun c9 => ?_⟩
      · refine ⟨fun c10 => ?_, fun c10 => ?_⟩
        · simp at c1 c5 c9 c10
          refine leaf_next hΦ (z := 5) ?_ rfl (by decide)
          rw [hN]
          simp only [byT, byP]
          repeat' split
          all_goals first | rfl | omega
        · refine ⟨fun c11 => ?_, fun c11 => ?_⟩
          · simp at c1 c5 c9 c10 c11
            refine leaf_next hΦ (z := 6) ?_ rfl (by decide)
            rw [hN]
            simp only [byT, byP]
            repeat' split
            all_goals first | rfl | omega
          · simp at c1 c5 c9 c10 c11
            refine leaf_next hΦ (z := 0) ?_ rfl (by decide)
            rw [hN]
            simp only [byT, byP]
            repeat' split
            all_goals first | rfl | omega
      · refine ⟨fun c12 => ?_, fun c12 => ?_⟩
        · refine ⟨fun c13 => ?_, fun c13 => ?_⟩
          · simp at c1 c5 c9 c12 c13
            refine leaf_next hΦ (z := 5) ?_ rfl (by decide)
            rw [hN]
            simp only [byT, byP]
            repeat' split
            all_goals first | rfl | omega
          · refine ⟨fun c14 => ?_, fun c14 => ?_⟩
            · simp at c1 c5 c9 c12 c13 c14
              refine leaf_next hΦ (z := 6) ?_ rfl (by decide)
              rw [hN]
              simp only [byT, byP]
              repeat' split
              all_goals first | rfl | omega
            · simp at c1 c5 c9 c12 c13 c14
              refine leaf_next hΦ (z := 0) ?_ rfl (by decide)
              rw [hN]
              simp only [byT, byP]
              repeat' split
              all_goals first | rfl | omega
        · simp at c1 c5 c9 c12
          refine leaf_next hΦ (z := 0) ?_ rfl (by decide)
          rw [hN]
          simp only [byT, byP]
          repeat' split
          all_goals first | rfl | omega
theorem consPe_ok {Φ : Sig} (hΦ : PeSig Φ) : ConsOk Go.Proofs.Try.prog Φ consPe := moreCons (con_ok clone_ok) (moreCons (con_ok (next_ok hΦ)) (moreCons (con_ok (nextR_ok hΦ)) (consRd_ok hΦ.toHdSig)))
set_option maxRecDepth 100000 in
theorem peel_ok {Φ : Sig} (hΦ : PeSig Φ) : TmplOk Go.Proofs.Try.prog Φ 11 (tPeel 3 5) := by
  refine tmpl_of (consPe_ok hΦ) treePePeel_is (fun ρ res hres => ⟨peJ, ?_⟩)
  obtain ⟨h0, hres⟩ := short_some hres
  obtain ⟨hb, hres⟩ := bytes_some hres
  have hr := pe_res hΦ hres
  refine ⟨⟨0, 1, 0, rfl, rfl, rfl, by show (T.den Φ ρ (.c1 .len (.var 0))).int = _; simp, pe_start⟩, ?_⟩
  rintro ds hlen ⟨c, k, a, i0, i1, i3, i4, hst⟩
  have e0 : upd ρ 1 ds 0 = ρ 0 := upd_lo ds (by decide)
  have e1 : upd ρ 1 ds 1 = nthD ds 0 := upd_at (i := 0) (by omega)
  have e2 : upd ρ 1 ds 2 = nthD ds 1 := upd_at (i := 1) (by omega)
  have e3 : upd ρ 1 ds 3 = nthD ds 2 := upd_at (i := 2) (by omega)
  have e4 : upd ρ 1 ds 4 = nthD ds 3 := upd_at (i := 3) (by omega)
  have e5 : upd ρ 1 ds 5 = nthD ds 4 := upd_at (i := 4) (by omega)
  have e6 : upd ρ 1 ds 6 = nthD ds 5 := upd_at (i := 5) (by omega)
  generalize upd ρ 1 ds = ρ' at *
  have v1 : (ρ' 1).int = c := by rw [e1]; exact i0
  have v2 : (ρ' 2).int = k := by rw [e2]; exact i1
  have v4 : (ρ' 4).int = a := by rw [e4]; exact i3
  have v5 : (ρ' 5).int = (ρ 0).list.length - a := by rw [e5]; exact i4
  rw [← e6, ← e3] at hst
  have st := hst
  obtain ⟨s1, s2, s3, s4, s5, s6, s7⟩ := hst
  have hD : (T.den Φ ρ' (.c2 .drop (.var 4) (.var 0))).list = (ρ 0).list.drop a := by rw [list_drop, den_var, den_var, v4, e0, Int.toNat_natCast]
  refine ⟨?_, fun m1 => ⟨fun m2 => ?_, fun m2 => ?_⟩, fun m1 => ?_⟩
  · intro t p hm
    simp only [List.mem_cons, Prod.mk.injEq, List.not_mem_nil, or_false] at hm
    rcases hm with ⟨rfl, rfl⟩ | ⟨rfl, rfl⟩ | ⟨rfl, rfl⟩ | ⟨rfl, rfl⟩ | ⟨rfl, rfl⟩ | ⟨rfl, rfl⟩ | ⟨rfl, rfl⟩ | ⟨rfl, rfl⟩ | ⟨rfl, rfl⟩
    · rw [le_t, den_var, v1]; exact Int.natCast_nonneg _
    · rw [le_t, den_var, v1]; show (c : Int) ≤ 8; omega
    · rw [le_t, den_var, v2]; exact Int.natCast_nonneg _
    · rw [le_t, den_var, v2]; show (k : Int) ≤ 6; omega
    · rw [le_t, den_var, v4]; exact Int.natCast_nonneg _
    · rw [le_t, den_var, v5]; show (0 : Int) ≤ _; omega
    · rw [eq_t, int_add, int_len, den_var, den_var, den_var, v4, v5, e0]; omega
    · rw [eq_t, int_len, int_mul, den_var, den_var, v1, s4]; show ((73 * c : Nat) : Int) = c * 73; omega
    · show inKinds _ 0 (ρ' 6).list = true; exact s5
  · rw [eq_t, den_var, v1] at m2
    have hc : c = 8 := by have : (c : Int) = 8 := m2; omega
    exact leaf_pe_err hr (pe_many st m1 hc) rfl (by decide) (by decide)
  · rw [eq_f, den_var, v1] at m2
    have hc : c < 8 := by have : ¬ (c : Int) = 8 := m2; omega
    have hk1 := (s6 m1).1
    refine ⟨fun q => ?_, fun n0 => ?_⟩
    · exfalso; rw [eq_t, den_var, v2] at q; have : (k : Int) = 0 := q; omega
    refine ⟨fun q => ?_, fun n1 => ?_⟩
    · rw [eq_t, den_var, v2] at q
      have hj : k = 1 := by have : (k : Int) = 1 := q; omega
      subst hj
      have hE : (T.den Φ ρ' (.fn 21 (.c2 .drop (.var 4) (.var 0)) .nil .nil)).int = rdErr 1 ((ρ 0).list.drop a) := by rw [den_fn, hΦ.rdErr 1 _ _ _ (by decide) (by decide), hD]; rfl
      have hF : (T.den Φ ρ' (fn1 11 (.c2 .drop (.var 4) (.var 0)))).list = rdRow 1 ((ρ 0).list.drop a) := by show (Φ (10 + 1) (T.den Φ ρ' (.c2 .drop (.var 4) (.var 0))) _ _).list = _; rw [hΦ.rdRow 1 _ _ _ (by decide) (by decide), hD]; rfl
      have hH := den_hdT (k := 1) (x := (.var 2)) ⟨by decide, by decide⟩ v2 hF
      refine ⟨by rw [bytes_t, hD]; exact bytes_drop hb a, fun er => ?_, fun er => ?_⟩
      · rw [not_t, eq_f, hE] at er
        exact leaf_pe_err hr (pe_err st m1 hc er) hE er (by decide)
      · rw [not_f, eq_t, hE] at er
        obtain ⟨hsz, hnx⟩ := pe_step st m1 hc er
        refine ⟨by rw [le_t, den_var, v5]; show (14 : Int) ≤ _; have : 14 + a ≤ (ρ 0).list.length := hsz; omega, ?_⟩
        refine ok_back ⟨⟨c + 1, _, a + 14, ?_, next_toNat hΦ hH, ?_, ?_, pe_same ?_ (next_bool hΦ hH) hnx⟩, ?_⟩
        · show (T.den Φ ρ' (.c2 .add (.var 1) (.num 1))).int = _; rw [int_add, den_var, v1]; rfl
        · show (T.den Φ ρ' (.c2 .add (.var 4) (.num 14))).int = _; rw [int_add, den_var, v4]; rfl
        · show (T.den Φ ρ' (.c2 .sub (.var 5) (.num 14))).int = _; rw [int_sub, den_var, v5]; show _ - (14 : Int) = _; omega
        · exact app_heads v1 s4 hH
        · show 9 - (T.den Φ ρ' (.c2 .add (.var 1) (.num 1))).int.toNat < 9 - (nthD ds 0).int.toNat; rw [int_add, den_var, v1, i0]; show 9 - ((c : Int) + 1).toNat < 9 - (c : Int).toNat; omega
    · refine ⟨fun q => ?_, fun n2 => ?_⟩
      · rw [eq_t, den_var, v2] at q
        have hj : k = 2 := by have : (k : Int) = 2 := q; omega
        subst hj
        have hE : (T.den Φ ρ' (.fn 22 (.c2 .drop (.var 4) (.var 0)) .nil .nil)).int = rdErr 2 ((ρ 0).list.drop a) := by rw [den_fn, hΦ.rdErr 2 _ _ _ (by decide) (by decide), hD]; rfl
        have hF : (T.den Φ ρ' (fn1 12 (.c2 .drop (.var 4) (.var 0)))).list = rdRow 2 ((ρ 0).list.drop a) := by show (Φ (10 + 2) (T.den Φ ρ' (.c2 .drop (.var 4) (.var 0))) _ _).list = _; rw [hΦ.rdRow 2 _ _ _ (by decide) (by decide), hD]; rfl
        have hH := den_hdT (k := 2) (x := (.var 2)) ⟨by decide, by decide⟩ v2 hF
        refine ⟨by rw [bytes_t, hD]; exact bytes_drop hb a, fun er => ?_, fun er => ?_⟩
        · rw [not_t, eq_f, hE] at er
          exact leaf_pe_err hr (pe_err st m1 hc er) hE er (by decide)
        · rw [not_f, eq_t, hE] at er
          obtain ⟨hsz, hnx⟩ := pe_step st m1 hc er
          refine ⟨by rw [le_t, den_var, v5]; show (4 : Int) ≤ _; have : 4 + a ≤ (ρ 0).list.length := hsz; omega, ?_⟩
          refine ok_back ⟨⟨c + 1, _, a + 4, ?_, next_toNat hΦ hH, ?_, ?_, pe_same ?_ (next_bool hΦ hH) hnx⟩, ?_⟩
          · show (T.den Φ ρ' (.c2 .add (.var 1) (.num 1))).int = _; rw [int_add, den_var, v1]; rfl
          · show (T.den Φ ρ' (.c2 .add (.var 4) (.num 4))).int = _; rw [int_add, den_var, v4]; rfl
          · show (T.den Φ ρ' (.c2 .sub (.var 5) (.num 4))).int = _; rw [int_sub, den_var, v5]; show _ - (4 : Int) = _; omega
          · exact app_heads v1 s4 hH
          · show 9 - (T.den Φ ρ' (.c2 .add (.var 1) (.num 1))).int.toNat < 9 - (nthD ds 0).int.toNat; rw [int_add, den_var, v1, i0]; show 9 - ((c : Int) + 1).toNat < 9 - (c : Int).toNat; omega
      · refine ⟨fun q => ?_, fun n3 => ?_⟩
        · rw [eq_t, den_var, v2] at q
          have hj : k = 3 := by have : (k : Int) = 3 := q; omega
          subst hj
          have hE : (T.den Φ ρ' (.fn 23 (.c2 .drop (.var 4) (.var 0)) .nil .nil)).int = rdErr 3 ((ρ 0).list.drop a) := by rw [den_fn, hΦ.rdErr 3 _ _ _ (by decide) (by decide), hD]; rfl
          have hF : (T.den Φ ρ' (fn1 13 (.c2 .drop (.var 4) (.var 0)))).list = rdRow 3 ((ρ 0).list.drop a) := by show (Φ (10 + 3) (T.den Φ ρ' (.c2 .drop (.var 4) (.var 0))) _ _).list = _; rw [hΦ.rdRow 3 _ _ _ (by decide) (by decide), hD]; rfl
          have hH := den_hdT (k := 3) (x := (.var 2)) ⟨by decide, by decide⟩ v2 hF
          refine ⟨by rw [bytes_t, hD]; exact bytes_drop hb a, fun er => ?_, fun er => ?_⟩
          · rw [not_t, eq_f, hE] at er
            exact leaf_pe_err hr (pe_err st m1 hc er) hE er (by decide)
          · rw [not_f, eq_t, hE] at er
            obtain ⟨hsz, hnx⟩ := pe_step st m1 hc er
            refine ⟨by rw [le_t, den_var, v5]; show (20 : Int) ≤ _; have : 20 + a ≤ (ρ 0).list.length := hsz; omega, ?_⟩
            refine ok_back ⟨⟨c + 1, _, a + 20, ?_, next_toNat hΦ hH, ?_, ?_, pe_same ?_ (next_bool hΦ hH) hnx⟩, ?_⟩
            · show (T.den Φ ρ' (.c2 .add (.var 1) (.num 1))).int = _; rw [int_add, den_var, v1]; rfl
            · show (T.den Φ ρ' (.c2 .add (.var 4) (.num 20))).int = _; rw [int_add, den_var, v4]; rfl
            · show (T.den Φ ρ' (.c2 .sub (.var 5) (.num 20))).int = _; rw [int_sub, den_var, v5]; show _ - (20 : Int) = _; omega
            · exact app_heads v1 s4 hH
            · show 9 - (T.den Φ ρ' (.c2 .add (.var 1) (.num 1))).int.toNat < 9 - (nthD ds 0).int.toNat; rw [int_add, den_var, v1, i0]; show 9 - ((c : Int) + 1).toNat < 9 - (c : Int).toNat; omega
        · refine ⟨fun q => ?_, fun n4 => ?_⟩
          · rw [eq_t, den_var, v2] at q
            have hj : k = 4 := by have : (k : Int) = 4 := q; omega
            subst hj
            have hE : (T.den Φ ρ' (.fn 24 (.c2 .drop (.var 4) (.var 0)) .nil .nil)).int = rdErr 4 ((ρ 0).list.drop a) := by rw [den_fn, hΦ.rdErr 4 _ _ _ (by decide) (by decide), hD]; rfl
            have hF : (T.den Φ ρ' (fn1 14 (.c2 .drop (.var 4) (.var 0)))).list = rdRow 4 ((ρ 0).list.drop a) := by show (Φ (10 + 4) (T.den Φ ρ' (.c2 .drop (.var 4) (.var 0))) _ _).list = _; rw [hΦ.rdRow 4 _ _ _ (by decide) (by decide), hD]; rfl
            have hH := den_hdT (k := 4) (x := (.var 2)) ⟨by decide, by decide⟩ v2 hF
            refine ⟨by rw [bytes_t, hD]; exact bytes_drop hb a, fun er => ?_, fun er => ?_⟩
            · rw [not_t, eq_f, hE] at er
              exact leaf_pe_err hr (pe_err st m1 hc er) hE er (by decide)
            · rw [not_f, eq_t, hE] at er
              obtain ⟨hsz, hnx⟩ := pe_step st m1 hc er
              refine ⟨by rw [le_t, den_var, v5]; show (40 : Int) ≤ _; have : 40 + a ≤ (ρ 0).list.length := hsz; omega, ?_⟩
              refine ok_back ⟨⟨c + 1, _, a + 40, ?_, next_toNat hΦ hH, ?_, ?_, pe_same ?_ (next_bool hΦ hH) hnx⟩, ?_⟩
              · show (T.den Φ ρ' (.c2 .add (.var 1) (.num 1))).int = _; rw [int_add, den_var, v1]; rfl
              · show (T.den Φ ρ' (.c2 .add (.var 4) (.num 40))).int = _; rw [int_add, den_var, v4]; rfl
              · show (T.den Φ ρ' (.c2 .sub (.var 5) (.num 40))).int = _; rw [int_sub, den_var, v5]; show _ - (40 : Int) = _; omega
              · exact app_heads v1 s4 hH
              · show 9 - (T.den Φ ρ' (.c2 .add (.var 1) (.num 1))).int.toNat < 9 - (nthD ds 0).int.toNat; rw [int_add, den_var, v1, i0]; show 9 - ((c : Int) + 1).toNat < 9 - (c : Int).toNat; omega
          · refine ⟨fun q => ?_, fun n5 => ?_⟩
            · rw [eq_t, den_var, v2] at q
              have hj : k = 5 := by have : (k : Int) = 5 := q; omega
              subst hj
              have hE : (T.den Φ ρ' (.fn 25 (.c2 .drop (.var 4) (.var 0)) .nil .nil)).int = rdErr 5 ((ρ 0).list.drop a) := by rw [den_fn, hΦ.rdErr 5 _ _ _ (by decide) (by decide), hD]; rfl
              have hF : (T.den Φ ρ' (fn1 15 (.c2 .drop (.var 4) (.var 0)))).list = rdRow 5 ((ρ 0).list.drop a) := by show (Φ (10 + 5) (T.den Φ ρ' (.c2 .drop (.var 4) (.var 0))) _ _).list = _; rw [hΦ.rdRow 5 _ _ _ (by decide) (by decide), hD]; rfl
              have hH := den_hdT (k := 5) (x := (.var 2)) ⟨by decide, by decide⟩ v2 hF
              refine ⟨by rw [bytes_t, hD]; exact bytes_drop hb a, fun er => ?_, fun er => ?_⟩
              · rw [not_t, eq_f, hE] at er
                exact leaf_pe_err hr (pe_err st m1 hc er) hE er (by decide)
              · rw [not_f, eq_t, hE] at er
                obtain ⟨hsz, hnx⟩ := pe_step st m1 hc er
                refine ⟨by rw [le_t, den_var, v5]; show (20 : Int) ≤ _; have : 20 + a ≤ (ρ 0).list.length := hsz; omega, ?_⟩
                refine ok_back ⟨⟨c + 1, _, a + 20, ?_, next_toNat hΦ hH, ?_, ?_, pe_same ?_ (next_bool hΦ hH) hnx⟩, ?_⟩
                · show (T.den Φ ρ' (.c2 .add (.var 1) (.num 1))).int = _; rw [int_add, den_var, v1]; rfl
                · show (T.den Φ ρ' (.c2 .add (.var 4) (.num 20))).int = _; rw [int_add, den_var, v4]; rfl
                · show (T.den Φ ρ' (.c2 .sub (.var 5) (.num 20))).int = _; rw [int_sub, den_var, v5]; show _ - (20 : Int) = _; omega
                · exact app_heads v1 s4 hH
                · show 9 - (T.den Φ ρ' (.c2 .add (.var 1) (.num 1))).int.toNat < 9 - (nthD ds 0).int.toNat; rw [int_add, den_var, v1, i0]; show 9 - ((c : Int) + 1).toNat < 9 - (c : Int).toNat; omega
            · refine ⟨fun q => ?_, fun n6 => ?_⟩
              · rw [eq_t, den_var, v2] at q
                have hj : k = 6 := by have : (k : Int) = 6 := q; omega
                subst hj
                have hE : (T.den Φ ρ' (.fn 26 (.c2 .drop (.var 4) (.var 0)) .nil .nil)).int = rdErr 6 ((ρ 0).list.drop a) := by rw [den_fn, hΦ.rdErr 6 _ _ _ (by decide) (by decide), hD]; rfl
                have hF : (T.den Φ ρ' (fn1 16 (.c2 .drop (.var 4) (.var 0)))).list = rdRow 6 ((ρ 0).list.drop a) := by show (Φ (10 + 6) (T.den Φ ρ' (.c2 .drop (.var 4) (.var 0))) _ _).list = _; rw [hΦ.rdRow 6 _ _ _ (by decide) (by decide), hD]; rfl
                have hH := den_hdT (k := 6) (x := (.var 2)) ⟨by decide, by decide⟩ v2 hF
                refine ⟨by rw [bytes_t, hD]; exact bytes_drop hb a, fun er => ?_, fun er => ?_⟩
                · rw [not_t, eq_f, hE] at er
                  exact leaf_pe_err hr (pe_err st m1 hc er) hE er (by decide)
                · rw [not_f, eq_t, hE] at er
                  obtain ⟨hsz, hnx⟩ := pe_step st m1 hc er
                  refine ⟨by rw [le_t, den_var, v5]; show (8 : Int) ≤ _; have : 8 + a ≤ (ρ 0).list.length := hsz; omega, ?_⟩
                  refine ok_back ⟨⟨c + 1, _, a + 8, ?_, next_toNat hΦ hH, ?_, ?_, pe_same ?_ (next_bool hΦ hH) hnx⟩, ?_⟩
                  · show (T.den Φ ρ' (.c2 .add (.var 1) (.num 1))).int = _; rw [int_add, den_var, v1]; rfl
                  · show (T.den Φ ρ' (.c2 .add (.var 4) (.num 8))).int = _; rw [int_add, den_var, v4]; rfl
                  · show (T.den Φ ρ' (.c2 .sub (.var 5) (.num 8))).int = _; rw [int_sub, den_var, v5]; show _ - (8 : Int) = _; omega
                  · exact app_heads v1 s4 hH
                  · show 9 - (T.den Φ ρ' (.c2 .add (.var 1) (.num 1))).int.toNat < 9 - (nthD ds 0).int.toNat; rw [int_add, den_var, v1, i0]; show 9 - ((c : Int) + 1).toNat < 9 - (c : Int).toNat; omega
              · exfalso
                rw [eq_f, den_var, v2] at n1
                rw [eq_f, den_var, v2] at n2
                rw [eq_f, den_var, v2] at n3
                rw [eq_f, den_var, v2] at n4
                rw [eq_f, den_var, v2] at n5
                rw [eq_f, den_var, v2] at n6
                have h6 : ¬ (k : Int) = 1 ∧ ¬ (k : Int) = 2 ∧ ¬ (k : Int) = 3 ∧ ¬ (k : Int) = 4 ∧ ¬ (k : Int) = 5 ∧ ¬ (k : Int) = 6 := ⟨n1, n2, n3, n4, n5, n6⟩
                omega
  · obtain ⟨t1, t2⟩ := s7 m1
    refine leaf_pe_ok hr t2 (c := c) ?_ t1 s4 ?_ (show (T.den Φ ρ' (.var 6)).list = (ρ' 6).list from rfl) ?_ (by decide)
    · exact v1
    · show (T.den Φ ρ' (.c2 .sub (.c1 .len (.var 0)) (.var 4))).int = _; rw [int_sub, int_len, den_var, den_var, v4, e0]; rw [List.length_drop]; omega
    · exact hD
set_option maxRecDepth 100000 in
theorem peelR_ok {Φ : Sig} (hΦ : PeSig Φ) : TmplOk Go.Proofs.Try.prog Φ 12 (tPeel 1 2) := by
  refine tmpl_of (consPe_ok hΦ) treePePeelR_is (fun ρ res hres => ⟨peJR, ?_⟩)
  obtain ⟨h0, hres⟩ := short_some hres
  obtain ⟨hb, hres⟩ := bytes_some hres
  have hr := pe_res hΦ hres
  refine ⟨⟨0, 1, 0, rfl, rfl, rfl, pe_start⟩, ?_⟩
  rintro ds hlen ⟨c, k, a, i0, i1, i3, hst⟩
  have e0 : upd ρ 1 ds 0 = ρ 0 := upd_lo ds (by decide)
  have e1 : upd ρ 1 ds 1 = nthD ds 0 := upd_at (i := 0) (by omega)
  have e2 : upd ρ 1 ds 2 = nthD ds 1 := upd_at (i := 1) (by omega)
  have e3 : upd ρ 1 ds 3 = nthD ds 2 := upd_at (i := 2) (by omega)
  have e4 : upd ρ 1 ds 4 = nthD ds 3 := upd_at (i := 3) (by omega)
  have e5 : upd ρ 1 ds 5 = nthD ds 4 := upd_at (i := 4) (by omega)
  generalize upd ρ 1 ds = ρ' at *
  have v1 : (ρ' 1).int = c := by rw [e1]; exact i0
  have v2 : (ρ' 2).int = k := by rw [e2]; exact i1
  have v4 : (ρ' 4).int = a := by rw [e4]; exact i3
  rw [← e5, ← e3] at hst
  have st := hst
  obtain ⟨s1, s2, s3, s4, s5, s6, s7⟩ := hst
  have hD : (T.den Φ ρ' (.c2 .drop (.var 4) (.var 0))).list = (ρ 0).list.drop a := by rw [list_drop, den_var, den_var, v4, e0, Int.toNat_natCast]
  refine ⟨?_, fun m1 => ⟨fun m2 => ?_, fun m2 => ?_⟩, fun m1 => ?_⟩
  · intro t p hm
    simp only [List.mem_cons, Prod.mk.injEq, List.not_mem_nil, or_false] at hm
    rcases hm with ⟨rfl, rfl⟩ | ⟨rfl, rfl⟩ | ⟨rfl, rfl⟩ | ⟨rfl, rfl⟩ | ⟨rfl, rfl⟩ | ⟨rfl, rfl⟩ | ⟨rfl, rfl⟩ | ⟨rfl, rfl⟩
    · rw [le_t, den_var, v1]; exact Int.natCast_nonneg _
    · rw [le_t, den_var, v1]; show (c : Int) ≤ 8; omega
    · rw [le_t, den_var, v2]; exact Int.natCast_nonneg _
    · rw [le_t, den_var, v2]; show (k : Int) ≤ 6; omega
    · rw [le_t, den_var, v4]; exact Int.natCast_nonneg _
    · rw [le_t, int_len, den_var, den_var, v4, e0]; omega
    · rw [eq_t, int_len, int_mul, den_var, den_var, v1, s4]; show ((73 * c : Nat) : Int) = c * 73; omega
    · show inKinds _ 0 (ρ' 5).list = true; exact s5
  · rw [eq_t, den_var, v1] at m2
    have hc : c = 8 := by have : (c : Int) = 8 := m2; omega
    exact leaf_pe_err hr (pe_many st m1 hc) rfl (by decide) (by decide)
  · rw [eq_f, den_var, v1] at m2
    have hc : c < 8 := by have : ¬ (c : Int) = 8 := m2; omega
    have hk1 := (s6 m1).1
    refine ⟨fun q => ?_, fun n1 => ?_⟩
    · rw [eq_t, den_var, v2] at q
      have hj : k = 1 := by have : (k : Int) = 1 := q; omega
      subst hj
      have hE : (T.den Φ ρ' (.fn 21 (.c2 .drop (.var 4) (.var 0)) .nil .nil)).int = rdErr 1 ((ρ 0).list.drop a) := by rw [den_fn, hΦ.rdErr 1 _ _ _ (by decide) (by decide), hD]; rfl
      have hF : (T.den Φ ρ' (fn1 11 (.c2 .drop (.var 4) (.var 0)))).list = rdRow 1 ((ρ 0).list.drop a) := by show (Φ (10 + 1) (T.den Φ ρ' (.c2 .drop (.var 4) (.var 0))) _ _).list = _; rw [hΦ.rdRow 1 _ _ _ (by decide) (by decide), hD]; rfl
      have hH := den_hdT (k := 1) (x := (.num 1)) ⟨by decide, by decide⟩ rfl hF
      refine ⟨by rw [bytes_t, hD]; exact bytes_drop hb a, fun er => ?_, fun er => ?_⟩
      · rw [not_t, eq_f, hE] at er
        exact leaf_pe_err hr (pe_err st m1 hc er) hE er (by decide)
      · rw [not_f, eq_t, hE] at er
        obtain ⟨hsz, hnx⟩ := pe_step st m1 hc er
        refine ok_back ⟨⟨c + 1, _, a + 14, ?_, next_toNat hΦ hH, ?_, pe_same ?_ (next_bool hΦ hH) hnx⟩, ?_⟩
        · show (T.den Φ ρ' (.c2 .add (.var 1) (.num 1))).int = _; rw [int_add, den_var, v1]; rfl
        · show (T.den Φ ρ' (.wr .i64 (.c2 .add (.var 4) (.c2 .rd (.cons (.num 0) (.cons (.num 14) (.cons (.num 4) (.cons (.num 20) (.cons (.num 40) (.cons (.num 20) (.cons (.num 8) .nil))))))) (.var 2))))).int = _
          rw [int_wr, int_add, int_rd, den_var, den_var, v4, v2]
          show IntKind.i64.wrap ((a : Int) + 14) = _
          have : 14 + a ≤ (ρ 0).list.length := hsz
          rw [wrap_is (by simp only [kmin]; omega) (by simp only [kmax]; omega)]; rfl
        · exact app_heads v1 s4 hH
        · show 9 - (T.den Φ ρ' (.c2 .add (.var 1) (.num 1))).int.toNat < 9 - (nthD ds 0).int.toNat; rw [int_add, den_var, v1, i0]; show 9 - ((c : Int) + 1).toNat < 9 - (c : Int).toNat; omega
    · refine ⟨fun q => ?_, fun n2 => ?_⟩
      · rw [eq_t, den_var, v2] at q
        have hj : k = 2 := by have : (k : Int) = 2 := q; omega
        subst hj
        have hE : (T.den Φ ρ' (.fn 22 (.c2 .drop (.var 4) (.var 0)) .nil .nil)).int = rdErr 2 ((ρ 0).list.drop a) := by rw [den_fn, hΦ.rdErr 2 _ _ _ (by decide) (by decide), hD]; rfl
        have hF : (T.den Φ ρ' (fn1 12 (.c2 .drop (.var 4) (.var 0)))).list = rdRow 2 ((ρ 0).list.drop a) := by show (Φ (10 + 2) (T.den Φ ρ' (.c2 .drop (.var 4) (.var 0))) _ _).list = _; rw [hΦ.rdRow 2 _ _ _ (by decide) (by decide), hD]; rfl
        have hH := den_hdT (k := 2) (x := (.num 2)) ⟨by decide, by decide⟩ rfl hF
        refine ⟨by rw [bytes_t, hD]; exact bytes_drop hb a, fun er => ?_, fun er => ?_⟩
        · rw [not_t, eq_f, hE] at er
          exact leaf_pe_err hr (pe_err st m1 hc er) hE er (by decide)
        · rw [not_f, eq_t, hE] at er
          obtain ⟨hsz, hnx⟩ := pe_step st m1 hc er
          refine ok_back ⟨⟨c + 1, _, a + 4, ?_, next_toNat hΦ hH, ?_, pe_same ?_ (next_bool hΦ hH) hnx⟩, ?_⟩
          · show (T.den Φ ρ' (.c2 .add (.var 1) (.num 1))).int = _; rw [int_add, den_var, v1]; rfl
          · show (T.den Φ ρ' (.wr .i64 (.c2 .add (.var 4) (.c2 .rd (.cons (.num 0) (.cons (.num 14) (.cons (.num 4) (.cons (.num 20) (.cons (.num 40) (.cons (.num 20) (.cons (.num 8) .nil))))))) (.var 2))))).int = _
            rw [int_wr, int_add, int_rd, den_var, den_var, v4, v2]
            show IntKind.i64.wrap ((a : Int) + 4) = _
            have : 4 + a ≤ (ρ 0).list.length := hsz
            rw [wrap_is (by simp only [kmin]; omega) (by simp only [kmax]; omega)]; rfl
          · exact app_heads v1 s4 hH
          · show 9 - (T.den Φ ρ' (.c2 .add (.var 1) (.num 1))).int.toNat < 9 - (nthD ds 0).int.toNat; rw [int_add, den_var, v1, i0]; show 9 - ((c : Int) + 1).toNat < 9 - (c : Int).toNat; omega
      · refine ⟨fun q => ?_, fun n3 => ?_⟩
        · rw [eq_t, den_var, v2] at q
          have hj : k = 3 := by have : (k : Int) = 3 := q; omega
          subst hj
          have hE : (T.den Φ ρ' (.fn 23 (.c2 .drop (.var 4) (.var 0)) .nil .nil)).int = rdErr 3 ((ρ 0).list.drop a) := by rw [den_fn, hΦ.rdErr 3 _ _ _ (by decide) (by decide), hD]; rfl
          have hF : (T.den Φ ρ' (fn1 13 (.c2 .drop (.var 4) (.var 0)))).list = rdRow 3 ((ρ 0).list.drop a) := by show (Φ (10 + 3) (T.den Φ ρ' (.c2 .drop (.var 4) (.var 0))) _ _).list = _; rw [hΦ.rdRow 3 _ _ _ (by decide) (by decide), hD]; rfl
          have hH := den_hdT (k := 3) (x := (.num 3)) ⟨by decide, by decide⟩ rfl hF
          refine ⟨by rw [bytes_t, hD]; exact bytes_drop hb a, fun er => ?_, fun er => ?_⟩
          · rw [not_t, eq_f, hE] at er
            exact leaf_pe_err hr (pe_err st m1 hc er) hE er (by decide)
          · rw [not_f, eq_t, hE] at er
            obtain ⟨hsz, hnx⟩ := pe_step st m1 hc er
            refine ok_back ⟨⟨c + 1, _, a + 20, ?_, next_toNat hΦ hH, ?_, pe_same ?_ (next_bool hΦ hH) hnx⟩, ?_⟩
            · show (T.den Φ ρ' (.c2 .add (.var 1) (.num 1))).int = _; rw [int_add, den_var, v1]; rfl
            · show (T.den Φ ρ' (.wr .i64 (.c2 .add (.var 4) (.c2 .rd (.cons (.num 0) (.cons (.num 14) (.cons (.num 4) (.cons (.num 20) (.cons (.num 40) (.cons (.num 20) (.cons (.num 8) .nil))))))) (.var 2))))).int = _
              rw [int_wr, int_add, int_rd, den_var, den_var, v4, v2]
              show IntKind.i64.wrap ((a : Int) + 20) = _
              have : 20 + a ≤ (ρ 0).list.length := hsz
              rw [wrap_is (by simp only [kmin]; omega) (by simp only [kmax]; omega)]; rfl
            · exact app_heads v1 s4 hH
            · show 9 - (T.den Φ ρ' (.c2 .add (.var 1) (.num 1))).int.toNat < 9 - (nthD ds 0).int.toNat; rw [int_add, den_var, v1, i0]; show 9 - ((c : Int) + 1).toNat < 9 - (c : Int).toNat; omega
        · refine ⟨fun q => ?_, fun n4 => ?_⟩
          · rw [eq_t, den_var, v2] at q
            have hj : k = 4 := by have : (k : Int) = 4 := q; omega
            subst hj
            have hE : (T.den Φ ρ' (.fn 24 (.c2 .drop (.var 4) (.var 0)) .nil .nil)).int = rdErr 4 ((ρ 0).list.drop a) := by rw [den_fn, hΦ.rdErr 4 _ _ _ (by decide) (by decide), hD]; rfl
            have hF : (T.den Φ ρ' (fn1 14 (.c2 .drop (.var 4) (.var 0)))).list = rdRow 4 ((ρ 0).list.drop a) := by show (Φ (10 + 4) (T.den Φ ρ' (.c2 .drop (.var 4) (.var 0))) _ _).list = _; rw [hΦ.rdRow 4 _ _ _ (by decide) (by decide), hD]; rfl
            have hH := den_hdT (k := 4) (x := (.num 4)) ⟨by decide, by decide⟩ rfl hF
            refine ⟨by rw [bytes_t, hD]; exact bytes_drop hb a, fun er => ?_, fun er => ?_⟩
            · rw [not_t, eq_f, hE] at er
              exact leaf_pe_err hr (pe_err st m1 hc er) hE er (by decide)
            · rw [not_f, eq_t, hE] at er
              obtain ⟨hsz, hnx⟩ := pe_step st m1 hc er
              refine ok_back ⟨⟨c + 1, _, a + 40, ?_, next_toNat hΦ hH, ?_, pe_same ?_ (next_bool hΦ hH) hnx⟩, ?_⟩
              · show (T.den Φ ρ' (.c2 .add (.var 1) (.num 1))).int = _; rw [int_add, den_var, v1]; rfl
              · show (T.den Φ ρ' (.wr .i64 (.c2 .add (.var 4) (.c2 .rd (.cons (.num 0) (.cons (.num 14) (.cons (.num 4) (.cons (.num 20) (.cons (.num 40) (.cons (.num 20) (.cons (.num 8) .nil))))))) (.var 2))))).int = _
                rw [int_wr, int_add, int_rd, den_var, den_var, v4, v2]
                show IntKind.i64.wrap ((a : Int) + 40) = _
                have : 40 + a ≤ (ρ 0).list.length := hsz
                rw [wrap_is (by simp only [kmin]; omega) (by simp only [kmax]; omega)]; rfl
              · exact app_heads v1 s4 hH
              · show 9 - (T.den Φ ρ' (.c2 .add (.var 1) (.num 1))).int.toNat < 9 - (nthD ds 0).int.toNat; rw [int_add, den_var, v1, i0]; show 9 - ((c : Int) + 1).toNat < 9 - (c : Int).toNat; omega
          · refine ⟨fun q => ?_, fun n5 => ?_⟩
            · rw [eq_t, den_var, v2] at q
              have hj : k = 5 := by have : (k : Int) = 5 := q; omega
              subst hj
              have hE : (T.den Φ ρ' (.fn 25 (.c2 .drop (.var 4) (.var 0)) .nil .nil)).int = rdErr 5 ((ρ 0).list.drop a) := by rw [den_fn, hΦ.rdErr 5 _ _ _ (by decide) (by decide), hD]; rfl
              have hF : (T.den Φ ρ' (fn1 15 (.c2 .drop (.var 4) (.var 0)))).list = rdRow 5 ((ρ 0).list.drop a) := by show (Φ (10 + 5) (T.den Φ ρ' (.c2 .drop (.var 4) (.var 0))) _ _).list = _; rw [hΦ.rdRow 5 _ _ _ (by decide) (by decide), hD]; rfl
              have hH := den_hdT (k := 5) (x := (.num 5)) ⟨by decide, by decide⟩ rfl hF
              refine ⟨by rw [bytes_t, hD]; exact bytes_drop hb a, fun er => ?_, fun er => ?_⟩
              · rw [not_t, eq_f, hE] at er
                exact leaf_pe_err hr (pe_err st m1 hc er) hE er (by decide)
              · rw [not_f, eq_t, hE] at er
                obtain ⟨hsz, hnx⟩ := pe_step st m1 hc er
                refine ok_back ⟨⟨c + 1, _, a + 20, ?_, next_toNat hΦ hH, ?_, pe_same ?_ (next_bool hΦ hH) hnx⟩, ?_⟩
                · show (T.den Φ ρ' (.c2 .add (.var 1) (.num 1))).int = _; rw [int_add, den_var, v1]; rfl
                · show (T.den Φ ρ' (.wr .i64 (.c2 .add (.var 4) (.c2 .rd (.cons (.num 0) (.cons (.num 14) (.cons (.num 4) (.cons (.num 20) (.cons (.num 40) (.cons (.num 20) (.cons (.num 8) .nil))))))) (.var 2))))).int = _
                  rw [int_wr, int_add, int_rd, den_var, den_var, v4, v2]
                  show IntKind.i64.wrap ((a : Int) + 20) = _
                  have : 20 + a ≤ (ρ 0).list.length := hsz
                  rw [wrap_is (by simp only [kmin]; omega) (by simp only [kmax]; omega)]; rfl
                · exact app_heads v1 s4 hH
                · show 9 - (T.den Φ ρ' (.c2 .add (.var 1) (.num 1))).int.toNat < 9 - (nthD ds 0).int.toNat; rw [int_add, den_var, v1, i0]; show 9 - ((c : Int) + 1).toNat < 9 - (c : Int).toNat; omega
            · have hj : k = 6 := by
                rw [eq_f, den_var, v2] at n1
                rw [eq_f, den_var, v2] at n2
                rw [eq_f, den_var, v2] at n3
                rw [eq_f, den_var, v2] at n4
                rw [eq_f, den_var, v2] at n5
                have h6 : ¬ (k : Int) = 1 ∧ ¬ (k : Int) = 2 ∧ ¬ (k : Int) = 3 ∧ ¬ (k : Int) = 4 ∧ ¬ (k : Int) = 5 := ⟨n1, n2, n3, n4, n5⟩
                omega
              subst hj
              have hE : (T.den Φ ρ' (.fn 26 (.c2 .drop (.var 4) (.var 0)) .nil .nil)).int = rdErr 6 ((ρ 0).list.drop a) := by rw [den_fn, hΦ.rdErr 6 _ _ _ (by decide) (by decide), hD]; rfl
              have hF : (T.den Φ ρ' (fn1 16 (.c2 .drop (.var 4) (.var 0)))).list = rdRow 6 ((ρ 0).list.drop a) := by show (Φ (10 + 6) (T.den Φ ρ' (.c2 .drop (.var 4) (.var 0))) _ _).list = _; rw [hΦ.rdRow 6 _ _ _ (by decide) (by decide), hD]; rfl
              have hH := den_hdT (k := 6) (x := (.num 6)) ⟨by decide, by decide⟩ rfl hF
              refine ⟨by rw [bytes_t, hD]; exact bytes_drop hb a, fun er => ?_, fun er => ?_⟩
              · rw [not_t, eq_f, hE] at er
                exact leaf_pe_err hr (pe_err st m1 hc er) hE er (by decide)
              · rw [not_f, eq_t, hE] at er
                obtain ⟨hsz, hnx⟩ := pe_step st m1 hc er
                refine ok_back ⟨⟨c + 1, _, a + 8, ?_, next_toNat hΦ hH, ?_, pe_same ?_ (next_bool hΦ hH) hnx⟩, ?_⟩
                · show (T.den Φ ρ' (.c2 .add (.var 1) (.num 1))).int = _; rw [int_add, den_var, v1]; rfl
                · show (T.den Φ ρ' (.wr .i64 (.c2 .add (.var 4) (.c2 .rd (.cons (.num 0) (.cons (.num 14) (.cons (.num 4) (.cons (.num 20) (.cons (.num 40) (.cons (.num 20) (.cons (.num 8) .nil))))))) (.var 2))))).int = _
                  rw [int_wr, int_add, int_rd, den_var, den_var, v4, v2]
                  show IntKind.i64.wrap ((a : Int) + 8) = _
                  have : 8 + a ≤ (ρ 0).list.length := hsz
                  rw [wrap_is (by simp only [kmin]; omega) (by simp only [kmax]; omega)]; rfl
                · exact app_heads v1 s4 hH
                · show 9 - (T.den Φ ρ' (.c2 .add (.var 1) (.num 1))).int.toNat < 9 - (nthD ds 0).int.toNat; rw [int_add, den_var, v1, i0]; show 9 - ((c : Int) + 1).toNat < 9 - (c : Int).toNat; omega
  · obtain ⟨t1, t2⟩ := s7 m1
    refine leaf_pe_ok hr t2 (c := c) ?_ t1 s4 ?_ (show (T.den Φ ρ' (.var 5)).list = (ρ' 5).list from rfl) ?_ (by decide)
    · exact v1
    · show (T.den Φ ρ' (.c2 .sub (.c1 .len (.var 0)) (.var 4))).int = _; rw [int_sub, int_len, den_var, den_var, v4, e0]; rw [List.length_drop]; omega
    · show (T.den Φ ρ' (.c2 .take (.c2 .sub (.c1 .len (.var 0)) (.var 4)) (.c2 .drop (.var 4) (.var 0)))).list = _; rw [list_take, hD]; apply List.take_of_length_le; rw [int_sub, int_len, den_var, den_var, v4, e0, List.length_drop]; omega
end Go.Proofs.Ytbiodlomlendkaa.Sx
/- Sx: what Go function 13 does, as a tree of conditions (printed by a tool of this claim, proved by the kernel). Conditions: none. -/
set_option maxRecDepth 100000
namespace Go.Proofs.Ytbiodlomlendkaa.Sx
open Go
def treePeSame : M (V × St) :=
(.split (.c1 .not (.c2 .eq (.var 0) (.var 2)))
 (.ret (.w (.c (.b (.bol false))), ⟨[], [], 2, 4, []⟩))
 (.loop 0 4 1 [(.num 0)] [((.c2 .le (.num 0) (.var 4)), true)]
  (.split (.c2 .lt (.var 4) (.var 0))
   (.chk (.c2 .le (.c2 .add (.c2 .mul (.var 4) (.num 73)) (.num 73)) (.c1 .len (.var 1)))
   (.chk (.c2 .lt (.var 4) (.var 2))
   (.chk (.c2 .le (.c2 .add (.c2 .mul (.var 4) (.num 73)) (.num 73)) (.c1 .len (.var 3)))
   (.split (.c1 .not (.c2 .and (.c2 .eq (.c2 .rd (.var 1) (.c2 .mul (.var 4) (.num 73))) (.c2 .rd (.var 3) (.c2 .mul (.var 4) (.num 73)))) (.c2 .and (.c2 .eq (.c2 .rd (.var 1) (.c2 .add (.c2 .mul (.var 4) (.num 73)) (.num 1))) (.c2 .rd (.var 3) (.c2 .add (.c2 .mul (.var 4) (.num 73)) (.num 1)))) (.c2 .and (.c2 .eq (.c2 .rd (.var 1) (.c2 .add (.c2 .mul (.var 4) (.num 73)) (.num 2))) (.c2 .rd (.var 3) (.c2 .add (.c2 .mul (.var 4) (.num 73)) (.num 2)))) (.c2 .and (.c2 .eq (.c2 .rd (.var 1) (.c2 .add (.c2 .mul (.var 4) (.num 73)) (.num 3))) (.c2 .rd (.var 3) (.c2 .add (.c2 .mul (.var 4) (.num 73)) (.num 3)))) (.c2 .and (.c2 .eq (.c2 .rd (.var 1) (.c2 .add (.c2 .mul (.var 4) (.num 73)) (.num 4))) (.c2 .rd (.var 3) (.c2 .add (.c2 .mul (.var 4) (.num 73)) (.num 4)))) (.c2 .and (.c2 .eq (.c2 .rd (.var 1) (.c2 .add (.c2 .mul (.var 4) (.num 73)) (.num 5))) (.c2 .rd (.var 3) (.c2 .add (.c2 .mul (.var 4) (.num 73)) (.num 5)))) (.c2 .and (.c2 .eq (.c2 .rd (.var 1) (.c2 .add (.c2 .mul (.var 4) (.num 73)) (.num 6))) (.c2 .rd (.var 3) (.c2 .add (.c2 .mul (.var 4) (.num 73)) (.num 6)))) (.c2 .and (.c2 .eq (.c2 .rd (.var 1) (.c2 .add (.c2 .mul (.var 4) (.num 73)) (.num 7))) (.c2 .rd (.var 3) (.c2 .add (.c2 .mul (.var 4) (.num 73)) (.num 7)))) (.c2 .and (.c2 .eq (.c2 .rd (.var 1) (.c2 .add (.c2 .mul (.var 4) (.num 73)) (.num 8))) (.c2 .rd (.var 3) (.c2 .add (.c2 .mul (.var 4) (.num 73)) (.num 8)))) (.c2 .and (.c2 .eq (.c2 .rd (.var 1) (.c2 .add (.c2 .mul (.var 4) (.num 73)) (.num 9))) (.c2 .rd (.var 3) (.c2 .add (.c2 .mul (.var 4) (.num 73)) (.num 9)))) (.c2 .and (.c2 .eq (.c2 .rd (.var 1) (.c2 .add (.c2 .mul (.var 4) (.num 73)) (.num 10))) (.c2 .rd (.var 3) (.c2 .add (.c2 .mul (.var 4) (.num 73)) (.num 10)))) (.c2 .and (.c2 .eq (.c2 .rd (.var 1) (.c2 .add (.c2 .mul (.var 4) (.num 73)) (.num 11))) (.c2 .rd (.var 3) (.c2 .add (.c2 .mul (.var 4) (.num 73)) (.num 11)))) (.c2 .and (.c2 .eq (.c2 .rd (.var 1) (.c2 .add (.c2 .mul (.var 4) (.num 73)) (.num 12))) (.c2 .rd (.var 3) (.c2 .add (.c2 .mul (.var 4) (.num 73)) (.num 12)))) (.c2 .and (.c2 .eq (.c2 .rd (.var 1) (.c2 .add (.c2 .mul (.var 4) (.num 73)) (.num 13))) (.c2 .rd (.var 3) (.c2 .add (.c2 .mul (.var 4) (.num 73)) (.num 13)))) (.c2 .and (.c2 .eq (.c2 .rd (.var 1) (.c2 .add (.c2 .mul (.var 4) (.num 73)) (.num 14))) (.c2 .rd (.var 3) (.c2 .add (.c2 .mul (.var 4) (.num 73)) (.num 14)))) (.c2 .and (.c2 .eq (.c2 .rd (.var 1) (.c2 .add (.c2 .mul (.var 4) (.num 73)) (.num 15))) (.c2 .rd (.var 3) (.c2 .add (.c2 .mul (.var 4) (.num 73)) (.num 15)))) (.c2 .and (.c2 .eq (.c2 .rd (.var 1) (.c2 .add (.c2 .mul (.var 4) (.num 73)) (.num 16))) (.c2 .rd (.var 3) (.c2 .add (.c2 .mul (.var 4) (.num 73)) (.num 16)))) (.c2 .and (.c2 .eq (.c2 .rd (.var 1) (.c2 .add (.c2 .mul (.var 4) (.num 73)) (.num 17))) (.c2 .rd (.var 3) (.c2 .add (.c2 .mul (.var 4) (.num 73)) (.num 17)))) (.c2 .and (.c2 .eq (.c2 .rd (.var 1) (.c2 .add (.c2 .mul (.var 4) (.num 73)) (.num 18))) (.c2 .rd (.var 3) (.c2 .add (.c2 .mul (.var 4) (.num 73)) (.num 18)))) (.c2 .and (.c2 .eq (.c2 .rd (.var 1) (.c2 .add (.c2 .mul (.var 4) (.num 73)) (.num 19))) (.c2 .rd (.var 3) (.c2 .add (.c2 .mul (.var 4) (.num 73)) (.num 19)))) (.c2 .and (.c2 .eq (.c2 .rd (.var 1) (.c2 .add (.c2 .mul (.var 4) (.num 73)) (.num 20))) (.c2 .rd (.var 3) (.c2 .add (.c2 .mul (.var 4) (.num 73)) (.num 20)))) (.c2 .and (.c2 .eq (.c2 .rd (.var 1) (.c2 .add (.c2 .mul (.var 4) (.num 73)) (.num 21))) (.c2 .rd (.var 3) (.c2 .add (.c2 .mul (.var 4) (.num 73)) (.num 21)))) (.c2 .and (.c2 .eq (.c2 .rd (.var 1) (.c2 .add (.c2 .mul (.var 4) (.num 73)) (.num 22))) (.c2 .rd (.var 3) (.c2 .add (.c2 .mul (.var 4) (.num 73)) (.num 22)))) (.c2 .and (.c2 .eq (.c2 .rd (.var 1) (.c2 .add (.c2 .mul (.var 4) (.num 73)) (.num 23))) (.c2 .rd (.var 3) (.c2 .add (.c2 .mul (.var 4) (.num 73)) (.num 23)))) (.c2 .and (.c2 .eq (.c2 .rd (.var 1) (.c2 .add (.c2 .mul (.var 4) (.num 73)) (.num 24))) (.c2 .rd (.var 3) (.c2 .add (.c2 .mul (.var 4) (.num 73)) (.num 24)))) (.c2 .and (.c2 .eq (.c2 .rd (.var 1) (.c2 .add (.c2 .mul (.var 4) (.num 73)) (.num 25))) (.c2 .rd (.var 3) (.c2 .add (.c2 .mul (.var 4) (.num 73)) (.num 25)))) (.c2 .and (.c2 .eq (.c2 .rd (.var 1) (.c2 .add (.c2 .mul (.var 4) (.num 73)) (.num 26))) (.c2 .rd (.var 3) (.c2 .add (.c2 .mul (.var 4) (.num 73)) (.num 26)))) (.c2 .and (.c2 .eq (.c2 .rd (.var 1) (.c2 .add (.c2 .mul (.var 4) (.num 73)) (.num 27))) (.c2 .rd (.var 3) (.c2 .add (.c2 .mul (.var 4) (.num 73)) (.num 27)))) (.c2 .and (.c2 .eq (.c2 .rd (.var 1) (.c2 .add (.c2 .mul (.var 4) (.num 73)) (.num 28))) (.c2 .rd (.var 3) (.c2 .add (.c2 .mul (.var 4) (.num 73)) (.num 28)))) (.c2 .and (.c2 .eq (.c2 .rd (.var 1) (.c2 .add (.c2 .mul (.var 4) (.num 73)) (.num 29))) (.c2 .rd (.var 3) (.c2 .add (.c2 .mul (.var 4) (.num 73)) (.num 29)))) (.c2 .and (.c2 .eq (.c2 .rd (.var 1) (.c2 .add (.c2 .mul (.var 4) (.num 73)) (.num 30))) (.c2 .rd (.var 3) (.c2 .add (.c2 .mul (.var 4) (.num 73)) (.num 30)))) (.c2 .and (.c2 .eq (.c2 .rd (.var 1) (.c2 .add (.c2 .mul (.var 4) (.num 73)) (.num 31))) (.c2 .rd (.var 3) (.c2 .add (.c2 .mul (.var 4) (.num 73)) (.num 31)))) (.c2 .and (.c2 .eq (.c2 .rd (.var 1) (.c2 .add (.c2 .mul (.var 4) (.num 73)) (.num 32))) (.c2 .rd (.var 3) (.c2 .add (.c2 .mul (.var 4) (.num 73)) (.num 32)))) (.c2 .and (.c2 .eq (.c2 .rd (.var 1) (.c2 .add (.c2 .mul (.var 4) (.num 73)) (.num 33))) (.c2 .rd (.var 3) (.c2 .add (.c2 .mul (.var 4) (.num 73)) (.num 33)))) (.c2 .and (.c2 .eq (.c2 .rd (.var 1) (.c2 .add (.c2 .mul (.var 4) (.num 73)) (.num 34))) (.c2 .rd (.var 3) (.c2 .add (.c2 .mul (.var 4) (.num 73)) (.num 34)))) (.c2 .and (.c2 .eq (.c2 .rd (.var 1) (.c2 .add (.c2 .mul (.var 4) (.num 73)) (.num 35))) (.c2 .rd (.var 3) (.c2 .add (.c2 .mul (.var 4) (.num 73)) (.num 35)))) (.c2 .and (.c2 .eq (.c2 .rd (.var 1) (.c2 .add (.c2 .mul (.var 4) (.num 73)) (.num 36))) (.c2 .rd (.var 3) (.c2 .add (.c2 .mul (.var 4) (.num 73)) (.num 36)))) (.c2 .and (.c2 .eq (.c2 .rd (.var 1) (.c2 .add (.c2 .mul (.var 4) (.num 73)) (.num 37))) (.c2 .rd (.var 3) (.c2 .add (.c2 .mul (.var 4) (.num 73)) (.num 37)))) (.c2 .and (.c2 .eq (.c2 .rd (.var 1) (.c2 .add (.c2 .mul (.var 4) (.num 73)) (.num 38))) (.c2 .rd (.var 3) (.c2 .add (.c2 .mul (.var 4) (.num 73)) (.num 38)))) (.c2 .and (.c2 .eq (.c2 .rd (.var 1) (.c2 .add (.c2 .mul (.var 4) (.num 73)) (.num 39))) (.c2 .rd (.var 3) (.c2 .add (.c2 .mul (.var 4) (.num 73)) (.num 39)))) (.c2 .and (.c2 .eq (.c2 .rd (.var 1) (.c2 .add (.c2 .mul (.var 4) (.num 73)) (.num 40))) (.c2 .rd (.var 3) (.c2 .add (.c2 .mul (.var 4) (.num 73)) (.num 40)))) (.c2 .and (.c2 .eq (.c2 .rd (.var 1) (.c2 .add (.c2 .mul (.var 4) (.num 73)) (.num 41))) (.c2 .rd (.var 3) (.c2 .add (.c2 .mul (.var 4) (.num 73)) (.num 41)))) (.c2 .and (.c2 .eq (.c2 .rd (.var 1) (.c2 .add (.c2 .mul (.var 4) (.num 73)) (.num 42))) (.c2 .rd (.var 3) (.c2 .add (.c2 .mul (.var 4) (.num 73)) (.num 42)))) (.c2 .and (.c2 .eq (.c2 .rd (.var 1) (.c2 .add (.c2 .mul (.var 4) (.num 73)) (.num 43))) (.c2 .rd (.var 3) (.c2 .add (.c2 .mul (.var 4) (.num 73)) (.num 43)))) (.c2 .and (.c2 .eq (.c2 .rd (.var 1) (.c2 .add (.c2 .mul (.var 4) (.num 73)) (.num 44))) (.c2 .rd (.var 3) (.c2 .add (.c2 .mul (.var 4) (.num 73)) (.num 44)))) (.c2 .and (.c2 .eq (.c2 .rd (.var 1) (.c2 .add (.c2 .mul (.var 4) (.num 73)) (.num 45))) (.c2 .rd (.var 3) (.c2 .add (.c2 .mul (.var 4) (.num 73)) (.num 45)))) (.c2 .and (.c2 .eq (.c2 .rd (.var 1) (.c2 .add (.c2 .mul (.var 4) (.num 73)) (.num 46))) (.c2 .rd (.var 3) (.c2 .add (.c2 .mul (.var 4) (.num 73)) (.num 46)))) (.c2 .and (.c2 .eq (.c2 .rd (.var 1) (.c2 .add (.c2 .mul (.var 4) (.num 73)) (.num 47))) (.c2 .rd (.var 3) (.c2 .add (.c2 .mul (.var 4) (.num 73)) (.num 47)))) (.c2 .and (.c2 .eq (.c2 .rd (.var 1) (.c2 .add (.c2 .mul (.var 4) (.num 73)) (.num 48))) (.c2 .rd (.var 3) (.c2 .add (.c2 .mul (.var 4) (.num 73)) (.num 48)))) (.c2 .and (.c2 .eq (.c2 .rd (.var 1) (.c2 .add (.c2 .mul (.var 4) (.num 73)) (.num 49))) (.c2 .rd (.var 3) (.c2 .add (.c2 .mul (.var 4) (.num 73)) (.num 49)))) (.c2 .and (.c2 .eq (.c2 .rd (.var 1) (.c2 .add (.c2 .mul (.var 4) (.num 73)) (.num 50))) (.c2 .rd (.var 3) (.c2 .add (.c2 .mul (.var 4) (.num 73)) (.num 50)))) (.c2 .and (.c2 .eq (.c2 .rd (.var 1) (.c2 .add (.c2 .mul (.var 4) (.num 73)) (.num 51))) (.c2 .rd (.var 3) (.c2 .add (.c2 .mul (.var 4) (.num 73)) (.num 51)))) (.c2 .and (.c2 .eq (.c2 .rd (.var 1) (.c2 .add (.c2 .mul (.var 4) (.num 73)) (.num 52))) (.c2 .rd (.var 3) (.c2 .add (.c2 .mul (.var 4) (.num 73)) (.num 52)))) (.c2 .and (.c2 .eq (.c2 .rd (.var 1) (.c2 .add (.c2 .mul (.var 4) (.num 73)) (.num 53))) (.c2 .rd (.var 3) (.c2 .add (.c2 .mul (.var 4) (.num 73)) (.num 53)))) (.c2 .and (.c2 .eq (.c2 .rd (.var 1) (.c2 .add (.c2 .mul (.var 4) (.num 73)) (.num 54))) (.c2 .rd (.var 3) (.c2 .add (.c2 .mul (.var 4) (.num 73)) (.num 54)))) (.c2 .and (.c2 .eq (.c2 .rd (.var 1) (.c2 .add (.c2 .mul (.var 4) (.num 73)) (.num 55))) (.c2 .rd (.var 3) (.c2 .add (.c2 .mul (.var 4) (.num 73)) (.num 55)))) (.c2 .and (.c2 .eq (.c2 .rd (.var 1) (.c2 .add (.c2 .mul (.var 4) (.num 73)) (.num 56))) (.c2 .rd (.var 3) (.c2 .add (.c2 .mul (.var 4) (.num 73)) (.num 56)))) (.c2 .and (.c2 .eq (.c2 .rd (.var 1) (.c2 .add (.c2 .mul (.var 4) (.num 73)) (.num 57))) (.c2 .rd (.var 3) (.c2 .add (.c2 .mul (.var 4) (.num 73)) (.num 57)))) (.c2 .and (.c2 .eq (.c2 .rd (.var 1) (.c2 .add (.c2 .mul (.var 4) (.num 73)) (.num 58))) (.c2 .rd (.var 3) (.c2 .add (.c2 .mul (.var 4) (.num 73)) (.num 58)))) (.c2 .and (.c2 .eq (.c2 .rd (.var 1) (.c2 .add (.c2 .mul (.var 4) (.num 73)) (.num 59))) (.c2 .rd (.var 3) (.c2 .add (.c2 .mul (.var 4) (.num 73)) (.num 59)))) (.c2 .and (.c2 .eq (.c2 .rd (.var 1) (.c2 .add (.c2 .mul (.var 4) (.num 73)) (.num 60))) (.c2 .rd (.var 3) (.c2 .add (.c2 .mul (.var 4) (.num 73)) (.num 60)))) (.c2 .and (.c2 .eq (.c2 .rd (.var 1) (.c2 .add (.c2 .mul (.var 4) (.num 73)) (.num 61))) (.c2 .rd (.var 3) (.c2 .add (.c2 .mul (.var 4) (.num 73)) (.num 61)))) (.c2 .and (.c2 .eq (.c2 .rd (.var 1) (.c2 .add (.c2 .mul (.var 4) (.num 73)) (.num 62))) (.c2 .rd (.var 3) (.c2 .add (.c2 .mul (.var 4) (.num 73)) (.num 62)))) (.c2 .and (.c2 .eq (.c2 .rd (.var 1) (.c2 .add (.c2 .mul (.var 4) (.num 73)) (.num 63))) (.c2 .rd (.var 3) (.c2 .add (.c2 .mul (.var 4) (.num 73)) (.num 63)))) (.c2 .and (.c2 .eq (.c2 .rd (.var 1) (.c2 .add (.c2 .mul (.var 4) (.num 73)) (.num 64))) (.c2 .rd (.var 3) (.c2 .add (.c2 .mul (.var 4) (.num 73)) (.num 64)))) (.c2 .and (.c2 .eq (.c2 .rd (.var 1) (.c2 .add (.c2 .mul (.var 4) (.num 73)) (.num 65))) (.c2 .rd (.var 3) (.c2 .add (.c2 .mul (.var 4) (.num 73)) (.num 65)))) (.c2 .and (.c2 .eq (.c2 .rd (.var 1) (.c2 .add (.c2 .mul (.var 4) (.num 73)) (.num 66))) (.c2 .rd (.var 3) (.c2 .add (.c2 .mul (.var 4) (.num 73)) (.num 66)))) (.c2 .and (.c2 .eq (.c2 .rd (.var 1) (.c2 .add (.c2 .mul (.var 4) (.num 73)) (.num 67))) (.c2 .rd (.var 3) (.c2 .add (.c2 .mul (.var 4) (.num 73)) (.num 67)))) (.c2 .and (.c2 .eq (.c2 .rd (.var 1) (.c2 .add (.c2 .mul (.var 4) (.num 73)) (.num 68))) (.c2 .rd (.var 3) (.c2 .add (.c2 .mul (.var 4) (.num 73)) (.num 68)))) (.c2 .and (.c2 .eq (.c2 .rd (.var 1) (.c2 .add (.c2 .mul (.var 4) (.num 73)) (.num 69))) (.c2 .rd (.var 3) (.c2 .add (.c2 .mul (.var 4) (.num 73)) (.num 69)))) (.c2 .and (.c2 .eq (.c2 .rd (.var 1) (.c2 .add (.c2 .mul (.var 4) (.num 73)) (.num 70))) (.c2 .rd (.var 3) (.c2 .add (.c2 .mul (.var 4) (.num 73)) (.num 70)))) (.c2 .and (.c2 .eq (.c2 .rd (.var 1) (.c2 .add (.c2 .mul (.var 4) (.num 73)) (.num 71))) (.c2 .rd (.var 3) (.c2 .add (.c2 .mul (.var 4) (.num 73)) (.num 71)))) (.c2 .eq (.c2 .rd (.var 1) (.c2 .add (.c2 .mul (.var 4) (.num 73)) (.num 72))) (.c2 .rd (.var 3) (.c2 .add (.c2 .mul (.var 4) (.num 73)) (.num 72)))))))))))))))))))))))))))))))))))))))))))))))))))))))))))))))))))))))))))))
    (.ret (.w (.c (.b (.bol false))), ⟨[], [], 2, 5, []⟩))
    (.back 0 4 [(.wr .i64 (.c2 .add (.var 4) (.num 1)))])))))
   (.ret (.w (.c (.b (.bol true))), ⟨[], [], 2, 5, []⟩)))))
theorem treePeSame_is : funTree (ctxN Go.Proofs.Try.prog annsPe [] 8) annsPe 13 tSameH.vs tSameH.bs tSameH.n (preF tSameH.res) = treePeSame := by kernel_rfl
end Go.Proofs.Ytbiodlomlendkaa.Sx
/- Sx laws of peeling: two lists of heads are the same: a contract. Conditions: none. -/
set_option linter.unusedVariables false
set_option linter.unusedSimpArgs false
namespace Go.Proofs.Ytbiodlomlendkaa.Sx
open Go
def idxT (m : T) : Nat → T
  | 0 => m
  | j + 1 => .c2 .add m (.num (.ofNat (j + 1)))
def eqAt (a b m : T) (j : Nat) : T := .c2 .eq (.c2 .rd a (idxT m j)) (.c2 .rd b (idxT m j))
/-- The elements from j on, n + 1 of them. -/
def eqsT (a b m : T) : Nat → Nat → T
  | j, 0 => eqAt a b m j
  | j, n + 1 => .c2 .and (eqAt a b m j) (eqsT a b m (j + 1) n)
section
variable {Φ : Sig} {ρ : Env} {a b m : T} {M : Nat}
theorem den_idx (hM : (T.den Φ ρ m).int = M) : ∀ j, (T.den Φ ρ (idxT m j)).int = ((M + j : Nat) : Int)
  | 0 => hM
  | j + 1 => by show (T.den Φ ρ m).int + (Int.ofNat (j + 1)) = _; rw [hM]; simp only [Int.ofNat_eq_natCast]; omega
theorem eqAt_iff (hM : (T.den Φ ρ m).int = M) (j : Nat) : (T.den Φ ρ (eqAt a b m j)).bool = true ↔ (T.den Φ ρ a).list[M + j]?.getD 0 = (T.den Φ ρ b).list[M + j]?.getD 0 := by
  rw [eqAt, eq_t, int_rd, int_rd, den_idx hM, Int.toNat_natCast]
theorem eqs_iff (hM : (T.den Φ ρ m).int = M) : ∀ (n j : Nat), (T.den Φ ρ (eqsT a b m j n)).bool = true ↔ ∀ i, j ≤ i → i ≤ j + n → (T.den Φ ρ a).list[M + i]?.getD 0 = (T.den Φ ρ b).list[M + i]?.getD 0
  | 0, j => by
    rw [eqsT, eqAt_iff hM]
    exact ⟨fun h i h1 h2 => by rw [show i = j from by omega]; exact h, fun h => h j (Nat.le_refl _) (by omega)⟩
  | n + 1, j => by
    rw [eqsT, and_t, eqAt_iff hM, eqs_iff hM n (j + 1)]
    constructor
    · rintro ⟨h1, h2⟩ i a1 a2
      rcases Nat.eq_or_lt_of_le a1 with e | e
      · rw [← e]; exact h1
      · exact h2 i e (by omega)
    · exact fun h => ⟨h j (Nat.le_refl _) (by omega), fun i a1 a2 => h i (by omega) (by omega)⟩
end
theorem take_many {a b : List Int} {i n : Nat} (h : a.take i = b.take i) (ha : i + n ≤ a.length) (hb : i + n ≤ b.length) (e : ∀ j, j < n → a[i + j]?.getD 0 = b[i + j]?.getD 0) : a.take (i + n) = b.take (i + n) := by
  apply List.ext_getElem?
  intro j
  rw [List.getElem?_take, List.getElem?_take]
  split
  · rename_i hj
    by_cases hji : j < i
    · have := congrArg (fun l => l[j]?) h
      simp only [List.getElem?_take, if_pos hji] at this
      exact this
    · have := e (j - i) (by omega)
      rw [show i + (j - i) = j from by omega, List.getElem?_eq_getElem (by omega), List.getElem?_eq_getElem (by omega)] at this
      rw [List.getElem?_eq_getElem (by omega), List.getElem?_eq_getElem (by omega)]
      simpa using this
  · rfl
def sameJ : Inv := ⟨fun _ ρ ds => ∃ i : Nat, (nthD ds 0).int = i ∧ (i : Int) ≤ (ρ 0).int ∧ (ρ 1).list.take (73 * i) = (ρ 3).list.take (73 * i), fun _ ρ ds => (ρ 0).int.toNat - (nthD ds 0).int.toNat⟩
set_option maxRecDepth 100000 in
theorem sameH_ok {Φ : Sig} : TmplOk Go.Proofs.Try.prog Φ 13 tSameH := by
  refine tmpl_of noCons treePeSame_is (fun ρ res hres => ⟨sameJ, ?_⟩)
  obtain ⟨a0, a1, hres⟩ := inR_some hres
  obtain ⟨b0, b1, hres⟩ := inR_some hres
  obtain ⟨_, hres⟩ := chk_some hres
  obtain ⟨_, hres⟩ := chk_some hres
  obtain ⟨l1, hres⟩ := chk_some hres
  obtain ⟨l2, hres⟩ := chk_some hres
  obtain rfl := ret_some hres
  simp at l1 l2
  obtain ⟨n, hn⟩ := Int.eq_ofNat_of_zero_le a0
  obtain ⟨n2, hn2⟩ := Int.eq_ofNat_of_zero_le b0
  rw [hn] at l1 a1
  rw [hn2] at l2 b1
  have hv : (T.den Φ ρ (.c2 .leq (.var 1) (.var 3))).bool = decide ((ρ 1).list = (ρ 3).list) := rfl
  refine ⟨fun c => ?_, fun c => ⟨⟨0, rfl, a0, by simp⟩, ?_⟩⟩
  · refine ⟨?_, trivial, Nat.le_refl _⟩
    show false = _
    rw [hv, eq_comm, decide_eq_false_iff_not]
    intro e
    simp [hn, hn2] at c
    rw [e] at l1; omega
  · simp [hn, hn2] at c
    rintro ds hlen ⟨i, i0, i1, i2⟩
    have e0 : upd ρ 4 ds 0 = ρ 0 := upd_lo ds (by decide)
    have e1 : upd ρ 4 ds 1 = ρ 1 := upd_lo ds (by decide)
    have e2 : upd ρ 4 ds 2 = ρ 2 := upd_lo ds (by decide)
    have e3 : upd ρ 4 ds 3 = ρ 3 := upd_lo ds (by decide)
    have e4 : upd ρ 4 ds 4 = nthD ds 0 := upd_at (i := 0) (by omega)
    generalize upd ρ 4 ds = ρ' at *
    have v4 : (ρ' 4).int = i := by rw [e4]; exact i0
    rw [hn] at i1
    have hM : (T.den Φ ρ' (.c2 .mul (.var 4) (.num 73))).int = ((73 * i : Nat) : Int) := by rw [int_mul, den_var, v4]; show (i : Int) * 73 = _; omega
    refine ⟨?_, fun d => ⟨?_, ?_, ?_, fun f => ?_, fun f => ?_⟩, fun d => ?_⟩
    · intro t p hm
      simp only [List.mem_cons, Prod.mk.injEq, List.not_mem_nil, or_false] at hm
      obtain ⟨rfl, rfl⟩ := hm
      rw [le_t, den_var, v4]; exact Int.natCast_nonneg _
    · rw [lt_t, den_var, den_var, v4, e0, hn] at d
      rw [le_t, int_add, hM, int_len, den_var, e1]; show ((73 * i : Nat) : Int) + 73 ≤ _; omega
    · rw [lt_t, den_var, den_var, v4, e0, hn] at d
      rw [lt_t, den_var, den_var, v4, e2, hn2]; omega
    · rw [lt_t, den_var, den_var, v4, e0, hn] at d
      rw [le_t, int_add, hM, int_len, den_var, e3]; show ((73 * i : Nat) : Int) + 73 ≤ _; omega
    · refine ⟨?_, trivial, Nat.le_refl _⟩
      show false = _
      rw [hv, eq_comm, decide_eq_false_iff_not]
      intro e
      rw [not_t] at f
      have : (T.den Φ ρ' (eqsT (.var 1) (.var 3) (.c2 .mul (.var 4) (.num 73)) 0 72)).bool = true := by
        rw [eqs_iff hM]
        intro j _ _
        rw [den_var, den_var, e1, e3, e]
      have f3 : (T.den Φ ρ' (eqsT (.var 1) (.var 3) (.c2 .mul (.var 4) (.num 73)) 0 72)).bool = false := f
      rw [this] at f3; cases f3
    · rw [lt_t, den_var, den_var, v4, e0, hn] at d
      rw [not_f] at f
      have f2 : (T.den Φ ρ' (eqsT (.var 1) (.var 3) (.c2 .mul (.var 4) (.num 73)) 0 72)).bool = true := f
      rw [eqs_iff hM] at f2
      have w : IntKind.i64.wrap ((i : Int) + 1) = ((i + 1 : Nat) : Int) := by rw [wrap_is (by simp only [kmin]; omega) (by simp only [kmax]; omega)]; rfl
      have w2 : (T.den Φ ρ' (.wr .i64 (.c2 .add (.var 4) (.num 1)))).int = ((i + 1 : Nat) : Int) := by rw [int_wr, int_add, den_var, v4]; exact w
      refine ok_back ⟨⟨i + 1, w2, by rw [hn]; omega, ?_⟩, ?_⟩
      · rw [show 73 * (i + 1) = 73 * i + 73 from by omega]
        refine take_many i2 (by omega) (by omega) (fun j hj => ?_)
        have := f2 j (Nat.zero_le _) (by omega)
        rw [den_var, den_var, e1, e3] at this
        exact this
      · show (ρ 0).int.toNat - (T.den Φ ρ' (.wr .i64 (.c2 .add (.var 4) (.num 1)))).int.toNat < (ρ 0).int.toNat - (nthD ds 0).int.toNat
        rw [w2, hn, i0]; omega
    · rw [lt_f, den_var, den_var, v4, e0, hn] at d
      refine ⟨?_, trivial, Nat.le_refl _⟩
      show true = _
      rw [hv, eq_comm, decide_eq_true_iff]
      have hi : i = n := by omega
      rw [hi, List.take_of_length_le (by omega), List.take_of_length_le (by omega)] at i2
      exact i2
end Go.Proofs.Ytbiodlomlendkaa.Sx
/- Sx: what Go function 14 does, as a tree of conditions (printed by a tool of this claim, proved by the kernel). Conditions: none. -/
set_option maxRecDepth 100000
namespace Go.Proofs.Ytbiodlomlendkaa.Sx
open Go
def treePlEq : M (V × St) :=
(.split (.c1 .not (.c2 .eq (.c1 .len (.var 0)) (.c1 .len (.var 1))))
 (.ret (.w (.c (.b (.bol false))), ⟨[], [], 2, 2, []⟩))
 (.loop 0 2 1 [(.num 0)] [((.c2 .le (.num 0) (.var 2)), true)]
  (.split (.c2 .lt (.var 2) (.c1 .len (.var 0)))
   (.chk (.c2 .lt (.var 2) (.c1 .len (.var 1)))
   (.split (.c1 .not (.c2 .eq (.c2 .rd (.var 0) (.var 2)) (.c2 .rd (.var 1) (.var 2))))
    (.ret (.w (.c (.b (.bol false))), ⟨[], [], 2, 3, []⟩))
    (.back 0 2 [(.wr .i64 (.c2 .add (.var 2) (.num 1)))])))
   (.ret (.w (.c (.b (.bol true))), ⟨[], [], 2, 3, []⟩)))))
theorem treePlEq_is : funTree (ctxN Go.Proofs.Try.prog annsEq [] 8) annsEq 14 tEq.vs tEq.bs tEq.n (preF tEq.res) = treePlEq := by kernel_rfl
end Go.Proofs.Ytbiodlomlendkaa.Sx
/- Sx: what Go function 15 does, as a tree of conditions (printed by a tool of this claim, proved by the kernel). Conditions: none. -/
set_option maxRecDepth 100000
namespace Go.Proofs.Ytbiodlomlendkaa.Sx
open Go
def treePlAwake : M (V × St) :=
(.ret (.w (.c (.b (.bol true))), ⟨[], [], 60, 0, []⟩))
theorem treePlAwake_is : funTree (ctxN Go.Proofs.Try.prog annsAw consAw 8) annsAw 15 tTrue.vs tTrue.bs tTrue.n (preF tTrue.res) = treePlAwake := by kernel_rfl
end Go.Proofs.Ytbiodlomlendkaa.Sx
/- Sx: what Go function 3 does, as a tree of conditions (printed by a tool of this claim, proved by the kernel). Conditions: none. -/
set_option maxRecDepth 100000
namespace Go.Proofs.Ytbiodlomlendkaa.Sx
open Go
def treePlPeels : M (V × St) :=
(.split (.c2 .eq (.fn 51 (.var 0) .nil .nil) (.num 0))
 (.chk (.c2 .le (.num 1) (.fn 52 (.var 0) .nil .nil))
 (.chk (.c2 .le (.fn 52 (.var 0) .nil .nil) (.num 8))
 (.chk (.c2 .eq (.c1 .len (.fn 50 (.var 0) .nil .nil)) (.c2 .mul (.fn 52 (.var 0) .nil .nil) (.num 73)))
 (.chk (.c1 (.kin [.u8, .u8, .u8, .u8, .u8, .u8, .u8, .u8, .u8, .u8, .u8, .u8, .u8, .u16, .u8, .u16, .u16, .u8, .u8, .u8, .u16, .u8, .u8, .u8, .u8, .u8, .u8, .u8, .u8, .u8, .u32, .u8, .u8, .u8, .u8, .u8, .u8, .u8, .u8, .u8, .u8, .u8, .u8, .u8, .u8, .u8, .u8, .u8, .u8, .u8, .u8, .u8, .u8, .u8, .u8, .u8, .u8, .u8, .u8, .u8, .u8, .u8, .u8, .u8, .u8, .u16, .u16, .u32, .u32, .u8, .u16, .u16, .u16]) (.fn 50 (.var 0) .nil .nil))
 (.chk (.c1 (.kin [.u8]) (.fn 53 (.var 0) .nil .nil))
 (.chk (.c2 .le (.c1 .len (.fn 53 (.var 0) .nil .nil)) (.c1 .len (.var 0)))
 (.loop 0 1 2 [(.num 0), (.fn 53 (.var 0) .nil .nil)] [((.c2 .le (.num 0) (.var 1)), true), ((.c2 .eq (.c1 .len (.var 2)) (.c1 .len (.fn 53 (.var 0) .nil .nil))), true), ((.c1 (.kin [.u8]) (.var 2)), true)]
  (.split (.c2 .lt (.var 1) (.c1 .len (.fn 53 (.var 0) .nil .nil)))
   (.chk (.c2 .le (.c2 .add (.var 1) (.num 1)) (.c1 .len (.var 2)))
   (.back 0 1 [(.wr .i64 (.c2 .add (.var 1) (.num 1))), (.set (.var 2) (.var 1) (.bits .xor .u8 (.c2 .rd (.var 2) (.var 1)) (.num 90)))]))
   (.loop 1 3 2 [(.num 0), (.fn 50 (.var 0) .nil .nil)] [((.c2 .le (.num 0) (.var 3)), true), ((.c2 .eq (.c1 .len (.var 4)) (.c2 .mul (.fn 52 (.var 0) .nil .nil) (.num 73))), true), ((.c1 (.kin [.u8, .u8, .u8, .u8, .u8, .u8, .u8, .u8, .u8, .u8, .u8, .u8, .u8, .u16, .u8, .u16, .u16, .u8, .u8, .u8, .u16, .u8, .u8, .u8, .u8, .u8, .u8, .u8, .u8, .u8, .u32, .u8, .u8, .u8, .u8, .u8, .u8, .u8, .u8, .u8, .u8, .u8, .u8, .u8, .u8, .u8, .u8, .u8, .u8, .u8, .u8, .u8, .u8, .u8, .u8, .u8, .u8, .u8, .u8, .u8, .u8, .u8, .u8, .u8, .u8, .u16, .u16, .u32, .u32, .u8, .u16, .u16, .u16]) (.var 4)), true)]
    (.split (.c2 .lt (.var 3) (.fn 52 (.var 0) .nil .nil))
     (.chk (.c2 .le (.c2 .add (.c2 .mul (.var 3) (.num 73)) (.num 1)) (.c1 .len (.var 4)))
     (.back 1 3 [(.wr .i64 (.c2 .add (.var 3) (.num 1))), (.set (.var 4) (.c2 .mul (.var 3) (.num 73)) (.num 99))]))
     (.ret (.w (.c (.b (.bol true))), ⟨[], [], 5614, 5, []⟩))))))))))))
 (.ret (.w (.c (.b (.bol true))), ⟨[], [], 5606, 1, []⟩)))
theorem treePlPeels_is : funTree (ctxN Go.Proofs.Try.prog annsPl consPl 8) annsPl 3 tPeels.vs tPeels.bs tPeels.n (preF tPeels.res) = treePlPeels := by kernel_rfl
end Go.Proofs.Ytbiodlomlendkaa.Sx
/- Sx: what Go function 6 does, as a tree of conditions (printed by a tool of this claim, proved by the kernel). Conditions: none. -/
set_option maxRecDepth 100000
namespace Go.Proofs.Ytbiodlomlendkaa.Sx
open Go
def treePlAll : M (V × St) :=
(.split (.c2 .eq (.fn 51 (.var 0) .nil .nil) (.num 0))
 (.chk (.c2 .le (.num 1) (.fn 52 (.var 0) .nil .nil))
 (.chk (.c2 .le (.fn 52 (.var 0) .nil .nil) (.num 8))
 (.chk (.c2 .eq (.c1 .len (.fn 50 (.var 0) .nil .nil)) (.c2 .mul (.fn 52 (.var 0) .nil .nil) (.num 73)))
 (.chk (.c1 (.kin [.u8, .u8, .u8, .u8, .u8, .u8, .u8, .u8, .u8, .u8, .u8, .u8, .u8, .u16, .u8, .u16, .u16, .u8, .u8, .u8, .u16, .u8, .u8, .u8, .u8, .u8, .u8, .u8, .u8, .u8, .u32, .u8, .u8, .u8, .u8, .u8, .u8, .u8, .u8, .u8, .u8, .u8, .u8, .u8, .u8, .u8, .u8, .u8, .u8, .u8, .u8, .u8, .u8, .u8, .u8, .u8, .u8, .u8, .u8, .u8, .u8, .u8, .u8, .u8, .u8, .u16, .u16, .u32, .u32, .u8, .u16, .u16, .u16]) (.fn 50 (.var 0) .nil .nil))
 (.chk (.c1 (.kin [.u8]) (.fn 53 (.var 0) .nil .nil))
 (.chk (.c2 .le (.c1 .len (.fn 53 (.var 0) .nil .nil)) (.c1 .len (.var 0)))
 (.loop 0 1 2 [(.num 0), (.num 0)] [((.c2 .le (.num 0) (.var 1)), true), ((.c2 .le (.var 1) (.num 320)), true), ((.c2 .le (.num 0) (.var 2)), true)]
  (.split (.c2 .lt (.var 2) (.fn 52 (.var 0) .nil .nil))
   (.chk (.c2 .le (.c2 .add (.c2 .mul (.var 2) (.num 73)) (.num 1)) (.c1 .len (.fn 50 (.var 0) .nil .nil)))
   (.split (.c2 .lt (.c2 .rd (.fn 50 (.var 0) .nil .nil) (.c2 .mul (.var 2) (.num 73))) (.num 1))
    (.ret (.w (.c (.b (.bol false))), ⟨[], [], 5202, 3, []⟩))
    (.split (.c2 .lt (.num 6) (.c2 .rd (.fn 50 (.var 0) .nil .nil) (.c2 .mul (.var 2) (.num 73))))
     (.ret (.w (.c (.b (.bol false))), ⟨[], [], 5202, 3, []⟩))
     (.back 0 1 [(.c2 .add (.var 1) (.c2 .rd (.cons (.num 0) (.cons (.num 14) (.cons (.num 4) (.cons (.num 20) (.cons (.num 40) (.cons (.num 20) (.cons (.num 8) .nil))))))) (.c2 .rd (.fn 50 (.var 0) .nil .nil) (.c2 .mul (.var 2) (.num 73))))), (.wr .i64 (.c2 .add (.var 2) (.num 1)))]))))
   (.split (.c2 .eq (.wr .i64 (.c2 .add (.var 1) (.c1 .len (.fn 53 (.var 0) .nil .nil)))) (.c1 .len (.var 0)))
    (.chk (.c2 .le (.var 1) (.c1 .len (.var 0)))
    (.ret (.w (.c (.b (.c2 .leq (.fn 53 (.var 0) .nil .nil) (.c2 .drop (.var 1) (.var 0))))), ⟨[], [], 5204, 3, []⟩)))
    (.ret (.w (.c (.b (.bol false))), ⟨[], [], 5202, 3, []⟩)))))))))))
 (.ret (.w (.c (.b (.bol true))), ⟨[], [], 5201, 1, []⟩)))
theorem treePlAll_is : funTree (ctxN Go.Proofs.Try.prog annsPl consPl 8) annsPl 6 tPeels.vs tPeels.bs tPeels.n (preF tPeels.res) = treePlAll := by kernel_rfl
end Go.Proofs.Ytbiodlomlendkaa.Sx
/- Sx laws of peeling: what is peeled is the document's; sizes add up: the trees' leaves are true. Conditions: none. -/
set_option linter.unusedVariables false
set_option linter.unusedSimpArgs false
namespace Go.Proofs.Ytbiodlomlendkaa.Sx
open Go
theorem consPl0_ok : ConsOk Go.Proofs.Try.prog ΦP consPl0 := moreCons (con_ok (eq_ok treePlEq_is)) (moreCons (con_ok sameH_ok) (moreCons (con_ok (peel_ok sigP)) (moreCons (con_ok (peelR_ok sigP)) (consPe_ok sigP))))
theorem plAwake_ok : TmplOk Go.Proofs.Try.prog ΦP 15 tTrue := by
  refine tmpl_of (moreCons (con_ok (eq_ok treePlEq_is)) (moreCons (con_ok clone_ok) noCons)) treePlAwake_is (fun ρ res hres => ⟨eqJ, ?_⟩)
  obtain rfl := ret_some hres
  exact leaf_true rfl (by decide)
theorem consPl_ok : ConsOk Go.Proofs.Try.prog ΦP consPl := moreCons (con_ok plAwake_ok) consPl0_ok
/-- What is known of a packet that is peeled. -/
structure PlOk (ρ : Env) (m : Nat) : Prop where
  one : 1 ≤ m
  most : m ≤ 8
  peeled : Peeled (ρ 0).list (peelOf (ρ 0).list).1 (peelOf (ρ 0).list).2.1 m
  num : (T.den ΦP ρ (.fn 52 (.var 0) .nil .nil)).int = m
  rest : Bytes ((ρ 0).list.drop (peelOf (ρ 0).list).2.1)
theorem pl_ok {ρ : Env} (hb : Bytes (ρ 0).list) (h : (peelOf (ρ 0).list).2.2 = 0) : ∃ m, PlOk ρ m := by
  obtain ⟨m, h1, h2, h3⟩ := peelOf_spec h
  exact ⟨m, h1, h2, h3, pl52 h3.len, bytes_drop hb _⟩
def peelsJ : Inv := ⟨fun id ρ ds => if id = 0 then (∃ (i : Nat) (l : List Int), (nthD ds 0).int = i ∧ (nthD ds 1).list = l ∧ l.length = ((ρ 0).list.drop (peelOf (ρ 0).list).2.1).length ∧ Bytes l ∧ i ≤ l.length)
    else (∃ (i : Nat) (l : List Int), (nthD ds 0).int = i ∧ (nthD ds 1).list = l ∧ l.length = (peelOf (ρ 0).list).1.length ∧ inKinds kHead 0 l = true ∧ 73 * i ≤ l.length),
  fun id ρ ds => if id = 0 then ((ρ 0).list.drop (peelOf (ρ 0).list).2.1).length - (nthD ds 0).int.toNat else (peelOf (ρ 0).list).1.length - (nthD ds 0).int.toNat⟩
theorem set_kin {ks : List IntKind} {l : List Int} {i : Nat} {z : Int} (h : inKinds ks 0 l = true) (hz : kmin (kAt ks i) ≤ z ∧ z ≤ kmax (kAt ks i)) : inKinds ks 0 (l.set i z) = true := by
  rw [inKinds_iff] at h ⊢
  intro j y hj
  rw [List.getElem?_set] at hj
  split at hj
  · rename_i e
    subst e
    split at hj
    · injection hj with hj; subst hj; rw [Nat.zero_add]; exact hz
    · cases hj
  · exact h j y hj
set_option maxRecDepth 100000 in
theorem plPeels_ok : TmplOk Go.Proofs.Try.prog ΦP 3 tPeels := by
  refine tmpl_of consPl_ok treePlPeels_is (fun ρ res hres => ⟨peelsJ, ?_⟩)
  obtain ⟨h0, hres⟩ := short_some hres
  obtain ⟨hb, hres⟩ := bytes_some hres
  obtain rfl := ret_some hres
  refine ⟨fun c => ?_, fun c => leaf_true rfl (by decide)⟩
  rw [eq_t, pl51] at c
  obtain ⟨m, hm⟩ := pl_ok hb c
  have hn := hm.num
  have hlen := hm.peeled.len
  refine ⟨?_, ?_, ?_, ?_, ?_, ?_, ⟨0, _, rfl, rfl, rfl, hm.rest, Nat.zero_le _⟩, ?_⟩
  · rw [le_t, hn]; show (1 : Int) ≤ m; have := hm.one; omega
  · rw [le_t, hn]; show (m : Int) ≤ 8; have := hm.most; omega
  · rw [eq_t, int_len, pl50, int_mul, hn, hlen]; show ((73 * m : Nat) : Int) = m * 73; omega
  · exact hm.peeled.kin
  · rw [bytes_t, pl53]; exact hm.rest
  · rw [le_t, int_len, int_len, pl53, List.length_drop, den_var]; omega
  rintro ds hds ⟨i, l, hi, hl, hll, hbl, hil⟩
  have e0 : upd ρ 1 ds 0 = ρ 0 := upd_lo ds (by decide)
  have e1 : upd ρ 1 ds 1 = nthD ds 0 := upd_at (i := 0) (by omega)
  have e2 : upd ρ 1 ds 2 = nthD ds 1 := upd_at (i := 1) (by omega)
  generalize hρ1 : upd ρ 1 ds = ρ1 at *
  have v1 : (ρ1 1).int = i := by rw [e1]; exact hi
  have v2 : (ρ1 2).list = l := by rw [e2]; exact hl
  have w53 : (T.den ΦP ρ1 (.fn 53 (.var 0) .nil .nil)).list = (ρ 0).list.drop (peelOf (ρ 0).list).2.1 := by rw [pl53, e0]
  have h0' : (ρ 0).list.length ≤ 140737488351232 := h0
  have hrl : ((ρ 0).list.drop (peelOf (ρ 0).list).2.1).length ≤ (ρ 0).list.length := by rw [List.length_drop]; omega
  refine ⟨?_, fun d => ⟨?_, ?_⟩, fun d => ⟨⟨0, _, rfl, rfl, ?_, ?_, Nat.zero_le _⟩, ?_⟩⟩
  · intro t p hm'
    simp only [List.mem_cons, Prod.mk.injEq, List.not_mem_nil, or_false] at hm'
    rcases hm' with ⟨rfl, rfl⟩ | ⟨rfl, rfl⟩ | ⟨rfl, rfl⟩
    · rw [le_t, den_var, v1]; exact Int.natCast_nonneg _
    · rw [eq_t, int_len, int_len, w53, den_var, v2, hll]
    · rw [bytes_t, den_var, v2]; exact hbl
  · rw [lt_t, den_var, v1, int_len, w53] at d
    rw [le_t, int_add, int_len, den_var, den_var, v1, v2, hll]; show (i : Int) + 1 ≤ _; omega
  · rw [lt_t, den_var, v1, int_len, w53] at d
    have w : (T.den ΦP ρ1 (.wr .i64 (.c2 .add (.var 1) (.num 1)))).int = ((i + 1 : Nat) : Int) := by
      rw [int_wr, int_add, den_var, v1]
      show IntKind.i64.wrap ((i : Int) + 1) = _
      rw [wrap_is (by simp only [kmin]; omega) (by simp only [kmax]; omega)]; rfl
    have hx := bits_range .xor .u8 (l.getD i 0) 90
    refine ok_back ⟨⟨i + 1, l.set i (Go.bits .xor .u8 (l.getD i 0) 90), w, ?_, by simpa using hll, set_bytes hbl ⟨hx.1, by have := hx.2; simp only [kmax, Bo.op] at this; omega⟩, by rw [List.length_set]; omega⟩, ?_⟩
    · show (T.den ΦP ρ1 (.set (.var 2) (.var 1) (.bits .xor .u8 (.c2 .rd (.var 2) (.var 1)) (.num 90)))).list = _
      rw [list_set, int_bits, int_rd, den_var, den_var, v1, v2, Int.toNat_natCast]; rfl
    · show ((ρ 0).list.drop _).length - (T.den ΦP ρ1 (.wr .i64 (.c2 .add (.var 1) (.num 1)))).int.toNat < ((ρ 0).list.drop _).length - (nthD ds 0).int.toNat
      rw [w, hi]; omega
  · show (peelOf (ρ1 0).list).1.length = _; rfl
  · show inKinds kHead 0 (peelOf (ρ1 0).list).1 = true
    rw [e0]; exact hm.peeled.kin
  rintro ds2 hds2 ⟨i2, l2, hi2, hl2, hll2, hk2, hil2⟩
  have f0 : upd ρ1 3 ds2 0 = ρ 0 := (upd_lo ds2 (by decide)).trans e0
  have f3 : upd ρ1 3 ds2 3 = nthD ds2 0 := upd_at (i := 0) (by omega)
  have f4 : upd ρ1 3 ds2 4 = nthD ds2 1 := upd_at (i := 1) (by omega)
  generalize upd ρ1 3 ds2 = ρ2 at *
  rw [e0, hlen] at hll2
  have v3 : (ρ2 3).int = i2 := by rw [f3]; exact hi2
  have v4 : (ρ2 4).list = l2 := by rw [f4]; exact hl2
  have w52 : (T.den ΦP ρ2 (.fn 52 (.var 0) .nil .nil)).int = m := pl52 (by rw [f0]; exact hlen)
  have hmost := hm.most
  refine ⟨?_, fun d2 => ⟨?_, ?_⟩, fun d2 => leaf_true rfl (by decide)⟩
  · intro t p hm'
    simp only [List.mem_cons, Prod.mk.injEq, List.not_mem_nil, or_false] at hm'
    rcases hm' with ⟨rfl, rfl⟩ | ⟨rfl, rfl⟩ | ⟨rfl, rfl⟩
    · rw [le_t, den_var, v3]; exact Int.natCast_nonneg _
    · rw [eq_t, int_len, int_mul, w52, den_var, v4, hll2]; show ((73 * m : Nat) : Int) = m * 73; omega
    · show inKinds kHead 0 (ρ2 4).list = true; rw [v4]; exact hk2
  · rw [lt_t, den_var, v3, w52] at d2
    rw [le_t, int_add, int_mul, int_len, den_var, den_var, v3, v4, hll2]; show (i2 : Int) * 73 + 1 ≤ _; omega
  · rw [lt_t, den_var, v3, w52] at d2
    have w : (T.den ΦP ρ2 (.wr .i64 (.c2 .add (.var 3) (.num 1)))).int = ((i2 + 1 : Nat) : Int) := by
      rw [int_wr, int_add, den_var, v3]
      show IntKind.i64.wrap ((i2 : Int) + 1) = _
      rw [wrap_is (by simp only [kmin]; omega) (by simp only [kmax]; omega)]; rfl
    refine ok_back ⟨⟨i2 + 1, l2.set (73 * i2) 99, w, ?_, ?_, set_kin hk2 ?_, ?_⟩, ?_⟩
    · show (T.den ΦP ρ2 (.set (.var 4) (.c2 .mul (.var 3) (.num 73)) (.num 99))).list = _
      rw [list_set, int_mul, den_var, den_var, v3, v4]
      show l2.set ((i2 : Int) * 73).toNat 99 = _
      rw [show ((i2 : Int) * 73).toNat = 73 * i2 from by omega]
    · rw [List.length_set, e0, hll2, hlen]
    · have : kAt kHead (73 * i2) = .u8 := by
        rw [kAt, kHead_len, Nat.mul_mod_right]; rfl
      rw [this]; decide
    · rw [List.length_set, hll2]; omega
    · show (peelOf (ρ1 0).list).1.length - (T.den ΦP ρ2 (.wr .i64 (.c2 .add (.var 3) (.num 1)))).int.toNat < (peelOf (ρ1 0).list).1.length - (nthD ds2 0).int.toNat
      rw [w, hi2, e0, hlen]; omega
end Go.Proofs.Ytbiodlomlendkaa.Sx
/- Sx laws of peeling: the sizes and what is behind are together the packet: the tree's leaves are true. Conditions: none. -/
set_option linter.unusedVariables false
set_option linter.unusedSimpArgs false
namespace Go.Proofs.Ytbiodlomlendkaa.Sx
open Go
theorem hdSize_le (k : Nat) : hdSize k ≤ 40 := by unfold hdSize; split <;> decide
theorem szSum_le (rows : List Int) : ∀ i, szSum rows i ≤ 40 * i
  | 0 => Nat.le_refl _
  | i + 1 => by have := szSum_le rows i; have := hdSize_le (rows[73 * i]?.getD 0).toNat; rw [szSum]; omega
def allJ : Inv := ⟨fun _ ρ ds => ∃ i : Nat, (nthD ds 1).int = i ∧ 73 * i ≤ (peelOf (ρ 0).list).1.length ∧ (nthD ds 0).int = szSum (peelOf (ρ 0).list).1 i, fun _ ρ ds => (peelOf (ρ 0).list).1.length - (nthD ds 1).int.toNat⟩
theorem sizes_rd {k : Nat} (hk : 1 ≤ k ∧ k ≤ 6) : ([0, 14, 4, 20, 40, 20, 8] : List Int)[k]?.getD 0 = hdSize k := by
  have : k = 1 ∨ k = 2 ∨ k = 3 ∨ k = 4 ∨ k = 5 ∨ k = 6 := by omega
  rcases this with rfl | rfl | rfl | rfl | rfl | rfl <;> rfl
set_option maxRecDepth 100000 in
theorem plAll_ok : TmplOk Go.Proofs.Try.prog ΦP 6 tPeels := by
  refine tmpl_of consPl_ok treePlAll_is (fun ρ res hres => ⟨allJ, ?_⟩)
  obtain ⟨h0, hres⟩ := short_some hres
  obtain ⟨hb, hres⟩ := bytes_some hres
  obtain rfl := ret_some hres
  refine ⟨fun c => ?_, fun c => leaf_true rfl (by decide)⟩
  rw [eq_t, pl51] at c
  obtain ⟨m, hm⟩ := pl_ok hb c
  have hn := hm.num
  have hlen := hm.peeled.len
  have hmost := hm.most
  have h0' : (ρ 0).list.length ≤ 140737488351232 := h0
  refine ⟨?_, ?_, ?_, ?_, ?_, ?_, ⟨0, rfl, Nat.zero_le _, rfl⟩, ?_⟩
  · rw [le_t, hn]; show (1 : Int) ≤ m; have := hm.one; omega
  · rw [le_t, hn]; show (m : Int) ≤ 8; omega
  · rw [eq_t, int_len, pl50, int_mul, hn, hlen]; show ((73 * m : Nat) : Int) = m * 73; omega
  · exact hm.peeled.kin
  · rw [bytes_t, pl53]; exact hm.rest
  · rw [le_t, int_len, int_len, pl53, List.length_drop, den_var]; omega
  rintro ds hds ⟨i, hi, hil, hs⟩
  have e0 : upd ρ 1 ds 0 = ρ 0 := upd_lo ds (by decide)
  have e1 : upd ρ 1 ds 1 = nthD ds 0 := upd_at (i := 0) (by omega)
  have e2 : upd ρ 1 ds 2 = nthD ds 1 := upd_at (i := 1) (by omega)
  generalize upd ρ 1 ds = ρ1 at *
  have v1 : (ρ1 1).int = szSum (peelOf (ρ 0).list).1 i := by rw [e1]; exact hs
  have v2 : (ρ1 2).int = i := by rw [e2]; exact hi
  rw [hlen] at hil
  have w52 : (T.den ΦP ρ1 (.fn 52 (.var 0) .nil .nil)).int = m := pl52 (by rw [e0]; exact hlen)
  have w50 : (T.den ΦP ρ1 (.fn 50 (.var 0) .nil .nil)).list = (peelOf (ρ 0).list).1 := by rw [pl50, e0]
  have w53 : (T.den ΦP ρ1 (.fn 53 (.var 0) .nil .nil)).list = (ρ 0).list.drop (peelOf (ρ 0).list).2.1 := by rw [pl53, e0]
  have hx : (T.den ΦP ρ1 (.c2 .mul (.var 2) (.num 73))).int = ((73 * i : Nat) : Int) := by rw [int_mul, den_var, v2]; show (i : Int) * 73 = _; omega
  have hrd : (T.den ΦP ρ1 (.c2 .rd (.fn 50 (.var 0) .nil .nil) (.c2 .mul (.var 2) (.num 73)))).int = (peelOf (ρ 0).list).1[73 * i]?.getD 0 := by rw [int_rd, w50, hx, Int.toNat_natCast]
  have hle := szSum_le (peelOf (ρ 0).list).1 i
  refine ⟨?_, fun d => ⟨?_, fun f => ?_, fun f => ⟨fun q => ?_, fun q => ?_⟩⟩, fun d => ⟨fun f => ⟨?_, ?_⟩, fun f => ?_⟩⟩
  · intro t p hm'
    simp only [List.mem_cons, Prod.mk.injEq, List.not_mem_nil, or_false] at hm'
    rcases hm' with ⟨rfl, rfl⟩ | ⟨rfl, rfl⟩ | ⟨rfl, rfl⟩
    · rw [le_t, den_var, v1]; exact Int.natCast_nonneg _
    · rw [le_t, den_var, v1]; show ((szSum _ i : Nat) : Int) ≤ 320; omega
    · rw [le_t, den_var, v2]; exact Int.natCast_nonneg _
  · rw [lt_t, den_var, v2, w52] at d
    rw [le_t, int_add, hx, int_len, w50, hlen]; show ((73 * i : Nat) : Int) + 1 ≤ _; omega
  · exfalso
    rw [lt_t, den_var, v2, w52] at d
    rw [lt_t, hrd] at f
    have := (hm.peeled.kind i (by omega)).1
    have f : (peelOf (ρ 0).list).1[73 * i]?.getD 0 < 1 := f
    omega
  · exfalso
    rw [lt_t, den_var, v2, w52] at d
    rw [lt_t, hrd] at q
    have := (hm.peeled.kind i (by omega)).2
    have q : 6 < (peelOf (ρ 0).list).1[73 * i]?.getD 0 := q
    omega
  · rw [lt_t, den_var, v2, w52] at d
    have hk := hm.peeled.kind i (by omega)
    obtain ⟨k, hk'⟩ := Int.eq_ofNat_of_zero_le (show 0 ≤ (peelOf (ρ 0).list).1[73 * i]?.getD 0 by omega)
    have w : (T.den ΦP ρ1 (.wr .i64 (.c2 .add (.var 2) (.num 1)))).int = ((i + 1 : Nat) : Int) := by
      rw [int_wr, int_add, den_var, v2]
      show IntKind.i64.wrap ((i : Int) + 1) = _
      rw [wrap_is (by simp only [kmin]; omega) (by simp only [kmax]; omega)]; rfl
    refine ok_back ⟨⟨i + 1, w, by rw [hlen]; omega, ?_⟩, ?_⟩
    · show (T.den ΦP ρ1 (.c2 .add (.var 1) (.c2 .rd (.cons (.num 0) (.cons (.num 14) (.cons (.num 4) (.cons (.num 20) (.cons (.num 40) (.cons (.num 20) (.cons (.num 8) .nil))))))) (.c2 .rd (.fn 50 (.var 0) .nil .nil) (.c2 .mul (.var 2) (.num 73)))))).int = _
      rw [int_add, int_rd, hrd, den_var, v1, hk']
      show (szSum (peelOf (ρ 0).list).1 i : Int) + ([0, 14, 4, 20, 40, 20, 8] : List Int)[k]?.getD 0 = _
      rw [sizes_rd (k := k) (by omega), szSum, hk']
      simp only [Int.toNat_natCast]
      omega
    · show (peelOf (ρ 0).list).1.length - (T.den ΦP ρ1 (.wr .i64 (.c2 .add (.var 2) (.num 1)))).int.toNat < (peelOf (ρ 0).list).1.length - (nthD ds 1).int.toNat
      rw [w, hi, hlen]; omega
  all_goals
    rw [lt_f, den_var, v2, w52] at d
    have him : i = m := by omega
    subst him
    rw [hm.peeled.sum] at v1
    have hat := hm.peeled.at_
  · rw [le_t, den_var, v1, int_len, den_var, e0]; omega
  · refine leaf_true ?_ (by decide)
    rw [leq_t, w53, list_drop, den_var, v1, den_var, e0, Int.toNat_natCast]
  · exfalso
    rw [eq_f, int_wr, int_add, den_var, v1, int_len, w53, int_len, den_var, e0, List.length_drop] at f
    apply f
    rw [wrap_is (by simp only [kmin]; omega) (by simp only [kmax]; omega)]
    omega
end Go.Proofs.Ytbiodlomlendkaa.Sx
/- Sx: what Go function 16 does, as a tree of conditions (printed by a tool of this claim, proved by the kernel). Conditions: none. -/
set_option maxRecDepth 100000
namespace Go.Proofs.Ytbiodlomlendkaa.Sx
open Go
def treePwWhere : M (V × St) :=
(.split (.c2 .lt (.var 1) (.num 1))
 (.ret (.t [.g [.i .i64 (.num 0), .i .i64 (.num 0)], .c (.b (.bol false)), .c (.i .i64 (.num 120))], ⟨[], [], 2, 2, []⟩))
 (.split (.c2 .lt (.num 6) (.var 1))
  (.ret (.t [.g [.i .i64 (.num 0), .i .i64 (.num 0)], .c (.b (.bol false)), .c (.i .i64 (.num 120))], ⟨[], [], 2, 2, []⟩))
  (.split (.c2 .eq (.fn 51 (.var 0) .nil .nil) (.num 0))
   (.chk (.c2 .le (.num 1) (.fn 52 (.var 0) .nil .nil))
   (.chk (.c2 .le (.fn 52 (.var 0) .nil .nil) (.num 8))
   (.chk (.c2 .eq (.c1 .len (.fn 50 (.var 0) .nil .nil)) (.c2 .mul (.fn 52 (.var 0) .nil .nil) (.num 73)))
   (.chk (.c1 (.kin [.u8, .u8, .u8, .u8, .u8, .u8, .u8, .u8, .u8, .u8, .u8, .u8, .u8, .u16, .u8, .u16, .u16, .u8, .u8, .u8, .u16, .u8, .u8, .u8, .u8, .u8, .u8, .u8, .u8, .u8, .u32, .u8, .u8, .u8, .u8, .u8, .u8, .u8, .u8, .u8, .u8, .u8, .u8, .u8, .u8, .u8, .u8, .u8, .u8, .u8, .u8, .u8, .u8, .u8, .u8, .u8, .u8, .u8, .u8, .u8, .u8, .u8, .u8, .u8, .u8, .u16, .u16, .u32, .u32, .u8, .u16, .u16, .u16]) (.fn 50 (.var 0) .nil .nil))
   (.chk (.c1 (.kin [.u8]) (.fn 53 (.var 0) .nil .nil))
   (.chk (.c2 .le (.c1 .len (.fn 53 (.var 0) .nil .nil)) (.c1 .len (.var 0)))
   (.loop 0 2 2 [(.num 0), (.num 0)] [((.c2 .le (.num 0) (.var 2)), true), ((.c2 .le (.var 2) (.num 320)), true), ((.c2 .le (.num 0) (.var 3)), true)]
    (.split (.c2 .lt (.var 3) (.fn 52 (.var 0) .nil .nil))
     (.chk (.c2 .le (.c2 .add (.c2 .mul (.var 3) (.num 73)) (.num 73)) (.c1 .len (.fn 50 (.var 0) .nil .nil)))
     (.split (.c2 .eq (.c2 .rd (.fn 50 (.var 0) .nil .nil) (.c2 .mul (.var 3) (.num 73))) (.var 1))
      (.split (.c2 .eq (.var 1) (.num 1))
       (.ret (.t [.g [.i .i64 (.var 2), .i .i64 (.num 14)], .c (.b (.bol true)), .c (.i .i64 (.num 0))], ⟨[], [], 205, 4, []⟩))
       (.split (.c2 .eq (.var 1) (.num 2))
        (.ret (.t [.g [.i .i64 (.var 2), .i .i64 (.num 4)], .c (.b (.bol true)), .c (.i .i64 (.num 0))], ⟨[], [], 205, 4, []⟩))
        (.split (.c2 .eq (.var 1) (.num 3))
         (.ret (.t [.g [.i .i64 (.var 2), .i .i64 (.num 20)], .c (.b (.bol true)), .c (.i .i64 (.num 0))], ⟨[], [], 205, 4, []⟩))
         (.split (.c2 .eq (.var 1) (.num 4))
          (.ret (.t [.g [.i .i64 (.var 2), .i .i64 (.num 40)], .c (.b (.bol true)), .c (.i .i64 (.num 0))], ⟨[], [], 205, 4, []⟩))
          (.split (.c2 .eq (.var 1) (.num 5))
           (.ret (.t [.g [.i .i64 (.var 2), .i .i64 (.num 20)], .c (.b (.bol true)), .c (.i .i64 (.num 0))], ⟨[], [], 205, 4, []⟩))
           (.split (.c2 .eq (.var 1) (.num 6))
            (.ret (.t [.g [.i .i64 (.var 2), .i .i64 (.num 8)], .c (.b (.bol true)), .c (.i .i64 (.num 0))], ⟨[], [], 205, 4, []⟩))
            (.fail 11)))))))
      (.chk (.c2 .lt (.c2 .rd (.fn 50 (.var 0) .nil .nil) (.c2 .mul (.var 3) (.num 73))) (.num 7))
      (.split (.c2 .eq (.c2 .rd (.fn 50 (.var 0) .nil .nil) (.c2 .mul (.var 3) (.num 73))) (.num 0))
       (.back 0 2 [(.var 2), (.wr .i64 (.c2 .add (.var 3) (.num 1)))])
       (.split (.c2 .eq (.c2 .rd (.fn 50 (.var 0) .nil .nil) (.c2 .mul (.var 3) (.num 73))) (.num 1))
        (.back 0 2 [(.c2 .add (.var 2) (.num 14)), (.wr .i64 (.c2 .add (.var 3) (.num 1)))])
        (.split (.c2 .eq (.c2 .rd (.fn 50 (.var 0) .nil .nil) (.c2 .mul (.var 3) (.num 73))) (.num 2))
         (.back 0 2 [(.c2 .add (.var 2) (.num 4)), (.wr .i64 (.c2 .add (.var 3) (.num 1)))])
         (.split (.c2 .eq (.c2 .rd (.fn 50 (.var 0) .nil .nil) (.c2 .mul (.var 3) (.num 73))) (.num 3))
          (.back 0 2 [(.c2 .add (.var 2) (.num 20)), (.wr .i64 (.c2 .add (.var 3) (.num 1)))])
          (.split (.c2 .eq (.c2 .rd (.fn 50 (.var 0) .nil .nil) (.c2 .mul (.var 3) (.num 73))) (.num 4))
           (.back 0 2 [(.c2 .add (.var 2) (.num 40)), (.wr .i64 (.c2 .add (.var 3) (.num 1)))])
           (.split (.c2 .eq (.c2 .rd (.fn 50 (.var 0) .nil .nil) (.c2 .mul (.var 3) (.num 73))) (.num 5))
            (.back 0 2 [(.c2 .add (.var 2) (.num 20)), (.wr .i64 (.c2 .add (.var 3) (.num 1)))])
            (.split (.c2 .eq (.c2 .rd (.fn 50 (.var 0) .nil .nil) (.c2 .mul (.var 3) (.num 73))) (.num 6))
             (.back 0 2 [(.c2 .add (.var 2) (.num 8)), (.wr .i64 (.c2 .add (.var 3) (.num 1)))])
             (.fail 11)))))))))))
     (.ret (.t [.g [.i .i64 (.num 0), .i .i64 (.num 0)], .c (.b (.bol false)), .c (.i .i64 (.num 0))], ⟨[], [], 204, 4, []⟩))))))))))
   (.ret (.t [.g [.i .i64 (.num 0), .i .i64 (.num 0)], .c (.b (.bol false)), .c (.i .i64 (.fn 51 (.var 0) .nil .nil))], ⟨[], [], 202, 2, []⟩)))))
theorem treePwWhere_is : funTree (ctxN Go.Proofs.Try.prog annsWh consPl0 8) annsWh 16 tWhere.vs tWhere.bs tWhere.n (preF tWhere.res) = treePwWhere := by kernel_rfl
end Go.Proofs.Ytbiodlomlendkaa.Sx
/- Sx: what Go function 17 does, as a tree of conditions (printed by a tool of this claim, proved by the kernel). Conditions: none. -/
set_option maxRecDepth 100000
namespace Go.Proofs.Ytbiodlomlendkaa.Sx
open Go
def treePwWhereR : M (V × St) :=
(.split (.c2 .lt (.num 6) (.var 1))
 (.ret (.t [.g [.i .i64 (.num 0), .i .i64 (.num 0)], .c (.b (.bol false)), .c (.i .i64 (.num 120))], ⟨[], [], 3, 2, []⟩))
 (.split (.c2 .eq (.c2 .rd (.cons (.num 0) (.cons (.num 14) (.cons (.num 4) (.cons (.num 20) (.cons (.num 40) (.cons (.num 20) (.cons (.num 8) .nil))))))) (.var 1)) (.num 0))
  (.ret (.t [.g [.i .i64 (.num 0), .i .i64 (.num 0)], .c (.b (.bol false)), .c (.i .i64 (.num 120))], ⟨[], [], 3, 2, []⟩))
  (.split (.c2 .eq (.fn 51 (.var 0) .nil .nil) (.num 0))
   (.chk (.c2 .le (.num 1) (.fn 52 (.var 0) .nil .nil))
   (.chk (.c2 .le (.fn 52 (.var 0) .nil .nil) (.num 8))
   (.chk (.c2 .eq (.c1 .len (.fn 50 (.var 0) .nil .nil)) (.c2 .mul (.fn 52 (.var 0) .nil .nil) (.num 73)))
   (.chk (.c1 (.kin [.u8, .u8, .u8, .u8, .u8, .u8, .u8, .u8, .u8, .u8, .u8, .u8, .u8, .u16, .u8, .u16, .u16, .u8, .u8, .u8, .u16, .u8, .u8, .u8, .u8, .u8, .u8, .u8, .u8, .u8, .u32, .u8, .u8, .u8, .u8, .u8, .u8, .u8, .u8, .u8, .u8, .u8, .u8, .u8, .u8, .u8, .u8, .u8, .u8, .u8, .u8, .u8, .u8, .u8, .u8, .u8, .u8, .u8, .u8, .u8, .u8, .u8, .u8, .u8, .u8, .u16, .u16, .u32, .u32, .u8, .u16, .u16, .u16]) (.fn 50 (.var 0) .nil .nil))
   (.chk (.c1 (.kin [.u8]) (.fn 53 (.var 0) .nil .nil))
   (.chk (.c2 .le (.c1 .len (.fn 53 (.var 0) .nil .nil)) (.c1 .len (.var 0)))
   (.loop 0 2 2 [(.num 0), (.num 0)] [((.c2 .le (.num 0) (.var 2)), true), ((.c2 .le (.var 2) (.num 320)), true), ((.c2 .le (.num 0) (.var 3)), true)]
    (.split (.c2 .lt (.var 3) (.fn 52 (.var 0) .nil .nil))
     (.chk (.c2 .le (.c2 .add (.c2 .mul (.var 3) (.num 73)) (.num 1)) (.c1 .len (.fn 50 (.var 0) .nil .nil)))
     (.split (.c2 .eq (.c2 .rd (.fn 50 (.var 0) .nil .nil) (.c2 .mul (.var 3) (.num 73))) (.var 1))
      (.ret (.t [.g [.i .i64 (.var 2), .i .i64 (.c2 .rd (.cons (.num 0) (.cons (.num 14) (.cons (.num 4) (.cons (.num 20) (.cons (.num 40) (.cons (.num 20) (.cons (.num 8) .nil))))))) (.var 1))], .c (.b (.bol true)), .c (.i .i64 (.num 0))], ⟨[], [], 204, 4, []⟩))
      (.split (.c2 .lt (.num 6) (.c2 .rd (.fn 50 (.var 0) .nil .nil) (.c2 .mul (.var 3) (.num 73))))
       (.back 0 2 [(.var 2), (.wr .i64 (.c2 .add (.var 3) (.num 1)))])
       (.back 0 2 [(.c2 .add (.var 2) (.c2 .rd (.cons (.num 0) (.cons (.num 14) (.cons (.num 4) (.cons (.num 20) (.cons (.num 40) (.cons (.num 20) (.cons (.num 8) .nil))))))) (.c2 .rd (.fn 50 (.var 0) .nil .nil) (.c2 .mul (.var 3) (.num 73))))), (.wr .i64 (.c2 .add (.var 3) (.num 1)))]))))
     (.ret (.t [.g [.i .i64 (.num 0), .i .i64 (.num 0)], .c (.b (.bol false)), .c (.i .i64 (.num 0))], ⟨[], [], 203, 4, []⟩))))))))))
   (.ret (.t [.g [.i .i64 (.num 0), .i .i64 (.num 0)], .c (.b (.bol false)), .c (.i .i64 (.fn 51 (.var 0) .nil .nil))], ⟨[], [], 203, 2, []⟩)))))
theorem treePwWhereR_is : funTree (ctxN Go.Proofs.Try.prog annsWh consPl0 8) annsWh 17 tWhere.vs tWhere.bs tWhere.n (preF tWhere.res) = treePwWhereR := by kernel_rfl
end Go.Proofs.Ytbiodlomlendkaa.Sx
/- Sx: what Go function 4 does, as a tree of conditions (printed by a tool of this claim, proved by the kernel). Conditions: none. -/
set_option maxRecDepth 100000
namespace Go.Proofs.Ytbiodlomlendkaa.Sx
open Go
def treePwWheres : M (V × St) :=
(.split (.c1 .not (.c2 .beq (.fn 56 (.var 0) (.num 0) .nil) (.fn 56 (.var 0) (.num 0) .nil)))
 (.ret (.w (.c (.b (.bol false))), ⟨[], [], 805, 74, []⟩))
 (.split (.c1 .not (.c2 .beq (.c1 .not (.c2 .eq (.wr .u8 (.fn 54 (.cons (.num 0) (.cons (.var 2) (.cons (.var 3) (.cons (.var 4) (.cons (.var 5) (.cons (.var 6) (.cons (.var 7) (.cons (.var 8) (.cons (.var 9) (.cons (.var 10) (.cons (.var 11) (.cons (.var 12) (.cons (.var 13) (.cons (.var 14) (.cons (.var 15) (.cons (.var 16) (.cons (.var 17) (.cons (.var 18) (.cons (.var 19) (.cons (.var 20) (.cons (.var 21) (.cons (.var 22) (.cons (.var 23) (.cons (.var 24) (.cons (.var 25) (.cons (.var 26) (.cons (.var 27) (.cons (.var 28) (.cons (.var 29) (.cons (.var 30) (.cons (.var 31) (.cons (.var 32) (.cons (.var 33) (.cons (.var 34) (.cons (.var 35) (.cons (.var 36) (.cons (.var 37) (.cons (.var 38) (.cons (.var 39) (.cons (.var 40) (.cons (.var 41) (.cons (.var 42) (.cons (.var 43) (.cons (.var 44) (.cons (.var 45) (.cons (.var 46) (.cons (.var 47) (.cons (.var 48) (.cons (.var 49) (.cons (.var 50) (.cons (.var 51) (.cons (.var 52) (.cons (.var 53) (.cons (.var 54) (.cons (.var 55) (.cons (.var 56) (.cons (.var 57) (.cons (.var 58) (.cons (.var 59) (.cons (.var 60) (.cons (.var 61) (.cons (.var 62) (.cons (.var 63) (.cons (.var 64) (.cons (.var 65) (.cons (.var 66) (.cons (.var 67) (.cons (.var 68) (.cons (.var 69) (.cons (.var 70) (.cons (.var 71) (.cons (.var 72) (.cons (.var 73) .nil))))))))))))))))))))))))))))))))))))))))))))))))))))))))))))))))))))))))) .nil .nil)) (.num 0))) (.c1 .not (.c2 .eq (.wr .u8 (.fn 54 (.cons (.num 0) (.cons (.var 2) (.cons (.var 3) (.cons (.var 4) (.cons (.var 5) (.cons (.var 6) (.cons (.var 7) (.cons (.var 8) (.cons (.var 9) (.cons (.var 10) (.cons (.var 11) (.cons (.var 12) (.cons (.var 13) (.cons (.var 14) (.cons (.var 15) (.cons (.var 16) (.cons (.var 17) (.cons (.var 18) (.cons (.var 19) (.cons (.var 20) (.cons (.var 21) (.cons (.var 22) (.cons (.var 23) (.cons (.var 24) (.cons (.var 25) (.cons (.var 26) (.cons (.var 27) (.cons (.var 28) (.cons (.var 29) (.cons (.var 30) (.cons (.var 31) (.cons (.var 32) (.cons (.var 33) (.cons (.var 34) (.cons (.var 35) (.cons (.var 36) (.cons (.var 37) (.cons (.var 38) (.cons (.var 39) (.cons (.var 40) (.cons (.var 41) (.cons (.var 42) (.cons (.var 43) (.cons (.var 44) (.cons (.var 45) (.cons (.var 46) (.cons (.var 47) (.cons (.var 48) (.cons (.var 49) (.cons (.var 50) (.cons (.var 51) (.cons (.var 52) (.cons (.var 53) (.cons (.var 54) (.cons (.var 55) (.cons (.var 56) (.cons (.var 57) (.cons (.var 58) (.cons (.var 59) (.cons (.var 60) (.cons (.var 61) (.cons (.var 62) (.cons (.var 63) (.cons (.var 64) (.cons (.var 65) (.cons (.var 66) (.cons (.var 67) (.cons (.var 68) (.cons (.var 69) (.cons (.var 70) (.cons (.var 71) (.cons (.var 72) (.cons (.var 73) .nil))))))))))))))))))))))))))))))))))))))))))))))))))))))))))))))))))))))))) .nil .nil)) (.num 0)))))
  (.ret (.w (.c (.b (.bol false))), ⟨[], [], 846, 74, []⟩))
  (.split (.c1 .not (.c2 .beq (.fn 56 (.var 0) (.num 1) .nil) (.fn 56 (.var 0) (.num 1) .nil)))
   (.ret (.w (.c (.b (.bol false))), ⟨[], [], 1648, 74, []⟩))
   (.split (.c1 .not (.c2 .beq (.c1 .not (.c2 .eq (.wr .u8 (.fn 54 (.cons (.num 1) (.cons (.var 2) (.cons (.var 3) (.cons (.var 4) (.cons (.var 5) (.cons (.var 6) (.cons (.var 7) (.cons (.var 8) (.cons (.var 9) (.cons (.var 10) (.cons (.var 11) (.cons (.var 12) (.cons (.var 13) (.cons (.var 14) (.cons (.var 15) (.cons (.var 16) (.cons (.var 17) (.cons (.var 18) (.cons (.var 19) (.cons (.var 20) (.cons (.var 21) (.cons (.var 22) (.cons (.var 23) (.cons (.var 24) (.cons (.var 25) (.cons (.var 26) (.cons (.var 27) (.cons (.var 28) (.cons (.var 29) (.cons (.var 30) (.cons (.var 31) (.cons (.var 32) (.cons (.var 33) (.cons (.var 34) (.cons (.var 35) (.cons (.var 36) (.cons (.var 37) (.cons (.var 38) (.cons (.var 39) (.cons (.var 40) (.cons (.var 41) (.cons (.var 42) (.cons (.var 43) (.cons (.var 44) (.cons (.var 45) (.cons (.var 46) (.cons (.var 47) (.cons (.var 48) (.cons (.var 49) (.cons (.var 50) (.cons (.var 51) (.cons (.var 52) (.cons (.var 53) (.cons (.var 54) (.cons (.var 55) (.cons (.var 56) (.cons (.var 57) (.cons (.var 58) (.cons (.var 59) (.cons (.var 60) (.cons (.var 61) (.cons (.var 62) (.cons (.var 63) (.cons (.var 64) (.cons (.var 65) (.cons (.var 66) (.cons (.var 67) (.cons (.var 68) (.cons (.var 69) (.cons (.var 70) (.cons (.var 71) (.cons (.var 72) (.cons (.var 73) .nil))))))))))))))))))))))))))))))))))))))))))))))))))))))))))))))))))))))))) .nil .nil)) (.num 0))) (.c1 .not (.c2 .eq (.wr .u8 (.fn 54 (.cons (.num 1) (.cons (.var 2) (.cons (.var 3) (.cons (.var 4) (.cons (.var 5) (.cons (.var 6) (.cons (.var 7) (.cons (.var 8) (.cons (.var 9) (.cons (.var 10) (.cons (.var 11) (.cons (.var 12) (.cons (.var 13) (.cons (.var 14) (.cons (.var 15) (.cons (.var 16) (.cons (.var 17) (.cons (.var 18) (.cons (.var 19) (.cons (.var 20) (.cons (.var 21) (.cons (.var 22) (.cons (.var 23) (.cons (.var 24) (.cons (.var 25) (.cons (.var 26) (.cons (.var 27) (.cons (.var 28) (.cons (.var 29) (.cons (.var 30) (.cons (.var 31) (.cons (.var 32) (.cons (.var 33) (.cons (.var 34) (.cons (.var 35) (.cons (.var 36) (.cons (.var 37) (.cons (.var 38) (.cons (.var 39) (.cons (.var 40) (.cons (.var 41) (.cons (.var 42) (.cons (.var 43) (.cons (.var 44) (.cons (.var 45) (.cons (.var 46) (.cons (.var 47) (.cons (.var 48) (.cons (.var 49) (.cons (.var 50) (.cons (.var 51) (.cons (.var 52) (.cons (.var 53) (.cons (.var 54) (.cons (.var 55) (.cons (.var 56) (.cons (.var 57) (.cons (.var 58) (.cons (.var 59) (.cons (.var 60) (.cons (.var 61) (.cons (.var 62) (.cons (.var 63) (.cons (.var 64) (.cons (.var 65) (.cons (.var 66) (.cons (.var 67) (.cons (.var 68) (.cons (.var 69) (.cons (.var 70) (.cons (.var 71) (.cons (.var 72) (.cons (.var 73) .nil))))))))))))))))))))))))))))))))))))))))))))))))))))))))))))))))))))))))) .nil .nil)) (.num 0)))))
    (.ret (.w (.c (.b (.bol false))), ⟨[], [], 1689, 74, []⟩))
    (.split (.c1 .not (.c2 .beq (.fn 56 (.var 0) (.num 2) .nil) (.fn 56 (.var 0) (.num 2) .nil)))
     (.ret (.w (.c (.b (.bol false))), ⟨[], [], 2491, 74, []⟩))
     (.split (.c1 .not (.c2 .beq (.c1 .not (.c2 .eq (.wr .u8 (.fn 54 (.cons (.num 2) (.cons (.var 2) (.cons (.var 3) (.cons (.var 4) (.cons (.var 5) (.cons (.var 6) (.cons (.var 7) (.cons (.var 8) (.cons (.var 9) (.cons (.var 10) (.cons (.var 11) (.cons (.var 12) (.cons (.var 13) (.cons (.var 14) (.cons (.var 15) (.cons (.var 16) (.cons (.var 17) (.cons (.var 18) (.cons (.var 19) (.cons (.var 20) (.cons (.var 21) (.cons (.var 22) (.cons (.var 23) (.cons (.var 24) (.cons (.var 25) (.cons (.var 26) (.cons (.var 27) (.cons (.var 28) (.cons (.var 29) (.cons (.var 30) (.cons (.var 31) (.cons (.var 32) (.cons (.var 33) (.cons (.var 34) (.cons (.var 35) (.cons (.var 36) (.cons (.var 37) (.cons (.var 38) (.cons (.var 39) (.cons (.var 40) (.cons (.var 41) (.cons (.var 42) (.cons (.var 43) (.cons (.var 44) (.cons (.var 45) (.cons (.var 46) (.cons (.var 47) (.cons (.var 48) (.cons (.var 49) (.cons (.var 50) (.cons (.var 51) (.cons (.var 52) (.cons (.var 53) (.cons (.var 54) (.cons (.var 55) (.cons (.var 56) (.cons (.var 57) (.cons (.var 58) (.cons (.var 59) (.cons (.var 60) (.cons (.var 61) (.cons (.var 62) (.cons (.var 63) (.cons (.var 64) (.cons (.var 65) (.cons (.var 66) (.cons (.var 67) (.cons (.var 68) (.cons (.var 69) (.cons (.var 70) (.cons (.var 71) (.cons (.var 72) (.cons (.var 73) .nil))))))))))))))))))))))))))))))))))))))))))))))))))))))))))))))))))))))))) .nil .nil)) (.num 0))) (.c1 .not (.c2 .eq (.wr .u8 (.fn 54 (.cons (.num 2) (.cons (.var 2) (.cons (.var 3) (.cons (.var 4) (.cons (.var 5) (.cons (.var 6) (.cons (.var 7) (.cons (.var 8) (.cons (.var 9) (.cons (.var 10) (.cons (.var 11) (.cons (.var 12) (.cons (.var 13) (.cons (.var 14) (.cons (.var 15) (.cons (.var 16) (.cons (.var 17) (.cons (.var 18) (.cons (.var 19) (.cons (.var 20) (.cons (.var 21) (.cons (.var 22) (.cons (.var 23) (.cons (.var 24) (.cons (.var 25) (.cons (.var 26) (.cons (.var 27) (.cons (.var 28) (.cons (.var 29) (.cons (.var 30) (.cons (.var 31) (.cons (.var 32) (.cons (.var 33) (.cons (.var 34) (.cons (.var 35) (.cons (.var 36) (.cons (.var 37) (.cons (.var 38) (.cons (.var 39) (.cons (.var 40) (.cons (.var 41) (.cons (.var 42) (.cons (.var 43) (.cons (.var 44) (.cons (.var 45) (.cons (.var 46) (.cons (.var 47) (.cons (.var 48) (.cons (.var 49) (.cons (.var 50) (.cons (.var 51) (.cons (.var 52) (.cons (.var 53) (.cons (.var 54) (.cons (.var 55) (.cons (.var 56) (.cons (.var 57) (.cons (.var 58) (.cons (.var 59) (.cons (.var 60) (.cons (.var 61) (.cons (.var 62) (.cons (.var 63) (.cons (.var 64) (.cons (.var 65) (.cons (.var 66) (.cons (.var 67) (.cons (.var 68) (.cons (.var 69) (.cons (.var 70) (.cons (.var 71) (.cons (.var 72) (.cons (.var 73) .nil))))))))))))))))))))))))))))))))))))))))))))))))))))))))))))))))))))))))) .nil .nil)) (.num 0)))))
      (.ret (.w (.c (.b (.bol false))), ⟨[], [], 2532, 74, []⟩))
      (.split (.c1 .not (.c2 .beq (.fn 56 (.var 0) (.num 3) .nil) (.fn 56 (.var 0) (.num 3) .nil)))
       (.ret (.w (.c (.b (.bol false))), ⟨[], [], 3334, 74, []⟩))
       (.split (.c1 .not (.c2 .beq (.c1 .not (.c2 .eq (.wr .u8 (.fn 54 (.cons (.num 3) (.cons (.var 2) (.cons (.var 3) (.cons (.var 4) (.cons (.var 5) (.cons (.var 6) (.cons (.var 7) (.cons (.var 8) (.cons (.var 9) (.cons (.var 10) (.cons (.var 11) (.cons (.var 12) (.cons (.var 13) (.cons (.var 14) (.cons (.var 15) (.cons (.var 16) (.cons (.var 17) (.cons (.var 18) (.cons (.var 19) (.cons (.var 20) (.cons (.var 21) (.cons (.var 22) (.cons (.var 23) (.cons (.var 24) (.cons (.var 25) (.cons (.var 26) (.cons (.var 27) (.cons (.var 28) (.cons (.var 29) (.cons (.var 30) (.cons (.var 31) (.cons (.var 32) (.cons (.var 33) (.cons (.var 34) (.cons (.var 35) (.cons (.var 36) (.cons (.var 37) (.cons (.var 38) (.cons (.var 39) (.cons (.var 40) (.cons (.var 41) (.cons (.var 42) (.cons (.var 43) (.cons (.var 44) (.cons (.var 45) (.cons (.var 46) (.cons (.var 47) (.cons (.var 48) (.cons (.var 49) (.cons (.var 50) (.cons (.var 51) (.cons (.var 52) (.cons (.var 53) (.cons (.var 54) (.cons (.var 55) (.cons (.var 56) (.cons (.var 57) (.cons (.var 58) (.cons (.var 59) (.cons (.var 60) (.cons (.var 61) (.cons (.var 62) (.cons (.var 63) (.cons (.var 64) (.cons (.var 65) (.cons (.var 66) (.cons (.var 67) (.cons (.var 68) (.cons (.var 69) (.cons (.var 70) (.cons (.var 71) (.cons (.var 72) (.cons (.var 73) .nil))))))))))))))))))))))))))))))))))))))))))))))))))))))))))))))))))))))))) .nil .nil)) (.num 0))) (.c1 .not (.c2 .eq (.wr .u8 (.fn 54 (.cons (.num 3) (.cons (.var 2) (.cons (.var 3) (.cons (.var 4) (.cons (.var 5) (.cons (.var 6) (.cons (.var 7) (.cons (.var 8) (.cons (.var 9) (.cons (.var 10) (.cons (.var 11) (.cons (.var 12) (.cons (.var 13) (.cons (.var 14) (.cons (.var 15) (.cons (.var 16) (.cons (.var 17) (.cons (.var 18) (.cons (.var 19) (.cons (.var 20) (.cons (.var 21) (.cons (.var 22) (.cons (.var 23) (.cons (.var 24) (.cons (.var 25) (.cons (.var 26) (.cons (.var 27) (.cons (.var 28) (.cons (.var 29) (.cons (.var 30) (.cons (.var 31) (.cons (.var 32) (.cons (.var 33) (.cons (.var 34) (.cons (.var 35) (.cons (.var 36) (.cons (.var 37) (.cons (.var 38) (.cons (.var 39) (.cons (.var 40) (.cons (.var 41) (.cons (.var 42) (.cons (.var 43) (.cons (.var 44) (.cons (.var 45) (.cons (.var 46) (.cons (.var 47) (.cons (.var 48) (.cons (.var 49) (.cons (.var 50) (.cons (.var 51) (.cons (.var 52) (.cons (.var 53) (.cons (.var 54) (.cons (.var 55) (.cons (.var 56) (.cons (.var 57) (.cons (.var 58) (.cons (.var 59) (.cons (.var 60) (.cons (.var 61) (.cons (.var 62) (.cons (.var 63) (.cons (.var 64) (.cons (.var 65) (.cons (.var 66) (.cons (.var 67) (.cons (.var 68) (.cons (.var 69) (.cons (.var 70) (.cons (.var 71) (.cons (.var 72) (.cons (.var 73) .nil))))))))))))))))))))))))))))))))))))))))))))))))))))))))))))))))))))))))) .nil .nil)) (.num 0)))))
        (.ret (.w (.c (.b (.bol false))), ⟨[], [], 3375, 74, []⟩))
        (.split (.c1 .not (.c2 .beq (.fn 56 (.var 0) (.num 4) .nil) (.fn 56 (.var 0) (.num 4) .nil)))
         (.ret (.w (.c (.b (.bol false))), ⟨[], [], 4177, 74, []⟩))
         (.split (.c1 .not (.c2 .beq (.c1 .not (.c2 .eq (.wr .u8 (.fn 54 (.cons (.num 4) (.cons (.var 2) (.cons (.var 3) (.cons (.var 4) (.cons (.var 5) (.cons (.var 6) (.cons (.var 7) (.cons (.var 8) (.cons (.var 9) (.cons (.var 10) (.cons (.var 11) (.cons (.var 12) (.cons (.var 13) (.cons (.var 14) (.cons (.var 15) (.cons (.var 16) (.cons (.var 17) (.cons (.var 18) (.cons (.var 19) (.cons (.var 20) (.cons (.var 21) (.cons (.var 22) (.cons (.var 23) (.cons (.var 24) (.cons (.var 25) (.cons (.var 26) (.cons (.var 27) (.cons (.var 28) (.cons (.var 29) (.cons (.var 30) (.cons (.var 31) (.cons (.var 32) (.cons (.var 33) (.cons (.var 34) (.cons (.var 35) (.cons (.var 36) (.cons (.var 37) (.cons (.var 38) (.cons (.var 39) (.cons (.var 40) (.cons (.var 41) (.cons (.var 42) (.cons (.var 43) (.cons (.var 44) (.cons (.var 45) (.cons (.var 46) (.cons (.var 47) (.cons (.var 48) (.cons (.var 49) (.cons (.var 50) (.cons (.var 51) (.cons (.var 52) (.cons (.var 53) (.cons (.var 54) (.cons (.var 55) (.cons (.var 56) (.cons (.var 57) (.cons (.var 58) (.cons (.var 59) (.cons (.var 60) (.cons (.var 61) (.cons (.var 62) (.cons (.var 63) (.cons (.var 64) (.cons (.var 65) (.cons (.var 66) (.cons (.var 67) (.cons (.var 68) (.cons (.var 69) (.cons (.var 70) (.cons (.var 71) (.cons (.var 72) (.cons (.var 73) .nil))))))))))))))))))))))))))))))))))))))))))))))))))))))))))))))))))))))))) .nil .nil)) (.num 0))) (.c1 .not (.c2 .eq (.wr .u8 (.fn 54 (.cons (.num 4) (.cons (.var 2) (.cons (.var 3) (.cons (.var 4) (.cons (.var 5) (.cons (.var 6) (.cons (.var 7) (.cons (.var 8) (.cons (.var 9) (.cons (.var 10) (.cons (.var 11) (.cons (.var 12) (.cons (.var 13) (.cons (.var 14) (.cons (.var 15) (.cons (.var 16) (.cons (.var 17) (.cons (.var 18) (.cons (.var 19) (.cons (.var 20) (.cons (.var 21) (.cons (.var 22) (.cons (.var 23) (.cons (.var 24) (.cons (.var 25) (.cons (.var 26) (.cons (.var 27) (.cons (.var 28) (.cons (.var 29) (.cons (.var 30) (.cons (.var 31) (.cons (.var 32) (.cons (.var 33) (.cons (.var 34) (.cons (.var 35) (.cons (.var 36) (.cons (.var 37) (.cons (.var 38) (.cons (.var 39) (.cons (.var 40) (.cons (.var 41) (.cons (.var 42) (.cons (.var 43) (.cons (.var 44) (.cons (.var 45) (.cons (.var 46) (.cons (.var 47) (.cons (.var 48) (.cons (.var 49) (.cons (.var 50) (.cons (.var 51) (.cons (.var 52) (.cons (.var 53) (.cons (.var 54) (.cons (.var 55) (.cons (.var 56) (.cons (.var 57) (.cons (.var 58) (.cons (.var 59) (.cons (.var 60) (.cons (.var 61) (.cons (.var 62) (.cons (.var 63) (.cons (.var 64) (.cons (.var 65) (.cons (.var 66) (.cons (.var 67) (.cons (.var 68) (.cons (.var 69) (.cons (.var 70) (.cons (.var 71) (.cons (.var 72) (.cons (.var 73) .nil))))))))))))))))))))))))))))))))))))))))))))))))))))))))))))))))))))))))) .nil .nil)) (.num 0)))))
          (.ret (.w (.c (.b (.bol false))), ⟨[], [], 4218, 74, []⟩))
          (.split (.c1 .not (.c2 .beq (.fn 56 (.var 0) (.num 5) .nil) (.fn 56 (.var 0) (.num 5) .nil)))
           (.ret (.w (.c (.b (.bol false))), ⟨[], [], 5020, 74, []⟩))
           (.split (.c1 .not (.c2 .beq (.c1 .not (.c2 .eq (.wr .u8 (.fn 54 (.cons (.num 5) (.cons (.var 2) (.cons (.var 3) (.cons (.var 4) (.cons (.var 5) (.cons (.var 6) (.cons (.var 7) (.cons (.var 8) (.cons (.var 9) (.cons (.var 10) (.cons (.var 11) (.cons (.var 12) (.cons (.var 13) (.cons (.var 14) (.cons (.var 15) (.cons (.var 16) (.cons (.var 17) (.cons (.var 18) (.cons (.var 19) (.cons (.var 20) (.cons (.var 21) (.cons (.var 22) (.cons (.var 23) (.cons (.var 24) (.cons (.var 25) (.cons (.var 26) (.cons (.var 27) (.cons (.var 28) (.cons (.var 29) (.cons (.var 30) (.cons (.var 31) (.cons (.var 32) (.cons (.var 33) (.cons (.var 34) (.cons (.var 35) (.cons (.var 36) (.cons (.var 37) (.cons (.var 38) (.cons (.var 39) (.cons (.var 40) (.cons (.var 41) (.cons (.var 42) (.cons (.var 43) (.cons (.var 44) (.cons (.var 45) (.cons (.var 46) (.cons (.var 47) (.cons (.var 48) (.cons (.var 49) (.cons (.var 50) (.cons (.var 51) (.cons (.var 52) (.cons (.var 53) (.cons (.var 54) (.cons (.var 55) (.cons (.var 56) (.cons (.var 57) (.cons (.var 58) (.cons (.var 59) (.cons (.var 60) (.cons (.var 61) (.cons (.var 62) (.cons (.var 63) (.cons (.var 64) (.cons (.var 65) (.cons (.var 66) (.cons (.var 67) (.cons (.var 68) (.cons (.var 69) (.cons (.var 70) (.cons (.var 71) (.cons (.var 72) (.cons (.var 73) .nil))))))))))))))))))))))))))))))))))))))))))))))))))))))))))))))))))))))))) .nil .nil)) (.num 0))) (.c1 .not (.c2 .eq (.wr .u8 (.fn 54 (.cons (.num 5) (.cons (.var 2) (.cons (.var 3) (.cons (.var 4) (.cons (.var 5) (.cons (.var 6) (.cons (.var 7) (.cons (.var 8) (.cons (.var 9) (.cons (.var 10) (.cons (.var 11) (.cons (.var 12) (.cons (.var 13) (.cons (.var 14) (.cons (.var 15) (.cons (.var 16) (.cons (.var 17) (.cons (.var 18) (.cons (.var 19) (.cons (.var 20) (.cons (.var 21) (.cons (.var 22) (.cons (.var 23) (.cons (.var 24) (.cons (.var 25) (.cons (.var 26) (.cons (.var 27) (.cons (.var 28) (.cons (.var 29) (.cons (.var 30) (.cons (.var 31) (.cons (.var 32) (.cons (.var 33) (.cons (.var 34) (.cons (.var 35) (.cons (.var 36) (.cons (.var 37) (.cons (.var 38) (.cons (.var 39) (.cons (.var 40) (.cons (.var 41) (.cons (.var 42) (.cons (.var 43) (.cons (.var 44) (.cons (.var 45) (.cons (.var 46) (.cons (.var 47) (.cons (.var 48) (.cons (.var 49) (.cons (.var 50) (.cons (.var 51) (.cons (.var 52) (.cons (.var 53) (.cons (.var 54) (.cons (.var 55) (.cons (.var 56) (.cons (.var 57) (.cons (.var 58) (.cons (.var 59) (.cons (.var 60) (.cons (.var 61) (.cons (.var 62) (.cons (.var 63) (.cons (.var 64) (.cons (.var 65) (.cons (.var 66) (.cons (.var 67) (.cons (.var 68) (.cons (.var 69) (.cons (.var 70) (.cons (.var 71) (.cons (.var 72) (.cons (.var 73) .nil))))))))))))))))))))))))))))))))))))))))))))))))))))))))))))))))))))))))) .nil .nil)) (.num 0)))))
            (.ret (.w (.c (.b (.bol false))), ⟨[], [], 5061, 74, []⟩))
            (.split (.c1 .not (.c2 .beq (.fn 56 (.var 0) (.num 6) .nil) (.fn 56 (.var 0) (.num 6) .nil)))
             (.ret (.w (.c (.b (.bol false))), ⟨[], [], 5863, 74, []⟩))
             (.split (.c1 .not (.c2 .beq (.c1 .not (.c2 .eq (.wr .u8 (.fn 54 (.cons (.num 6) (.cons (.var 2) (.cons (.var 3) (.cons (.var 4) (.cons (.var 5) (.cons (.var 6) (.cons (.var 7) (.cons (.var 8) (.cons (.var 9) (.cons (.var 10) (.cons (.var 11) (.cons (.var 12) (.cons (.var 13) (.cons (.var 14) (.cons (.var 15) (.cons (.var 16) (.cons (.var 17) (.cons (.var 18) (.cons (.var 19) (.cons (.var 20) (.cons (.var 21) (.cons (.var 22) (.cons (.var 23) (.cons (.var 24) (.cons (.var 25) (.cons (.var 26) (.cons (.var 27) (.cons (.var 28) (.cons (.var 29) (.cons (.var 30) (.cons (.var 31) (.cons (.var 32) (.cons (.var 33) (.cons (.var 34) (.cons (.var 35) (.cons (.var 36) (.cons (.var 37) (.cons (.var 38) (.cons (.var 39) (.cons (.var 40) (.cons (.var 41) (.cons (.var 42) (.cons (.var 43) (.cons (.var 44) (.cons (.var 45) (.cons (.var 46) (.cons (.var 47) (.cons (.var 48) (.cons (.var 49) (.cons (.var 50) (.cons (.var 51) (.cons (.var 52) (.cons (.var 53) (.cons (.var 54) (.cons (.var 55) (.cons (.var 56) (.cons (.var 57) (.cons (.var 58) (.cons (.var 59) (.cons (.var 60) (.cons (.var 61) (.cons (.var 62) (.cons (.var 63) (.cons (.var 64) (.cons (.var 65) (.cons (.var 66) (.cons (.var 67) (.cons (.var 68) (.cons (.var 69) (.cons (.var 70) (.cons (.var 71) (.cons (.var 72) (.cons (.var 73) .nil))))))))))))))))))))))))))))))))))))))))))))))))))))))))))))))))))))))))) .nil .nil)) (.num 0))) (.c1 .not (.c2 .eq (.wr .u8 (.fn 54 (.cons (.num 6) (.cons (.var 2) (.cons (.var 3) (.cons (.var 4) (.cons (.var 5) (.cons (.var 6) (.cons (.var 7) (.cons (.var 8) (.cons (.var 9) (.cons (.var 10) (.cons (.var 11) (.cons (.var 12) (.cons (.var 13) (.cons (.var 14) (.cons (.var 15) (.cons (.var 16) (.cons (.var 17) (.cons (.var 18) (.cons (.var 19) (.cons (.var 20) (.cons (.var 21) (.cons (.var 22) (.cons (.var 23) (.cons (.var 24) (.cons (.var 25) (.cons (.var 26) (.cons (.var 27) (.cons (.var 28) (.cons (.var 29) (.cons (.var 30) (.cons (.var 31) (.cons (.var 32) (.cons (.var 33) (.cons (.var 34) (.cons (.var 35) (.cons (.var 36) (.cons (.var 37) (.cons (.var 38) (.cons (.var 39) (.cons (.var 40) (.cons (.var 41) (.cons (.var 42) (.cons (.var 43) (.cons (.var 44) (.cons (.var 45) (.cons (.var 46) (.cons (.var 47) (.cons (.var 48) (.cons (.var 49) (.cons (.var 50) (.cons (.var 51) (.cons (.var 52) (.cons (.var 53) (.cons (.var 54) (.cons (.var 55) (.cons (.var 56) (.cons (.var 57) (.cons (.var 58) (.cons (.var 59) (.cons (.var 60) (.cons (.var 61) (.cons (.var 62) (.cons (.var 63) (.cons (.var 64) (.cons (.var 65) (.cons (.var 66) (.cons (.var 67) (.cons (.var 68) (.cons (.var 69) (.cons (.var 70) (.cons (.var 71) (.cons (.var 72) (.cons (.var 73) .nil))))))))))))))))))))))))))))))))))))))))))))))))))))))))))))))))))))))))) .nil .nil)) (.num 0)))))
              (.ret (.w (.c (.b (.bol false))), ⟨[], [], 5904, 74, []⟩))
              (.split (.c1 .not (.c2 .beq (.fn 56 (.var 0) (.num 7) .nil) (.fn 56 (.var 0) (.num 7) .nil)))
               (.ret (.w (.c (.b (.bol false))), ⟨[], [], 6706, 74, []⟩))
               (.split (.c1 .not (.c2 .beq (.c1 .not (.c2 .eq (.wr .u8 (.fn 54 (.cons (.num 7) (.cons (.var 2) (.cons (.var 3) (.cons (.var 4) (.cons (.var 5) (.cons (.var 6) (.cons (.var 7) (.cons (.var 8) (.cons (.var 9) (.cons (.var 10) (.cons (.var 11) (.cons (.var 12) (.cons (.var 13) (.cons (.var 14) (.cons (.var 15) (.cons (.var 16) (.cons (.var 17) (.cons (.var 18) (.cons (.var 19) (.cons (.var 20) (.cons (.var 21) (.cons (.var 22) (.cons (.var 23) (.cons (.var 24) (.cons (.var 25) (.cons (.var 26) (.cons (.var 27) (.cons (.var 28) (.cons (.var 29) (.cons (.var 30) (.cons (.var 31) (.cons (.var 32) (.cons (.var 33) (.cons (.var 34) (.cons (.var 35) (.cons (.var 36) (.cons (.var 37) (.cons (.var 38) (.cons (.var 39) (.cons (.var 40) (.cons (.var 41) (.cons (.var 42) (.cons (.var 43) (.cons (.var 44) (.cons (.var 45) (.cons (.var 46) (.cons (.var 47) (.cons (.var 48) (.cons (.var 49) (.cons (.var 50) (.cons (.var 51) (.cons (.var 52) (.cons (.var 53) (.cons (.var 54) (.cons (.var 55) (.cons (.var 56) (.cons (.var 57) (.cons (.var 58) (.cons (.var 59) (.cons (.var 60) (.cons (.var 61) (.cons (.var 62) (.cons (.var 63) (.cons (.var 64) (.cons (.var 65) (.cons (.var 66) (.cons (.var 67) (.cons (.var 68) (.cons (.var 69) (.cons (.var 70) (.cons (.var 71) (.cons (.var 72) (.cons (.var 73) .nil))))))))))))))))))))))))))))))))))))))))))))))))))))))))))))))))))))))))) .nil .nil)) (.num 0))) (.c1 .not (.c2 .eq (.wr .u8 (.fn 54 (.cons (.num 7) (.cons (.var 2) (.cons (.var 3) (.cons (.var 4) (.cons (.var 5) (.cons (.var 6) (.cons (.var 7) (.cons (.var 8) (.cons (.var 9) (.cons (.var 10) (.cons (.var 11) (.cons (.var 12) (.cons (.var 13) (.cons (.var 14) (.cons (.var 15) (.cons (.var 16) (.cons (.var 17) (.cons (.var 18) (.cons (.var 19) (.cons (.var 20) (.cons (.var 21) (.cons (.var 22) (.cons (.var 23) (.cons (.var 24) (.cons (.var 25) (.cons (.var 26) (.cons (.var 27) (.cons (.var 28) (.cons (.var 29) (.cons (.var 30) (.cons (.var 31) (.cons (.var 32) (.cons (.var 33) (.cons (.var 34) (.cons (.var 35) (.cons (.var 36) (.cons (.var 37) (.cons (.var 38) (.cons (.var 39) (.cons (.var 40) (.cons (.var 41) (.cons (.var 42) (.cons (.var 43) (.cons (.var 44) (.cons (.var 45) (.cons (.var 46) (.cons (.var 47) (.cons (.var 48) (.cons (.var 49) (.cons (.var 50) (.cons (.var 51) (.cons (.var 52) (.cons (.var 53) (.cons (.var 54) (.cons (.var 55) (.cons (.var 56) (.cons (.var 57) (.cons (.var 58) (.cons (.var 59) (.cons (.var 60) (.cons (.var 61) (.cons (.var 62) (.cons (.var 63) (.cons (.var 64) (.cons (.var 65) (.cons (.var 66) (.cons (.var 67) (.cons (.var 68) (.cons (.var 69) (.cons (.var 70) (.cons (.var 71) (.cons (.var 72) (.cons (.var 73) .nil))))))))))))))))))))))))))))))))))))))))))))))))))))))))))))))))))))))))) .nil .nil)) (.num 0)))))
                (.ret (.w (.c (.b (.bol false))), ⟨[], [], 6747, 74, []⟩))
                (.split (.c1 .not (.c2 .beq (.fn 56 (.var 0) (.num 8) .nil) (.fn 56 (.var 0) (.num 8) .nil)))
                 (.ret (.w (.c (.b (.bol false))), ⟨[], [], 7549, 74, []⟩))
                 (.split (.c1 .not (.c2 .beq (.c1 .not (.c2 .eq (.wr .u8 (.fn 54 (.cons (.num 8) (.cons (.var 2) (.cons (.var 3) (.cons (.var 4) (.cons (.var 5) (.cons (.var 6) (.cons (.var 7) (.cons (.var 8) (.cons (.var 9) (.cons (.var 10) (.cons (.var 11) (.cons (.var 12) (.cons (.var 13) (.cons (.var 14) (.cons (.var 15) (.cons (.var 16) (.cons (.var 17) (.cons (.var 18) (.cons (.var 19) (.cons (.var 20) (.cons (.var 21) (.cons (.var 22) (.cons (.var 23) (.cons (.var 24) (.cons (.var 25) (.cons (.var 26) (.cons (.var 27) (.cons (.var 28) (.cons (.var 29) (.cons (.var 30) (.cons (.var 31) (.cons (.var 32) (.cons (.var 33) (.cons (.var 34) (.cons (.var 35) (.cons (.var 36) (.cons (.var 37) (.cons (.var 38) (.cons (.var 39) (.cons (.var 40) (.cons (.var 41) (.cons (.var 42) (.cons (.var 43) (.cons (.var 44) (.cons (.var 45) (.cons (.var 46) (.cons (.var 47) (.cons (.var 48) (.cons (.var 49) (.cons (.var 50) (.cons (.var 51) (.cons (.var 52) (.cons (.var 53) (.cons (.var 54) (.cons (.var 55) (.cons (.var 56) (.cons (.var 57) (.cons (.var 58) (.cons (.var 59) (.cons (.var 60) (.cons (.var 61) (.cons (.var 62) (.cons (.var 63) (.cons (.var 64) (.cons (.var 65) (.cons (.var 66) (.cons (.var 67) (.cons (.var 68) (.cons (.var 69) (.cons (.var 70) (.cons (.var 71) (.cons (.var 72) (.cons (.var 73) .nil))))))))))))))))))))))))))))))))))))))))))))))))))))))))))))))))))))))))) .nil .nil)) (.num 0))) (.c1 .not (.c2 .eq (.wr .u8 (.fn 54 (.cons (.num 8) (.cons (.var 2) (.cons (.var 3) (.cons (.var 4) (.cons (.var 5) (.cons (.var 6) (.cons (.var 7) (.cons (.var 8) (.cons (.var 9) (.cons (.var 10) (.cons (.var 11) (.cons (.var 12) (.cons (.var 13) (.cons (.var 14) (.cons (.var 15) (.cons (.var 16) (.cons (.var 17) (.cons (.var 18) (.cons (.var 19) (.cons (.var 20) (.cons (.var 21) (.cons (.var 22) (.cons (.var 23) (.cons (.var 24) (.cons (.var 25) (.cons (.var 26) (.cons (.var 27) (.cons (.var 28) (.cons (.var 29) (.cons (.var 30) (.cons (.var 31) (.cons (.var 32) (.cons (.var 33) (.cons (.var 34) (.cons (.var 35) (.cons (.var 36) (.cons (.var 37) (.cons (.var 38) (.cons (.var 39) (.cons (.var 40) (.cons (.var 41) (.cons (.var 42) (.cons (.var 43) (.cons (.var 44) (.cons (.var 45) (.cons (.var 46) (.cons (.var 47) (.cons (.var 48) (.cons (.var 49) (.cons (.var 50) (.cons (.var 51) (.cons (.var 52) (.cons (.var 53) (.cons (.var 54) (.cons (.var 55) (.cons (.var 56) (.cons (.var 57) (.cons (.var 58) (.cons (.var 59) (.cons (.var 60) (.cons (.var 61) (.cons (.var 62) (.cons (.var 63) (.cons (.var 64) (.cons (.var 65) (.cons (.var 66) (.cons (.var 67) (.cons (.var 68) (.cons (.var 69) (.cons (.var 70) (.cons (.var 71) (.cons (.var 72) (.cons (.var 73) .nil))))))))))))))))))))))))))))))))))))))))))))))))))))))))))))))))))))))))) .nil .nil)) (.num 0)))))
                  (.ret (.w (.c (.b (.bol false))), ⟨[], [], 7590, 74, []⟩))
                  (.split (.c2 .beq (.c1 .not (.c2 .eq (.wr .u8 (.fn 54 (.cons (.var 1) (.cons (.var 2) (.cons (.var 3) (.cons (.var 4) (.cons (.var 5) (.cons (.var 6) (.cons (.var 7) (.cons (.var 8) (.cons (.var 9) (.cons (.var 10) (.cons (.var 11) (.cons (.var 12) (.cons (.var 13) (.cons (.var 14) (.cons (.var 15) (.cons (.var 16) (.cons (.var 17) (.cons (.var 18) (.cons (.var 19) (.cons (.var 20) (.cons (.var 21) (.cons (.var 22) (.cons (.var 23) (.cons (.var 24) (.cons (.var 25) (.cons (.var 26) (.cons (.var 27) (.cons (.var 28) (.cons (.var 29) (.cons (.var 30) (.cons (.var 31) (.cons (.var 32) (.cons (.var 33) (.cons (.var 34) (.cons (.var 35) (.cons (.var 36) (.cons (.var 37) (.cons (.var 38) (.cons (.var 39) (.cons (.var 40) (.cons (.var 41) (.cons (.var 42) (.cons (.var 43) (.cons (.var 44) (.cons (.var 45) (.cons (.var 46) (.cons (.var 47) (.cons (.var 48) (.cons (.var 49) (.cons (.var 50) (.cons (.var 51) (.cons (.var 52) (.cons (.var 53) (.cons (.var 54) (.cons (.var 55) (.cons (.var 56) (.cons (.var 57) (.cons (.var 58) (.cons (.var 59) (.cons (.var 60) (.cons (.var 61) (.cons (.var 62) (.cons (.var 63) (.cons (.var 64) (.cons (.var 65) (.cons (.var 66) (.cons (.var 67) (.cons (.var 68) (.cons (.var 69) (.cons (.var 70) (.cons (.var 71) (.cons (.var 72) (.cons (.var 73) .nil))))))))))))))))))))))))))))))))))))))))))))))))))))))))))))))))))))))))) .nil .nil)) (.num 0))) (.c1 .not (.c2 .eq (.wr .u8 (.fn 54 (.cons (.var 1) (.cons (.var 2) (.cons (.var 3) (.cons (.var 4) (.cons (.var 5) (.cons (.var 6) (.cons (.var 7) (.cons (.var 8) (.cons (.var 9) (.cons (.var 10) (.cons (.var 11) (.cons (.var 12) (.cons (.var 13) (.cons (.var 14) (.cons (.var 15) (.cons (.var 16) (.cons (.var 17) (.cons (.var 18) (.cons (.var 19) (.cons (.var 20) (.cons (.var 21) (.cons (.var 22) (.cons (.var 23) (.cons (.var 24) (.cons (.var 25) (.cons (.var 26) (.cons (.var 27) (.cons (.var 28) (.cons (.var 29) (.cons (.var 30) (.cons (.var 31) (.cons (.var 32) (.cons (.var 33) (.cons (.var 34) (.cons (.var 35) (.cons (.var 36) (.cons (.var 37) (.cons (.var 38) (.cons (.var 39) (.cons (.var 40) (.cons (.var 41) (.cons (.var 42) (.cons (.var 43) (.cons (.var 44) (.cons (.var 45) (.cons (.var 46) (.cons (.var 47) (.cons (.var 48) (.cons (.var 49) (.cons (.var 50) (.cons (.var 51) (.cons (.var 52) (.cons (.var 53) (.cons (.var 54) (.cons (.var 55) (.cons (.var 56) (.cons (.var 57) (.cons (.var 58) (.cons (.var 59) (.cons (.var 60) (.cons (.var 61) (.cons (.var 62) (.cons (.var 63) (.cons (.var 64) (.cons (.var 65) (.cons (.var 66) (.cons (.var 67) (.cons (.var 68) (.cons (.var 69) (.cons (.var 70) (.cons (.var 71) (.cons (.var 72) (.cons (.var 73) .nil))))))))))))))))))))))))))))))))))))))))))))))))))))))))))))))))))))))))) .nil .nil)) (.num 0))))
                   (.ret (.w (.c (.b (.bol true))), ⟨[], [], 12632, 74, []⟩))
                   (.ret (.w (.c (.b (.bol false))), ⟨[], [], 7630, 74, []⟩)))))))))))))))))))))
theorem treePwWheres_is : funTree (ctxN Go.Proofs.Try.prog annsWh consWh 8) annsWh 4 tWheres.vs tWheres.bs tWheres.n (preF tWheres.res) = treePwWheres := by kernel_rfl
end Go.Proofs.Ytbiodlomlendkaa.Sx
/- Sx laws of peeling: where a header stands: contracts; the statement on places. Conditions: none. -/
set_option linter.unusedVariables false
set_option linter.unusedSimpArgs false
namespace Go.Proofs.Ytbiodlomlendkaa.Sx
open Go
section
variable {ρ ρ' : Env}
theorem leaf_wh {n nv : Nat} {w : WhR} {ta tn tb te : T} (hw : whOf (ρ 0).list (ρ 1).int = w) (h1 : (T.den ΦP ρ' ta).int = w.a) (h2 : (T.den ΦP ρ' tn).int = w.n) (h3 : (T.den ΦP ρ' tb).bool = w.b) (h4 : (T.den ΦP ρ' te).int = w.e) (hn : n ≤ 400) :
    Leaf ΦP ρ ρ' ⟨.t [.g [.i .i64 (whT 55 (.var 0) (.var 1)), .i .i64 (whT 58 (.var 0) (.var 1))], .c (.b (whT 56 (.var 0) (.var 1))), .c (.i .i64 (whT 57 (.var 0) (.var 1)))], [], 400⟩ (.t [.g [.i .i64 ta, .i .i64 tn], .c (.b tb), .c (.i .i64 te)], ⟨[], [], n, nv, []⟩) := by
  subst hw
  exact ⟨⟨⟨⟨rfl, h1⟩, ⟨rfl, h2⟩, trivial⟩, h3, ⟨rfl, h4⟩, trivial⟩, trivial, hn⟩
theorem wh_no {p : List Int} {k : Int} (h : k < 1 ∨ 6 < k) : whOf p k = ⟨0, 0, false, 120⟩ := by rw [whOf, if_pos h]
theorem wh_err {p : List Int} {k : Int} (h1 : 1 ≤ k) (h2 : k ≤ 6) (h : ¬ (peelOf p).2.2 = 0) : whOf p k = ⟨0, 0, false, (peelOf p).2.2⟩ := by rw [whOf, if_neg (by omega), if_neg h]
theorem wh_yes {p : List Int} {k : Int} {m i at_ : Nat} (h1 : 1 ≤ k) (h2 : k ≤ 6) (h : (peelOf p).2.2 = 0) (hl : (peelOf p).1.length = 73 * m) (hi : i < m) (hg : whGo (peelOf p).1 k m 0 0 = whGo (peelOf p).1 k (m - i) i at_) (hk : (peelOf p).1[73 * i]?.getD 0 = k) : whOf p k = ⟨at_, hdSize k.toNat, true, 0⟩ := by
  obtain ⟨n, hn⟩ : ∃ n, m - i = n + 1 := ⟨m - i - 1, by omega⟩
  rw [whOf, if_neg (by omega), if_pos h, hl, show 73 * m / 73 = m from by omega, hg, hn, whGo, if_pos hk]; rfl
theorem wh_none {p : List Int} {k : Int} {m i at_ : Nat} (h1 : 1 ≤ k) (h2 : k ≤ 6) (h : (peelOf p).2.2 = 0) (hl : (peelOf p).1.length = 73 * m) (hi : m ≤ i) (hg : whGo (peelOf p).1 k m 0 0 = whGo (peelOf p).1 k (m - i) i at_) : whOf p k = ⟨0, 0, false, 0⟩ := by
  rw [whOf, if_neg (by omega), if_pos h, hl, show 73 * m / 73 = m from by omega, hg, show m - i = 0 from by omega, whGo]; rfl
theorem kind_zero {Φ : Sig} (k0 : 0 ≤ (ρ 1).int) (h : (ρ 1).int ≤ 6) (h2 : (T.den Φ ρ (.c2 .rd (.cons (.num 0) (.cons (.num 14) (.cons (.num 4) (.cons (.num 20) (.cons (.num 40) (.cons (.num 20) (.cons (.num 8) .nil))))))) (.var 1))).int = 0) : (ρ 1).int < 1 := by
  obtain ⟨q, hq⟩ := Int.eq_ofNat_of_zero_le k0
  rw [int_rd, den_var, hq] at h2
  by_cases hz : q = 0
  · omega
  · have := sizes_rd (k := q) (by omega)
    have h2 : ([0, 14, 4, 20, 40, 20, 8] : List Int)[q]?.getD 0 = 0 := h2
    rw [this] at h2
    have : 0 < hdSize q := by
      have : q = 1 ∨ q = 2 ∨ q = 3 ∨ q = 4 ∨ q = 5 ∨ q = 6 := by omega
      rcases this with rfl | rfl | rfl | rfl | rfl | rfl <;> decide
    omega
theorem kind_one {Φ : Sig} (k0 : 0 ≤ (ρ 1).int) (h : (ρ 1).int ≤ 6) (h2 : ¬ (T.den Φ ρ (.c2 .rd (.cons (.num 0) (.cons (.num 14) (.cons (.num 4) (.cons (.num 20) (.cons (.num 40) (.cons (.num 20) (.cons (.num 8) .nil))))))) (.var 1))).int = (T.den Φ ρ (.num 0)).int) : 1 ≤ (ρ 1).int := by
  rcases Int.lt_or_le (ρ 1).int 1 with h1 | h1
  · exfalso
    apply h2
    rw [int_rd, den_var, show (ρ 1).int = 0 from by omega]; rfl
  · exact h1
theorem sizes_add {q at_ : Nat} (hq : 1 ≤ q ∧ q ≤ 6) : (at_ : Int) + ([0, 14, 4, 20, 40, 20, 8] : List Int)[((q : Nat) : Int).toNat]?.getD 0 = ((at_ + hdSize q : Nat) : Int) := by
  rw [Int.toNat_natCast, sizes_rd hq]; omega
end
def whJ : Inv := ⟨fun _ ρ ds => ∃ i m a : Nat, (nthD ds 1).int = i ∧ (nthD ds 0).int = a ∧ (peelOf (ρ 0).list).1.length = 73 * m ∧ i ≤ m ∧ szSum (peelOf (ρ 0).list).1 i = a ∧ whGo (peelOf (ρ 0).list).1 (ρ 1).int m 0 0 = whGo (peelOf (ρ 0).list).1 (ρ 1).int (m - i) i a, fun _ ρ ds => (peelOf (ρ 0).list).1.length - (nthD ds 1).int.toNat⟩
set_option maxRecDepth 100000 in
theorem where_ok : TmplOk Go.Proofs.Try.prog ΦP 16 tWhere := by
  refine tmpl_of consPl0_ok treePwWhere_is (fun ρ res hres => ⟨whJ, ?_⟩)
  obtain ⟨h0, hres⟩ := short_some hres
  obtain ⟨hb, hres⟩ := bytes_some hres
  obtain ⟨k0, k1, hres⟩ := inR_some hres
  obtain rfl := ret_some hres
  refine ⟨fun a => ?_, fun a => ⟨fun b => ?_, fun b => ⟨fun c => ?_, fun c => ?_⟩⟩⟩
  · rw [lt_t, den_var] at a
    exact leaf_wh (wh_no (.inl a)) rfl rfl rfl rfl (by decide)
  · rw [lt_t, den_var] at b
    exact leaf_wh (wh_no (.inr b)) rfl rfl rfl rfl (by decide)
  rotate_left
  · rw [lt_f, den_var] at a b
    rw [eq_f, pl51] at c
    exact leaf_wh (wh_err a b c) rfl rfl rfl rfl (by decide)
  rw [lt_f, den_var] at a b
  replace a : 1 ≤ (ρ 1).int := a
  replace b : (ρ 1).int ≤ 6 := b
  rw [eq_t, pl51] at c
  obtain ⟨m, hm⟩ := pl_ok hb c
  have hn := hm.num
  have hlen := hm.peeled.len
  have hmost := hm.most
  refine ⟨?_, ?_, ?_, ?_, ?_, ?_, ⟨0, m, 0, rfl, rfl, hlen, Nat.zero_le _, rfl, rfl⟩, ?_⟩
  · rw [le_t, hn]; show (1 : Int) ≤ m; have := hm.one; omega
  · rw [le_t, hn]; show (m : Int) ≤ 8; omega
  · rw [eq_t, int_len, pl50, int_mul, hn, hlen]; show ((73 * m : Nat) : Int) = m * 73; omega
  · exact hm.peeled.kin
  · rw [bytes_t, pl53]; exact hm.rest
  · rw [le_t, int_len, int_len, pl53, List.length_drop, den_var]; omega
  rintro ds hds ⟨i, m', at_, hi, ha, hm', him, hs, hgo⟩
  obtain rfl : m' = m := by omega
  have e0 : upd ρ 2 ds 0 = ρ 0 := upd_lo ds (by decide)
  have e1 : upd ρ 2 ds 1 = ρ 1 := upd_lo ds (by decide)
  have e2 : upd ρ 2 ds 2 = nthD ds 0 := upd_at (i := 0) (by omega)
  have e3 : upd ρ 2 ds 3 = nthD ds 1 := upd_at (i := 1) (by omega)
  generalize upd ρ 2 ds = ρ1 at *
  have v1 : (ρ1 1).int = (ρ 1).int := by rw [e1]
  have v2 : (ρ1 2).int = at_ := by rw [e2]; exact ha
  have v3 : (ρ1 3).int = i := by rw [e3]; exact hi
  have w52 : (T.den ΦP ρ1 (.fn 52 (.var 0) .nil .nil)).int = m' := pl52 (by rw [e0]; exact hlen)
  have w50 : (T.den ΦP ρ1 (.fn 50 (.var 0) .nil .nil)).list = (peelOf (ρ 0).list).1 := by rw [pl50, e0]
  have hx : (T.den ΦP ρ1 (.c2 .mul (.var 3) (.num 73))).int = ((73 * i : Nat) : Int) := by rw [int_mul, den_var, v3]; show (i : Int) * 73 = _; omega
  have hrd : (T.den ΦP ρ1 (.c2 .rd (.fn 50 (.var 0) .nil .nil) (.c2 .mul (.var 3) (.num 73)))).int = (peelOf (ρ 0).list).1[73 * i]?.getD 0 := by rw [int_rd, w50, hx, Int.toNat_natCast]
  have hle := szSum_le (peelOf (ρ 0).list).1 i
  refine ⟨?_, fun d => ⟨?_, fun f => ?_, fun f => ?_⟩, fun d => ?_⟩
  · intro t p hmm
    simp only [List.mem_cons, Prod.mk.injEq, List.not_mem_nil, or_false] at hmm
    rcases hmm with ⟨rfl, rfl⟩ | ⟨rfl, rfl⟩ | ⟨rfl, rfl⟩
    · rw [le_t, den_var, v2]; exact Int.natCast_nonneg _
    · rw [le_t, den_var, v2]; show (at_ : Int) ≤ 320; omega
    · rw [le_t, den_var, v3]; exact Int.natCast_nonneg _
  · rw [lt_t, den_var, v3, w52] at d
    rw [le_t, int_add, hx, int_len, w50, hlen]; show ((73 * i : Nat) : Int) + 73 ≤ _; omega
  · rw [lt_t, den_var, v3, w52] at d
    rw [eq_t, hrd, den_var, v1] at f
    have hw := wh_yes a b c hlen (i := i) (at_ := at_) (by omega) hgo f
    refine ⟨fun q => ?_, fun q1 => ?_⟩
    · rw [eq_t, den_var, v1] at q
      refine leaf_wh hw v2 ?_ rfl rfl (by decide)
      rw [q]; rfl
    refine ⟨fun q => ?_, fun q2 => ?_⟩
    · rw [eq_t, den_var, v1] at q
      refine leaf_wh hw v2 ?_ rfl rfl (by decide)
      rw [q]; rfl
    refine ⟨fun q => ?_, fun q3 => ?_⟩
    · rw [eq_t, den_var, v1] at q
      refine leaf_wh hw v2 ?_ rfl rfl (by decide)
      rw [q]; rfl
    refine ⟨fun q => ?_, fun q4 => ?_⟩
    · rw [eq_t, den_var, v1] at q
      refine leaf_wh hw v2 ?_ rfl rfl (by decide)
      rw [q]; rfl
    refine ⟨fun q => ?_, fun q5 => ?_⟩
    · rw [eq_t, den_var, v1] at q
      refine leaf_wh hw v2 ?_ rfl rfl (by decide)
      rw [q]; rfl
    refine ⟨fun q => ?_, fun q6 => ?_⟩
    · rw [eq_t, den_var, v1] at q
      refine leaf_wh hw v2 ?_ rfl rfl (by decide)
      rw [q]; rfl
    exfalso
    rw [eq_f, den_var, v1] at q1
    rw [eq_f, den_var, v1] at q2
    rw [eq_f, den_var, v1] at q3
    rw [eq_f, den_var, v1] at q4
    rw [eq_f, den_var, v1] at q5
    rw [eq_f, den_var, v1] at q6
    have h6 : ¬ (ρ 1).int = 1 ∧ ¬ (ρ 1).int = 2 ∧ ¬ (ρ 1).int = 3 ∧ ¬ (ρ 1).int = 4 ∧ ¬ (ρ 1).int = 5 ∧ ¬ (ρ 1).int = 6 := ⟨q1, q2, q3, q4, q5, q6⟩
    omega
  · rw [lt_t, den_var, v3, w52] at d
    rw [eq_f, hrd, den_var, v1] at f
    have hk := hm.peeled.kind i (by omega)
    have w : (T.den ΦP ρ1 (.wr .i64 (.c2 .add (.var 3) (.num 1)))).int = ((i + 1 : Nat) : Int) := by
      rw [int_wr, int_add, den_var, v3]
      show IntKind.i64.wrap ((i : Int) + 1) = _
      rw [wrap_is (by simp only [kmin]; omega) (by simp only [kmax]; omega)]; rfl
    have back : ∀ (t : T) (B : BK), (T.den ΦP ρ1 t).int = ((at_ + hdSize ((peelOf (ρ 0).list).1[73 * i]?.getD 0).toNat : Nat) : Int) → M.ok (α := V × St) ΦP whJ (.back 0 2 [t, (.wr .i64 (.c2 .add (.var 3) (.num 1)))]) (BK.at_ B 2 fun ds' => whJ.I 0 ρ ds' ∧ whJ.μ 0 ρ ds' < whJ.μ 0 ρ ds) ρ1 (fun _ ρ' r => Leaf ΦP ρ ρ' ⟨.t [.g [.i .i64 (whT 55 (.var 0) (.var 1)), .i .i64 (whT 58 (.var 0) (.var 1))], .c (.b (whT 56 (.var 0) (.var 1))), .c (.i .i64 (whT 57 (.var 0) (.var 1)))], [], 400⟩ r) := by
      intro t B ht
      refine ok_back ⟨⟨i + 1, m', _, w, ht, hlen, by omega, by rw [szSum, hs], ?_⟩, ?_⟩
      · rw [hgo]
        obtain ⟨n, hn'⟩ : ∃ n, m' - i = n + 1 := ⟨m' - i - 1, by omega⟩
        rw [hn', whGo, if_neg f, show m' - (i + 1) = n from by omega]
      · show (peelOf (ρ 0).list).1.length - (T.den ΦP ρ1 (.wr .i64 (.c2 .add (.var 3) (.num 1)))).int.toNat < (peelOf (ρ 0).list).1.length - (nthD ds 1).int.toNat
        rw [w, hi, hlen]; omega
    obtain ⟨q, hq⟩ := Int.eq_ofNat_of_zero_le (show 0 ≤ (peelOf (ρ 0).list).1[73 * i]?.getD 0 by omega)
    rw [hq] at back hrd hk
    simp only [Int.toNat_natCast] at back
    refine ⟨?_, fun z => ?_, fun z => ?_⟩
    · rw [lt_t, hrd]; show (q : Int) < 7; omega
    · exfalso; rw [eq_t, hrd] at z; have : (q : Int) = 0 := z; omega
    refine ⟨fun z => ?_, fun z1 => ?_⟩
    · rw [eq_t, hrd] at z
      obtain rfl : q = 1 := by have : (q : Int) = 1 := z; omega
      refine back _ _ ?_
      rw [int_add, den_var, v2]; rfl
    refine ⟨fun z => ?_, fun z2 => ?_⟩
    · rw [eq_t, hrd] at z
      obtain rfl : q = 2 := by have : (q : Int) = 2 := z; omega
      refine back _ _ ?_
      rw [int_add, den_var, v2]; rfl
    refine ⟨fun z => ?_, fun z3 => ?_⟩
    · rw [eq_t, hrd] at z
      obtain rfl : q = 3 := by have : (q : Int) = 3 := z; omega
      refine back _ _ ?_
      rw [int_add, den_var, v2]; rfl
    refine ⟨fun z => ?_, fun z4 => ?_⟩
    · rw [eq_t, hrd] at z
      obtain rfl : q = 4 := by have : (q : Int) = 4 := z; omega
      refine back _ _ ?_
      rw [int_add, den_var, v2]; rfl
    refine ⟨fun z => ?_, fun z5 => ?_⟩
    · rw [eq_t, hrd] at z
      obtain rfl : q = 5 := by have : (q : Int) = 5 := z; omega
      refine back _ _ ?_
      rw [int_add, den_var, v2]; rfl
    refine ⟨fun z => ?_, fun z6 => ?_⟩
    · rw [eq_t, hrd] at z
      obtain rfl : q = 6 := by have : (q : Int) = 6 := z; omega
      refine back _ _ ?_
      rw [int_add, den_var, v2]; rfl
    exfalso
    rw [eq_f, hrd] at z1
    rw [eq_f, hrd] at z2
    rw [eq_f, hrd] at z3
    rw [eq_f, hrd] at z4
    rw [eq_f, hrd] at z5
    rw [eq_f, hrd] at z6
    have h6 : ¬ (q : Int) = 1 ∧ ¬ (q : Int) = 2 ∧ ¬ (q : Int) = 3 ∧ ¬ (q : Int) = 4 ∧ ¬ (q : Int) = 5 ∧ ¬ (q : Int) = 6 := ⟨z1, z2, z3, z4, z5, z6⟩
    omega
  · rw [lt_f, den_var, v3, w52] at d
    exact leaf_wh (wh_none a b c hlen (i := i) (at_ := at_) (by omega) hgo) rfl rfl rfl rfl (by decide)
set_option maxRecDepth 100000 in
theorem whereR_ok : TmplOk Go.Proofs.Try.prog ΦP 17 tWhere := by
  refine tmpl_of consPl0_ok treePwWhereR_is (fun ρ res hres => ⟨whJ, ?_⟩)
  obtain ⟨h0, hres⟩ := short_some hres
  obtain ⟨hb, hres⟩ := bytes_some hres
  obtain ⟨k0, k1, hres⟩ := inR_some hres
  obtain rfl := ret_some hres
  refine ⟨fun b => ?_, fun b => ⟨fun a => ?_, fun a => ⟨fun c => ?_, fun c => ?_⟩⟩⟩
  · rw [lt_t, den_var] at b
    exact leaf_wh (wh_no (.inr b)) rfl rfl rfl rfl (by decide)
  · rw [lt_f, den_var] at b
    rw [eq_t] at a
    exact leaf_wh (wh_no (.inl (kind_zero k0 b a))) rfl rfl rfl rfl (by decide)
  rotate_left
  · rw [lt_f, den_var] at b
    rw [eq_f] at a
    rw [eq_f, pl51] at c
    exact leaf_wh (wh_err (kind_one k0 b a) b c) rfl rfl rfl rfl (by decide)
  rw [lt_f, den_var] at b
  rw [eq_f] at a
  replace b : (ρ 1).int ≤ 6 := b
  replace a := kind_one k0 b a
  rw [eq_t, pl51] at c
  obtain ⟨m, hm⟩ := pl_ok hb c
  have hn := hm.num
  have hlen := hm.peeled.len
  have hmost := hm.most
  refine ⟨?_, ?_, ?_, ?_, ?_, ?_, ⟨0, m, 0, rfl, rfl, hlen, Nat.zero_le _, rfl, rfl⟩, ?_⟩
  · rw [le_t, hn]; show (1 : Int) ≤ m; have := hm.one; omega
  · rw [le_t, hn]; show (m : Int) ≤ 8; omega
  · rw [eq_t, int_len, pl50, int_mul, hn, hlen]; show ((73 * m : Nat) : Int) = m * 73; omega
  · exact hm.peeled.kin
  · rw [bytes_t, pl53]; exact hm.rest
  · rw [le_t, int_len, int_len, pl53, List.length_drop, den_var]; omega
  rintro ds hds ⟨i, m', at_, hi, ha, hm', him, hs, hgo⟩
  obtain rfl : m' = m := by omega
  have e0 : upd ρ 2 ds 0 = ρ 0 := upd_lo ds (by decide)
  have e1 : upd ρ 2 ds 1 = ρ 1 := upd_lo ds (by decide)
  have e2 : upd ρ 2 ds 2 = nthD ds 0 := upd_at (i := 0) (by omega)
  have e3 : upd ρ 2 ds 3 = nthD ds 1 := upd_at (i := 1) (by omega)
  generalize upd ρ 2 ds = ρ1 at *
  have v1 : (ρ1 1).int = (ρ 1).int := by rw [e1]
  have v2 : (ρ1 2).int = at_ := by rw [e2]; exact ha
  have v3 : (ρ1 3).int = i := by rw [e3]; exact hi
  have w52 : (T.den ΦP ρ1 (.fn 52 (.var 0) .nil .nil)).int = m' := pl52 (by rw [e0]; exact hlen)
  have w50 : (T.den ΦP ρ1 (.fn 50 (.var 0) .nil .nil)).list = (peelOf (ρ 0).list).1 := by rw [pl50, e0]
  have hx : (T.den ΦP ρ1 (.c2 .mul (.var 3) (.num 73))).int = ((73 * i : Nat) : Int) := by rw [int_mul, den_var, v3]; show (i : Int) * 73 = _; omega
  have hrd : (T.den ΦP ρ1 (.c2 .rd (.fn 50 (.var 0) .nil .nil) (.c2 .mul (.var 3) (.num 73)))).int = (peelOf (ρ 0).list).1[73 * i]?.getD 0 := by rw [int_rd, w50, hx, Int.toNat_natCast]
  have hle := szSum_le (peelOf (ρ 0).list).1 i
  refine ⟨?_, fun d => ⟨?_, fun f => ?_, fun f => ?_⟩, fun d => ?_⟩
  · intro t p hmm
    simp only [List.mem_cons, Prod.mk.injEq, List.not_mem_nil, or_false] at hmm
    rcases hmm with ⟨rfl, rfl⟩ | ⟨rfl, rfl⟩ | ⟨rfl, rfl⟩
    · rw [le_t, den_var, v2]; exact Int.natCast_nonneg _
    · rw [le_t, den_var, v2]; show (at_ : Int) ≤ 320; omega
    · rw [le_t, den_var, v3]; exact Int.natCast_nonneg _
  · rw [lt_t, den_var, v3, w52] at d
    rw [le_t, int_add, hx, int_len, w50, hlen]; show ((73 * i : Nat) : Int) + 1 ≤ _; omega
  · rw [lt_t, den_var, v3, w52] at d
    rw [eq_t, hrd, den_var, v1] at f
    have hw := wh_yes a b c hlen (i := i) (at_ := at_) (by omega) hgo f
    refine leaf_wh hw v2 ?_ rfl rfl (by decide)
    obtain ⟨q, hq⟩ := Int.eq_ofNat_of_zero_le k0
    rw [int_rd, den_var, v1, hq]
    exact sizes_rd (k := q) (by omega)
  · rw [lt_t, den_var, v3, w52] at d
    rw [eq_f, hrd, den_var, v1] at f
    have hk := hm.peeled.kind i (by omega)
    have w : (T.den ΦP ρ1 (.wr .i64 (.c2 .add (.var 3) (.num 1)))).int = ((i + 1 : Nat) : Int) := by
      rw [int_wr, int_add, den_var, v3]
      show IntKind.i64.wrap ((i : Int) + 1) = _
      rw [wrap_is (by simp only [kmin]; omega) (by simp only [kmax]; omega)]; rfl
    have back : ∀ (t : T) (B : BK), (T.den ΦP ρ1 t).int = ((at_ + hdSize ((peelOf (ρ 0).list).1[73 * i]?.getD 0).toNat : Nat) : Int) → M.ok (α := V × St) ΦP whJ (.back 0 2 [t, (.wr .i64 (.c2 .add (.var 3) (.num 1)))]) (BK.at_ B 2 fun ds' => whJ.I 0 ρ ds' ∧ whJ.μ 0 ρ ds' < whJ.μ 0 ρ ds) ρ1 (fun _ ρ' r => Leaf ΦP ρ ρ' ⟨.t [.g [.i .i64 (whT 55 (.var 0) (.var 1)), .i .i64 (whT 58 (.var 0) (.var 1))], .c (.b (whT 56 (.var 0) (.var 1))), .c (.i .i64 (whT 57 (.var 0) (.var 1)))], [], 400⟩ r) := by
      intro t B ht
      refine ok_back ⟨⟨i + 1, m', _, w, ht, hlen, by omega, by rw [szSum, hs], ?_⟩, ?_⟩
      · rw [hgo]
        obtain ⟨n, hn'⟩ : ∃ n, m' - i = n + 1 := ⟨m' - i - 1, by omega⟩
        rw [hn', whGo, if_neg f, show m' - (i + 1) = n from by omega]
      · show (peelOf (ρ 0).list).1.length - (T.den ΦP ρ1 (.wr .i64 (.c2 .add (.var 3) (.num 1)))).int.toNat < (peelOf (ρ 0).list).1.length - (nthD ds 1).int.toNat
        rw [w, hi, hlen]; omega
    obtain ⟨q, hq⟩ := Int.eq_ofNat_of_zero_le (show 0 ≤ (peelOf (ρ 0).list).1[73 * i]?.getD 0 by omega)
    rw [hq] at back hrd hk
    simp only [Int.toNat_natCast] at back
    refine ⟨fun z => ?_, fun z => ?_⟩
    · exfalso; rw [lt_t, hrd] at z; have : (6 : Int) < q := z; omega
    · refine back _ _ ?_
      rw [int_add, int_rd, den_var, v2, hrd, ← sizes_add (by omega)]; rfl
  · rw [lt_f, den_var, v3, w52] at d
    exact leaf_wh (wh_none a b c hlen (i := i) (at_ := at_) (by omega) hgo) rfl rfl rfl rfl (by decide)
theorem beq_no (Φ : Sig) (ρ : Env) (X : T) : ¬ (T.den Φ ρ (.c1 .not (.c2 .beq X X))).bool = true := by simp [T.den, U1.den, O2.den]
theorem beq_yes (Φ : Sig) (ρ : Env) (X : T) : ¬ (T.den Φ ρ (.c2 .beq X X)).bool = false := by simp [T.den, O2.den]
set_option maxRecDepth 100000 in
theorem wheres_ok : TmplOk Go.Proofs.Try.prog ΦP 4 tWheres := by
  refine tmpl_of (moreCons (con_ok where_ok) (moreCons (con_ok whereR_ok) consPl_ok)) treePwWheres_is (fun ρ res hres => ⟨eqJ, ?_⟩)
  obtain ⟨_, hres⟩ := short_some hres
  obtain ⟨_, hres⟩ := bytes_some hres
  obtain ⟨_, hres⟩ := inKs_some hres
  obtain rfl := ret_some hres
  refine ⟨fun c => absurd c (beq_no _ _ _), fun _ => ?_⟩
  refine ⟨fun c => absurd c (beq_no _ _ _), fun _ => ?_⟩
  refine ⟨fun c => absurd c (beq_no _ _ _), fun _ => ?_⟩
  refine ⟨fun c => absurd c (beq_no _ _ _), fun _ => ?_⟩
  refine ⟨fun c => absurd c (beq_no _ _ _), fun _ => ?_⟩
  refine ⟨fun c => absurd c (beq_no _ _ _), fun _ => ?_⟩
  refine ⟨fun c => absurd c (beq_no _ _ _), fun _ => ?_⟩
  refine ⟨fun c => absurd c (beq_no _ _ _), fun _ => ?_⟩
  refine ⟨fun c => absurd c (beq_no _ _ _), fun _ => ?_⟩
  refine ⟨fun c => absurd c (beq_no _ _ _), fun _ => ?_⟩
  refine ⟨fun c => absurd c (beq_no _ _ _), fun _ => ?_⟩
  refine ⟨fun c => absurd c (beq_no _ _ _), fun _ => ?_⟩
  refine ⟨fun c => absurd c (beq_no _ _ _), fun _ => ?_⟩
  refine ⟨fun c => absurd c (beq_no _ _ _), fun _ => ?_⟩
  refine ⟨fun c => absurd c (beq_no _ _ _), fun _ => ?_⟩
  refine ⟨fun c => absurd c (beq_no _ _ _), fun _ => ?_⟩
  refine ⟨fun c => absurd c (beq_no _ _ _), fun _ => ?_⟩
  refine ⟨fun c => absurd c (beq_no _ _ _), fun _ => ?_⟩
  exact ⟨fun _ => leaf_true rfl (by decide), fun c => absurd c (beq_yes _ _ _)⟩
end Go.Proofs.Ytbiodlomlendkaa.Sx
/- Sx: what Go function 5 does, as a tree of conditions (printed by a tool of this claim, proved by the kernel). Conditions: none. -/
set_option maxRecDepth 100000
namespace Go.Proofs.Ytbiodlomlendkaa.Sx
open Go
def xPbBack0 : T := (.cons (.var 0) (.cons (.fn 66 (.var 1) (.num 3) .nil) (.cons (.fn 66 (.var 2) (.num 3) .nil) (.cons (.var 3) (.cons (.var 4) (.cons (.var 5) (.cons (.var 6) (.cons (.var 7) (.cons (.var 8) (.cons (.var 9) (.cons (.var 10) (.cons (.var 11) (.cons (.var 12) (.cons (.var 13) (.cons (.var 14) (.cons (.var 15) (.cons (.var 16) (.cons (.var 17) (.cons (.var 18) (.cons (.var 19) (.cons (.var 20) (.cons (.var 21) (.cons (.var 22) (.cons (.var 23) (.cons (.var 24) (.cons (.var 25) (.cons (.var 26) (.cons (.var 27) (.cons (.var 28) (.cons (.var 29) (.cons (.var 30) (.cons (.var 31) (.cons (.var 32) (.cons (.var 33) (.cons (.var 34) (.cons (.var 35) (.cons (.var 36) (.cons (.var 37) (.cons (.var 38) (.cons (.var 39) (.cons (.var 40) (.cons (.var 41) (.cons (.var 42) (.cons (.var 43) (.cons (.var 44) (.cons (.var 45) (.cons (.var 46) (.cons (.var 47) (.cons (.var 48) (.cons (.var 49) (.cons (.var 50) (.cons (.var 51) (.cons (.var 52) (.cons (.var 53) (.cons (.var 54) (.cons (.var 55) (.cons (.var 56) (.cons (.var 57) (.cons (.var 58) (.cons (.var 59) (.cons (.var 60) (.cons (.var 61) (.cons (.var 62) (.cons (.var 63) (.cons (.var 64) (.cons (.var 65) (.cons (.var 66) (.cons (.var 67) (.cons (.var 68) (.cons (.var 69) (.cons (.var 70) (.cons (.var 71) (.cons (.var 72) (.cons (.var 73) (.cons (.var 74) .nil)))))))))))))))))))))))))))))))))))))))))))))))))))))))))))))))))))))))))))
def xPbBack1 : T := (.c1 (.kin [.i64, .i64, .i64, .u8, .u8, .u8, .u8, .u8, .u8, .u8, .u8, .u8, .u8, .u8, .u8, .u16, .u8, .u16, .u16, .u8, .u8, .u8, .u16, .u8, .u8, .u8, .u8, .u8, .u8, .u8, .u8, .u8, .u32, .u8, .u8, .u8, .u8, .u8, .u8, .u8, .u8, .u8, .u8, .u8, .u8, .u8, .u8, .u8, .u8, .u8, .u8, .u8, .u8, .u8, .u8, .u8, .u8, .u8, .u8, .u8, .u8, .u8, .u8, .u8, .u8, .u8, .u8, .u16, .u16, .u32, .u32, .u8, .u16, .u16, .u16]) xPbBack0)
def xPbBack2 : T := (.c1 (.kin [.u8, .u8, .u8, .u8, .u8, .u8, .u8, .u8, .u8, .u8, .u8, .u8, .u8, .u16, .u8, .u16, .u16, .u8, .u8, .u8, .u16, .u8, .u8, .u8, .u8, .u8, .u8, .u8, .u8, .u8, .u32, .u8, .u8, .u8, .u8, .u8, .u8, .u8, .u8, .u8, .u8, .u8, .u8, .u8, .u8, .u8, .u8, .u8, .u8, .u8, .u8, .u8, .u8, .u8, .u8, .u8, .u8, .u8, .u8, .u8, .u8, .u8, .u8, .u8, .u8, .u16, .u16, .u32, .u32, .u8, .u16, .u16, .u16]) (.fn 64 xPbBack0 .nil .nil))
def xPbBack3 : T := (.c2 .rd (.cons (.num 0) (.cons (.num 14) (.cons (.num 4) (.cons (.num 20) (.cons (.num 40) (.cons (.num 20) (.cons (.num 8) .nil))))))) (.c2 .rd (.var 86) (.c2 .mul (.var 76) (.num 73))))
def xPbBack4 : T := (.wr .u8 (.fn 54 (.cons (.c2 .rd (.var 86) (.c2 .mul (.var 76) (.num 73))) (.cons (.c2 .rd (.var 86) (.c2 .add (.c2 .mul (.var 76) (.num 73)) (.num 1))) (.cons (.c2 .rd (.var 86) (.c2 .add (.c2 .mul (.var 76) (.num 73)) (.num 2))) (.cons (.c2 .rd (.var 86) (.c2 .add (.c2 .mul (.var 76) (.num 73)) (.num 3))) (.cons (.c2 .rd (.var 86) (.c2 .add (.c2 .mul (.var 76) (.num 73)) (.num 4))) (.cons (.c2 .rd (.var 86) (.c2 .add (.c2 .mul (.var 76) (.num 73)) (.num 5))) (.cons (.c2 .rd (.var 86) (.c2 .add (.c2 .mul (.var 76) (.num 73)) (.num 6))) (.cons (.c2 .rd (.var 86) (.c2 .add (.c2 .mul (.var 76) (.num 73)) (.num 7))) (.cons (.c2 .rd (.var 86) (.c2 .add (.c2 .mul (.var 76) (.num 73)) (.num 8))) (.cons (.c2 .rd (.var 86) (.c2 .add (.c2 .mul (.var 76) (.num 73)) (.num 9))) (.cons (.c2 .rd (.var 86) (.c2 .add (.c2 .mul (.var 76) (.num 73)) (.num 10))) (.cons (.c2 .rd (.var 86) (.c2 .add (.c2 .mul (.var 76) (.num 73)) (.num 11))) (.cons (.c2 .rd (.var 86) (.c2 .add (.c2 .mul (.var 76) (.num 73)) (.num 12))) (.cons (.c2 .rd (.var 86) (.c2 .add (.c2 .mul (.var 76) (.num 73)) (.num 13))) (.cons (.c2 .rd (.var 86) (.c2 .add (.c2 .mul (.var 76) (.num 73)) (.num 14))) (.cons (.c2 .rd (.var 86) (.c2 .add (.c2 .mul (.var 76) (.num 73)) (.num 15))) (.cons (.c2 .rd (.var 86) (.c2 .add (.c2 .mul (.var 76) (.num 73)) (.num 16))) (.cons (.c2 .rd (.var 86) (.c2 .add (.c2 .mul (.var 76) (.num 73)) (.num 17))) (.cons (.c2 .rd (.var 86) (.c2 .add (.c2 .mul (.var 76) (.num 73)) (.num 18))) (.cons (.c2 .rd (.var 86) (.c2 .add (.c2 .mul (.var 76) (.num 73)) (.num 19))) (.cons (.c2 .rd (.var 86) (.c2 .add (.c2 .mul (.var 76) (.num 73)) (.num 20))) (.cons (.c2 .rd (.var 86) (.c2 .add (.c2 .mul (.var 76) (.num 73)) (.num 21))) (.cons (.c2 .rd (.var 86) (.c2 .add (.c2 .mul (.var 76) (.num 73)) (.num 22))) (.cons (.c2 .rd (.var 86) (.c2 .add (.c2 .mul (.var 76) (.num 73)) (.num 23))) (.cons (.c2 .rd (.var 86) (.c2 .add (.c2 .mul (.var 76) (.num 73)) (.num 24))) (.cons (.c2 .rd (.var 86) (.c2 .add (.c2 .mul (.var 76) (.num 73)) (.num 25))) (.cons (.c2 .rd (.var 86) (.c2 .add (.c2 .mul (.var 76) (.num 73)) (.num 26))) (.cons (.c2 .rd (.var 86) (.c2 .add (.c2 .mul (.var 76) (.num 73)) (.num 27))) (.cons (.c2 .rd (.var 86) (.c2 .add (.c2 .mul (.var 76) (.num 73)) (.num 28))) (.cons (.c2 .rd (.var 86) (.c2 .add (.c2 .mul (.var 76) (.num 73)) (.num 29))) (.cons (.c2 .rd (.var 86) (.c2 .add (.c2 .mul (.var 76) (.num 73)) (.num 30))) (.cons (.c2 .rd (.var 86) (.c2 .add (.c2 .mul (.var 76) (.num 73)) (.num 31))) (.cons (.c2 .rd (.var 86) (.c2 .add (.c2 .mul (.var 76) (.num 73)) (.num 32))) (.cons (.c2 .rd (.var 86) (.c2 .add (.c2 .mul (.var 76) (.num 73)) (.num 33))) (.cons (.c2 .rd (.var 86) (.c2 .add (.c2 .mul (.var 76) (.num 73)) (.num 34))) (.cons (.c2 .rd (.var 86) (.c2 .add (.c2 .mul (.var 76) (.num 73)) (.num 35))) (.cons (.c2 .rd (.var 86) (.c2 .add (.c2 .mul (.var 76) (.num 73)) (.num 36))) (.cons (.c2 .rd (.var 86) (.c2 .add (.c2 .mul (.var 76) (.num 73)) (.num 37))) (.cons (.c2 .rd (.var 86) (.c2 .add (.c2 .mul (.var 76) (.num 73)) (.num 38))) (.cons (.c2 .rd (.var 86) (.c2 .add (.c2 .mul (.var 76) (.num 73)) (.num 39))) (.cons (.c2 .rd (.var 86) (.c2 .add (.c2 .mul (.var 76) (.num 73)) (.num 40))) (.cons (.c2 .rd (.var 86) (.c2 .add (.c2 .mul (.var 76) (.num 73)) (.num 41))) (.cons (.c2 .rd (.var 86) (.c2 .add (.c2 .mul (.var 76) (.num 73)) (.num 42))) (.cons (.c2 .rd (.var 86) (.c2 .add (.c2 .mul (.var 76) (.num 73)) (.num 43))) (.cons (.c2 .rd (.var 86) (.c2 .add (.c2 .mul (.var 76) (.num 73)) (.num 44))) (.cons (.c2 .rd (.var 86) (.c2 .add (.c2 .mul (.var 76) (.num 73)) (.num 45))) (.cons (.c2 .rd (.var 86) (.c2 .add (.c2 .mul (.var 76) (.num 73)) (.num 46))) (.cons (.c2 .rd (.var 86) (.c2 .add (.c2 .mul (.var 76) (.num 73)) (.num 47))) (.cons (.c2 .rd (.var 86) (.c2 .add (.c2 .mul (.var 76) (.num 73)) (.num 48))) (.cons (.c2 .rd (.var 86) (.c2 .add (.c2 .mul (.var 76) (.num 73)) (.num 49))) (.cons (.c2 .rd (.var 86) (.c2 .add (.c2 .mul (.var 76) (.num 73)) (.num 50))) (.cons (.c2 .rd (.var 86) (.c2 .add (.c2 .mul (.var 76) (.num 73)) (.num 51))) (.cons (.c2 .rd (.var 86) (.c2 .add (.c2 .mul (.var 76) (.num 73)) (.num 52))) (.cons (.c2 .rd (.var 86) (.c2 .add (.c2 .mul (.var 76) (.num 73)) (.num 53))) (.cons (.c2 .rd (.var 86) (.c2 .add (.c2 .mul (.var 76) (.num 73)) (.num 54))) (.cons (.c2 .rd (.var 86) (.c2 .add (.c2 .mul (.var 76) (.num 73)) (.num 55))) (.cons (.c2 .rd (.var 86) (.c2 .add (.c2 .mul (.var 76) (.num 73)) (.num 56))) (.cons (.c2 .rd (.var 86) (.c2 .add (.c2 .mul (.var 76) (.num 73)) (.num 57))) (.cons (.c2 .rd (.var 86) (.c2 .add (.c2 .mul (.var 76) (.num 73)) (.num 58))) (.cons (.c2 .rd (.var 86) (.c2 .add (.c2 .mul (.var 76) (.num 73)) (.num 59))) (.cons (.c2 .rd (.var 86) (.c2 .add (.c2 .mul (.var 76) (.num 73)) (.num 60))) (.cons (.c2 .rd (.var 86) (.c2 .add (.c2 .mul (.var 76) (.num 73)) (.num 61))) (.cons (.c2 .rd (.var 86) (.c2 .add (.c2 .mul (.var 76) (.num 73)) (.num 62))) (.cons (.c2 .rd (.var 86) (.c2 .add (.c2 .mul (.var 76) (.num 73)) (.num 63))) (.cons (.c2 .rd (.var 86) (.c2 .add (.c2 .mul (.var 76) (.num 73)) (.num 64))) (.cons (.c2 .rd (.var 86) (.c2 .add (.c2 .mul (.var 76) (.num 73)) (.num 65))) (.cons (.c2 .rd (.var 86) (.c2 .add (.c2 .mul (.var 76) (.num 73)) (.num 66))) (.cons (.c2 .rd (.var 86) (.c2 .add (.c2 .mul (.var 76) (.num 73)) (.num 67))) (.cons (.c2 .rd (.var 86) (.c2 .add (.c2 .mul (.var 76) (.num 73)) (.num 68))) (.cons (.c2 .rd (.var 86) (.c2 .add (.c2 .mul (.var 76) (.num 73)) (.num 69))) (.cons (.c2 .rd (.var 86) (.c2 .add (.c2 .mul (.var 76) (.num 73)) (.num 70))) (.cons (.c2 .rd (.var 86) (.c2 .add (.c2 .mul (.var 76) (.num 73)) (.num 71))) (.cons (.c2 .rd (.var 86) (.c2 .add (.c2 .mul (.var 76) (.num 73)) (.num 72))) .nil))))))))))))))))))))))))))))))))))))))))))))))))))))))))))))))))))))))))) .nil .nil))
def treePbBack : M (V × St) :=
(.split (.c2 .lt (.num 1800) (.c1 .len (.var 75)))
 (.chk (.c2 .le (.num (-9223372036854775808)) (.var 1))
 (.chk (.c2 .le (.var 1) (.num 9223372036854775807))
 (.chk (.c2 .le (.num 0) (.fn 66 (.var 1) (.num 3) .nil))
 (.chk (.c2 .lt (.fn 66 (.var 1) (.num 3) .nil) (.num 3))
 (.chk (.c2 .le (.num (-9223372036854775808)) (.var 2))
 (.chk (.c2 .le (.var 2) (.num 9223372036854775807))
 (.chk (.c2 .le (.num 0) (.fn 66 (.var 2) (.num 3) .nil))
 (.chk (.c2 .lt (.fn 66 (.var 2) (.num 3) .nil) (.num 3))
 (.chk xPbBack1
 (.chk (.c2 .le (.num 1) (.fn 65 xPbBack0 .nil .nil))
 (.chk (.c2 .le (.fn 65 xPbBack0 .nil .nil) (.num 8))
 (.chk (.c2 .eq (.c1 .len (.fn 64 xPbBack0 .nil .nil)) (.c2 .mul (.fn 65 xPbBack0 .nil .nil) (.num 73)))
 (.chk xPbBack2
 (.chk (.c1 (.kin [.u8]) (.c2 .take (.num 1800) (.var 75)))
 (.split (.c2 .eq (.fn 62 (.fn 64 xPbBack0 .nil .nil) (.c2 .take (.num 1800) (.var 75)) .nil) (.num 0))
  (.chk (.c1 (.kin [.u8]) (.fn 63 (.fn 64 xPbBack0 .nil .nil) (.c2 .take (.num 1800) (.var 75)) .nil))
  (.chk (.c2 .le (.c1 .len (.fn 63 (.fn 64 xPbBack0 .nil .nil) (.c2 .take (.num 1800) (.var 75)) .nil)) (.num 140737488351232))
  (.split (.c2 .eq (.fn 51 (.fn 63 (.fn 64 xPbBack0 .nil .nil) (.c2 .take (.num 1800) (.var 75)) .nil) .nil .nil) (.num 0))
   (.chk (.c2 .le (.num 1) (.fn 52 (.fn 63 (.fn 64 xPbBack0 .nil .nil) (.c2 .take (.num 1800) (.var 75)) .nil) .nil .nil))
   (.chk (.c2 .le (.fn 52 (.fn 63 (.fn 64 xPbBack0 .nil .nil) (.c2 .take (.num 1800) (.var 75)) .nil) .nil .nil) (.num 8))
   (.chk (.c2 .eq (.c1 .len (.fn 50 (.fn 63 (.fn 64 xPbBack0 .nil .nil) (.c2 .take (.num 1800) (.var 75)) .nil) .nil .nil)) (.c2 .mul (.fn 52 (.fn 63 (.fn 64 xPbBack0 .nil .nil) (.c2 .take (.num 1800) (.var 75)) .nil) .nil .nil) (.num 73)))
   (.chk (.c1 (.kin [.u8, .u8, .u8, .u8, .u8, .u8, .u8, .u8, .u8, .u8, .u8, .u8, .u8, .u16, .u8, .u16, .u16, .u8, .u8, .u8, .u16, .u8, .u8, .u8, .u8, .u8, .u8, .u8, .u8, .u8, .u32, .u8, .u8, .u8, .u8, .u8, .u8, .u8, .u8, .u8, .u8, .u8, .u8, .u8, .u8, .u8, .u8, .u8, .u8, .u8, .u8, .u8, .u8, .u8, .u8, .u8, .u8, .u8, .u8, .u8, .u8, .u8, .u8, .u8, .u8, .u16, .u16, .u32, .u32, .u8, .u16, .u16, .u16]) (.fn 50 (.fn 63 (.fn 64 xPbBack0 .nil .nil) (.c2 .take (.num 1800) (.var 75)) .nil) .nil .nil))
   (.chk (.c1 (.kin [.u8]) (.fn 53 (.fn 63 (.fn 64 xPbBack0 .nil .nil) (.c2 .take (.num 1800) (.var 75)) .nil) .nil .nil))
   (.chk (.c2 .le (.c1 .len (.fn 53 (.fn 63 (.fn 64 xPbBack0 .nil .nil) (.c2 .take (.num 1800) (.var 75)) .nil) .nil .nil)) (.c1 .len (.fn 63 (.fn 64 xPbBack0 .nil .nil) (.c2 .take (.num 1800) (.var 75)) .nil)))
   (.split (.c1 .not (.c2 .eq (.fn 52 (.fn 63 (.fn 64 xPbBack0 .nil .nil) (.c2 .take (.num 1800) (.var 75)) .nil) .nil .nil) (.fn 65 xPbBack0 .nil .nil)))
    (.ret (.w (.c (.b (.bol false))), ⟨[], [], 6006, 76, []⟩))
    (.split (.c1 .not (.c2 .leq (.fn 53 (.fn 63 (.fn 64 xPbBack0 .nil .nil) (.c2 .take (.num 1800) (.var 75)) .nil) .nil .nil) (.c2 .take (.num 1800) (.var 75))))
     (.ret (.w (.c (.b (.bol false))), ⟨[], [], 6008, 76, []⟩))
     (.loop 0 76 15 [(.num 0), (.num 0), (.bol false), (.bol false), (.bol false), (.bol false), (.bol false), (.bol false), (.bol false), (.fn 65 xPbBack0 .nil .nil), (.fn 64 xPbBack0 .nil .nil), (.c1 .len (.fn 63 (.fn 64 xPbBack0 .nil .nil) (.c2 .take (.num 1800) (.var 75)) .nil)), (.fn 63 (.fn 64 xPbBack0 .nil .nil) (.c2 .take (.num 1800) (.var 75)) .nil), (.fn 52 (.fn 63 (.fn 64 xPbBack0 .nil .nil) (.c2 .take (.num 1800) (.var 75)) .nil) .nil .nil), (.fn 50 (.fn 63 (.fn 64 xPbBack0 .nil .nil) (.c2 .take (.num 1800) (.var 75)) .nil) .nil .nil)] [((.c2 .le (.num 0) (.var 76)), true), ((.c2 .le (.num 0) (.var 77)), true), ((.c2 .le (.var 77) (.num 400)), true), ((.c2 .le (.num 1) (.var 85)), true), ((.c2 .le (.var 85) (.num 8)), true), ((.c2 .eq (.c1 .len (.var 86)) (.c2 .mul (.var 85) (.num 73))), true), ((.c1 (.kin [.u8, .u8, .u8, .u8, .u8, .u8, .u8, .u8, .u8, .u8, .u8, .u8, .u8, .u16, .u8, .u16, .u16, .u8, .u8, .u8, .u16, .u8, .u8, .u8, .u8, .u8, .u8, .u8, .u8, .u8, .u32, .u8, .u8, .u8, .u8, .u8, .u8, .u8, .u8, .u8, .u8, .u8, .u8, .u8, .u8, .u8, .u8, .u8, .u8, .u8, .u8, .u8, .u8, .u8, .u8, .u8, .u8, .u8, .u8, .u8, .u8, .u8, .u8, .u8, .u8, .u16, .u16, .u32, .u32, .u8, .u16, .u16, .u16]) (.var 86)), true), ((.c2 .le (.num 0) (.var 87)), true), ((.c2 .le (.var 87) (.num 2048)), true), ((.c2 .eq (.c1 .len (.var 88)) (.var 87)), true), ((.c1 (.kin [.u8]) (.var 88)), true), ((.c2 .eq (.var 89) (.var 85)), true), ((.c2 .eq (.c1 .len (.var 90)) (.c2 .mul (.var 89) (.num 73))), true), ((.c1 (.kin [.u8, .u8, .u8, .u8, .u8, .u8, .u8, .u8, .u8, .u8, .u8, .u8, .u8, .u16, .u8, .u16, .u16, .u8, .u8, .u8, .u16, .u8, .u8, .u8, .u8, .u8, .u8, .u8, .u8, .u8, .u32, .u8, .u8, .u8, .u8, .u8, .u8, .u8, .u8, .u8, .u8, .u8, .u8, .u8, .u8, .u8, .u8, .u8, .u8, .u8, .u8, .u8, .u8, .u8, .u8, .u8, .u8, .u8, .u8, .u8, .u8, .u8, .u8, .u8, .u8, .u16, .u16, .u32, .u32, .u8, .u16, .u16, .u16]) (.var 90)), true)]
      (.split (.c2 .lt (.var 76) (.var 85))
       (.chk (.c2 .le (.c2 .add (.c2 .mul (.var 76) (.num 73)) (.num 1)) (.c1 .len (.var 86)))
       (.chk (.c2 .lt (.var 76) (.var 89))
       (.chk (.c2 .le (.c2 .add (.c2 .mul (.var 76) (.num 73)) (.num 73)) (.c1 .len (.var 90)))
       (.chk (.c2 .le (.c2 .add (.c2 .mul (.var 76) (.num 73)) (.num 73)) (.c1 .len (.var 86)))
       (.split (.c1 .not (.c2 .and (.c2 .eq (.c2 .rd (.var 90) (.c2 .mul (.var 76) (.num 73))) (.c2 .rd (.var 86) (.c2 .mul (.var 76) (.num 73)))) (.c2 .and (.c2 .eq (.c2 .rd (.var 90) (.c2 .add (.c2 .mul (.var 76) (.num 73)) (.num 1))) (.c2 .rd (.var 86) (.c2 .add (.c2 .mul (.var 76) (.num 73)) (.num 1)))) (.c2 .and (.c2 .eq (.c2 .rd (.var 90) (.c2 .add (.c2 .mul (.var 76) (.num 73)) (.num 2))) (.c2 .rd (.var 86) (.c2 .add (.c2 .mul (.var 76) (.num 73)) (.num 2)))) (.c2 .and (.c2 .eq (.c2 .rd (.var 90) (.c2 .add (.c2 .mul (.var 76) (.num 73)) (.num 3))) (.c2 .rd (.var 86) (.c2 .add (.c2 .mul (.var 76) (.num 73)) (.num 3)))) (.c2 .and (.c2 .eq (.c2 .rd (.var 90) (.c2 .add (.c2 .mul (.var 76) (.num 73)) (.num 4))) (.c2 .rd (.var 86) (.c2 .add (.c2 .mul (.var 76) (.num 73)) (.num 4)))) (.c2 .and (.c2 .eq (.c2 .rd (.var 90) (.c2 .add (.c2 .mul (.var 76) (.num 73)) (.num 5))) (.c2 .rd (.var 86) (.c2 .add (.c2 .mul (.var 76) (.num 73)) (.num 5)))) (.c2 .and (.c2 .eq (.c2 .rd (.var 90) (.c2 .add (.c2 .mul (.var 76) (.num 73)) (.num 6))) (.c2 .rd (.var 86) (.c2 .add (.c2 .mul (.var 76) (.num 73)) (.num 6)))) (.c2 .and (.c2 .eq (.c2 .rd (.var 90) (.c2 .add (.c2 .mul (.var 76) (.num 73)) (.num 7))) (.c2 .rd (.var 86) (.c2 .add (.c2 .mul (.var 76) (.num 73)) (.num 7)))) (.c2 .and (.c2 .eq (.c2 .rd (.var 90) (.c2 .add (.c2 .mul (.var 76) (.num 73)) (.num 8))) (.c2 .rd (.var 86) (.c2 .add (.c2 .mul (.var 76) (.num 73)) (.num 8)))) (.c2 .and (.c2 .eq (.c2 .rd (.var 90) (.c2 .add (.c2 .mul (.var 76) (.num 73)) (.num 9))) (.c2 .rd (.var 86) (.c2 .add (.c2 .mul (.var 76) (.num 73)) (.num 9)))) (.c2 .and (.c2 .eq (.c2 .rd (.var 90) (.c2 .add (.c2 .mul (.var 76) (.num 73)) (.num 10))) (.c2 .rd (.var 86) (.c2 .add (.c2 .mul (.var 76) (.num 73)) (.num 10)))) (.c2 .and (.c2 .eq (.c2 .rd (.var 90) (.c2 .add (.c2 .mul (.var 76) (.num 73)) (.num 11))) (.c2 .rd (.var 86) (.c2 .add (.c2 .mul (.var 76) (.num 73)) (.num 11)))) (.c2 .and (.c2 .eq (.c2 .rd (.var 90) (.c2 .add (.c2 .mul (.var 76) (.num 73)) (.num 12))) (.c2 .rd (.var 86) (.c2 .add (.c2 .mul (.var 76) (.num 73)) (.num 12)))) (.c2 .and (.c2 .eq (.c2 .rd (.var 90) (.c2 .add (.c2 .mul (.var 76) (.num 73)) (.num 13))) (.c2 .rd (.var 86) (.c2 .add (.c2 .mul (.var 76) (.num 73)) (.num 13)))) (.c2 .and (.c2 .eq (.c2 .rd (.var 90) (.c2 .add (.c2 .mul (.var 76) (.num 73)) (.num 14))) (.c2 .rd (.var 86) (.c2 .add (.c2 .mul (.var 76) (.num 73)) (.num 14)))) (.c2 .and (.c2 .eq (.c2 .rd (.var 90) (.c2 .add (.c2 .mul (.var 76) (.num 73)) (.num 15))) (.c2 .rd (.var 86) (.c2 .add (.c2 .mul (.var 76) (.num 73)) (.num 15)))) (.c2 .and (.c2 .eq (.c2 .rd (.var 90) (.c2 .add (.c2 .mul (.var 76) (.num 73)) (.num 16))) (.c2 .rd (.var 86) (.c2 .add (.c2 .mul (.var 76) (.num 73)) (.num 16)))) (.c2 .and (.c2 .eq (.c2 .rd (.var 90) (.c2 .add (.c2 .mul (.var 76) (.num 73)) (.num 17))) (.c2 .rd (.var 86) (.c2 .add (.c2 .mul (.var 76) (.num 73)) (.num 17)))) (.c2 .and (.c2 .eq (.c2 .rd (.var 90) (.c2 .add (.c2 .mul (.var 76) (.num 73)) (.num 18))) (.c2 .rd (.var 86) (.c2 .add (.c2 .mul (.var 76) (.num 73)) (.num 18)))) (.c2 .and (.c2 .eq (.c2 .rd (.var 90) (.c2 .add (.c2 .mul (.var 76) (.num 73)) (.num 19))) (.c2 .rd (.var 86) (.c2 .add (.c2 .mul (.var 76) (.num 73)) (.num 19)))) (.c2 .and (.c2 .eq (.c2 .rd (.var 90) (.c2 .add (.c2 .mul (.var 76) (.num 73)) (.num 20))) (.c2 .rd (.var 86) (.c2 .add (.c2 .mul (.var 76) (.num 73)) (.num 20)))) (.c2 .and (.c2 .eq (.c2 .rd (.var 90) (.c2 .add (.c2 .mul (.var 76) (.num 73)) (.num 21))) (.c2 .rd (.var 86) (.c2 .add (.c2 .mul (.var 76) (.num 73)) (.num 21)))) (.c2 .and (.c2 .eq (.c2 .rd (.var 90) (.c2 .add (.c2 .mul (.var 76) (.num 73)) (.num 22))) (.c2 .rd (.var 86) (.c2 .add (.c2 .mul (.var 76) (.num 73)) (.num 22)))) (.c2 .and (.c2 .eq (.c2 .rd (.var 90) (.c2 .add (.c2 .mul (.var 76) (.num 73)) (.num 23))) (.c2 .rd (.var 86) (.c2 .add (.c2 .mul (.var 76) (.num 73)) (.num 23)))) (.c2 .and (.c2 .eq (.c2 .rd (.var 90) (.c2 .add (.c2 .mul (.var 76) (.num 73)) (.num 24))) (.c2 .rd (.var 86) (.c2 .add (.c2 .mul (.var 76) (.num 73)) (.num 24)))) (.c2 .and (.c2 .eq (.c2 .rd (.var 90) (.c2 .add (.c2 .mul (.var 76) (.num 73)) (.num 25))) (.c2 .rd (.var 86) (.c2 .add (.c2 .mul (.var 76) (.num 73)) (.num 25)))) (.c2 .and (.c2 .eq (.c2 .rd (.var 90) (.c2 .add (.c2 .mul (.var 76) (.num 73)) (.num 26))) (.c2 .rd (.var 86) (.c2 .add (.c2 .mul (.var 76) (.num 73)) (.num 26)))) (.c2 .and (.c2 .eq (.c2 .rd (.var 90) (.c2 .add (.c2 .mul (.var 76) (.num 73)) (.num 27))) (.c2 .rd (.var 86) (.c2 .add (.c2 .mul (.var 76) (.num 73)) (.num 27)))) (.c2 .and (.c2 .eq (.c2 .rd (.var 90) (.c2 .add (.c2 .mul (.var 76) (.num 73)) (.num 28))) (.c2 .rd (.var 86) (.c2 .add (.c2 .mul (.var 76) (.num 73)) (.num 28)))) (.c2 .and (.c2 .eq (.c2 .rd (.var 90) (.c2 .add (.c2 .mul (.var 76) (.num 73)) (.num 29))) (.c2 .rd (.var 86) (.c2 .add (.c2 .mul (.var 76) (.num 73)) (.num 29)))) (.c2 .and (.c2 .eq (.c2 .rd (.var 90) (.c2 .add (.c2 .mul (.var 76) (.num 73)) (.num 30))) (.c2 .rd (.var 86) (.c2 .add (.c2 .mul (.var 76) (.num 73)) (.num 30)))) (.c2 .and (.c2 .eq (.c2 .rd (.var 90) (.c2 .add (.c2 .mul (.var 76) (.num 73)) (.num 31))) (.c2 .rd (.var 86) (.c2 .add (.c2 .mul (.var 76) (.num 73)) (.num 31)))) (.c2 .and (.c2 .eq (.c2 .rd (.var 90) (.c2 .add (.c2 .mul (.var 76) (.num 73)) (.num 32))) (.c2 .rd (.var 86) (.c2 .add (.c2 .mul (.var 76) (.num 73)) (.num 32)))) (.c2 .and (.c2 .eq (.c2 .rd (.var 90) (.c2 .add (.c2 .mul (.var 76) (.num 73)) (.num 33))) (.c2 .rd (.var 86) (.c2 .add (.c2 .mul (.var 76) (.num 73)) (.num 33)))) (.c2 .and (.c2 .eq (.c2 .rd (.var 90) (.c2 .add (.c2 .mul (.var 76) (.num 73)) (.num 34))) (.c2 .rd (.var 86) (.c2 .add (.c2 .mul (.var 76) (.num 73)) (.num 34)))) (.c2 .and (.c2 .eq (.c2 .rd (.var 90) (.c2 .add (.c2 .mul (.var 76) (.num 73)) (.num 35))) (.c2 .rd (.var 86) (.c2 .add (.c2 .mul (.var 76) (.num 73)) (.num 35)))) (.c2 .and (.c2 .eq (.c2 .rd (.var 90) (.c2 .add (.c2 .mul (.var 76) (.num 73)) (.num 36))) (.c2 .rd (.var 86) (.c2 .add (.c2 .mul (.var 76) (.num 73)) (.num 36)))) (.c2 .and (.c2 .eq (.c2 .rd (.var 90) (.c2 .add (.c2 .mul (.var 76) (.num 73)) (.num 37))) (.c2 .rd (.var 86) (.c2 .add (.c2 .mul (.var 76) (.num 73)) (.num 37)))) (.c2 .and (.c2 .eq (.c2 .rd (.var 90) (.c2 .add (.c2 .mul (.var 76) (.num 73)) (.num 38))) (.c2 .rd (.var 86) (.c2 .add (.c2 .mul (.var 76) (.num 73)) (.num 38)))) (.c2 .and (.c2 .eq (.c2 .rd (.var 90) (.c2 .add (.c2 .mul (.var 76) (.num 73)) (.num 39))) (.c2 .rd (.var 86) (.c2 .add (.c2 .mul (.var 76) (.num 73)) (.num 39)))) (.c2 .and (.c2 .eq (.c2 .rd (.var 90) (.c2 .add (.c2 .mul (.var 76) (.num 73)) (.num 40))) (.c2 .rd (.var 86) (.c2 .add (.c2 .mul (.var 76) (.num 73)) (.num 40)))) (.c2 .and (.c2 .eq (.c2 .rd (.var 90) (.c2 .add (.c2 .mul (.var 76) (.num 73)) (.num 41))) (.c2 .rd (.var 86) (.c2 .add (.c2 .mul (.var 76) (.num 73)) (.num 41)))) (.c2 .and (.c2 .eq (.c2 .rd (.var 90) (.c2 .add (.c2 .mul (.var 76) (.num 73)) (.num 42))) (.c2 .rd (.var 86) (.c2 .add (.c2 .mul (.var 76) (.num 73)) (.num 42)))) (.c2 .and (.c2 .eq (.c2 .rd (.var 90) (.c2 .add (.c2 .mul (.var 76) (.num 73)) (.num 43))) (.c2 .rd (.var 86) (.c2 .add (.c2 .mul (.var 76) (.num 73)) (.num 43)))) (.c2 .and (.c2 .eq (.c2 .rd (.var 90) (.c2 .add (.c2 .mul (.var 76) (.num 73)) (.num 44))) (.c2 .rd (.var 86) (.c2 .add (.c2 .mul (.var 76) (.num 73)) (.num 44)))) (.c2 .and (.c2 .eq (.c2 .rd (.var 90) (.c2 .add (.c2 .mul (.var 76) (.num 73)) (.num 45))) (.c2 .rd (.var 86) (.c2 .add (.c2 .mul (.var 76) (.num 73)) (.num 45)))) (.c2 .and (.c2 .eq (.c2 .rd (.var 90) (.c2 .add (.c2 .mul (.var 76) (.num 73)) (.num 46))) (.c2 .rd (.var 86) (.c2 .add (.c2 .mul (.var 76) (.num 73)) (.num 46)))) (.c2 .and (.c2 .eq (.c2 .rd (.var 90) (.c2 .add (.c2 .mul (.var 76) (.num 73)) (.num 47))) (.c2 .rd (.var 86) (.c2 .add (.c2 .mul (.var 76) (.num 73)) (.num 47)))) (.c2 .and (.c2 .eq (.c2 .rd (.var 90) (.c2 .add (.c2 .mul (.var 76) (.num 73)) (.num 48))) (.c2 .rd (.var 86) (.c2 .add (.c2 .mul (.var 76) (.num 73)) (.num 48)))) (.c2 .and (.c2 .eq (.c2 .rd (.var 90) (.c2 .add (.c2 .mul (.var 76) (.num 73)) (.num 49))) (.c2 .rd (.var 86) (.c2 .add (.c2 .mul (.var 76) (.num 73)) (.num 49)))) (.c2 .and (.c2 .eq (.c2 .rd (.var 90) (.c2 .add (.c2 .mul (.var 76) (.num 73)) (.num 50))) (.c2 .rd (.var 86) (.c2 .add (.c2 .mul (.var 76) (.num 73)) (.num 50)))) (.c2 .and (.c2 .eq (.c2 .rd (.var 90) (.c2 .add (.c2 .mul (.var 76) (.num 73)) (.num 51))) (.c2 .rd (.var 86) (.c2 .add (.c2 .mul (.var 76) (.num 73)) (.num 51)))) (.c2 .and (.c2 .eq (.c2 .rd (.var 90) (.c2 .add (.c2 .mul (.var 76) (.num 73)) (.num 52))) (.c2 .rd (.var 86) (.c2 .add (.c2 .mul (.var 76) (.num 73)) (.num 52)))) (.c2 .and (.c2 .eq (.c2 .rd (.var 90) (.c2 .add (.c2 .mul (.var 76) (.num 73)) (.num 53))) (.c2 .rd (.var 86) (.c2 .add (.c2 .mul (.var 76) (.num 73)) (.num 53)))) (.c2 .and (.c2 .eq (.c2 .rd (.var 90) (.c2 .add (.c2 .mul (.var 76) (.num 73)) (.num 54))) (.c2 .rd (.var 86) (.c2 .add (.c2 .mul (.var 76) (.num 73)) (.num 54)))) (.c2 .and (.c2 .eq (.c2 .rd (.var 90) (.c2 .add (.c2 .mul (.var 76) (.num 73)) (.num 55))) (.c2 .rd (.var 86) (.c2 .add (.c2 .mul (.var 76) (.num 73)) (.num 55)))) (.c2 .and (.c2 .eq (.c2 .rd (.var 90) (.c2 .add (.c2 .mul (.var 76) (.num 73)) (.num 56))) (.c2 .rd (.var 86) (.c2 .add (.c2 .mul (.var 76) (.num 73)) (.num 56)))) (.c2 .and (.c2 .eq (.c2 .rd (.var 90) (.c2 .add (.c2 .mul (.var 76) (.num 73)) (.num 57))) (.c2 .rd (.var 86) (.c2 .add (.c2 .mul (.var 76) (.num 73)) (.num 57)))) (.c2 .and (.c2 .eq (.c2 .rd (.var 90) (.c2 .add (.c2 .mul (.var 76) (.num 73)) (.num 58))) (.c2 .rd (.var 86) (.c2 .add (.c2 .mul (.var 76) (.num 73)) (.num 58)))) (.c2 .and (.c2 .eq (.c2 .rd (.var 90) (.c2 .add (.c2 .mul (.var 76) (.num 73)) (.num 59))) (.c2 .rd (.var 86) (.c2 .add (.c2 .mul (.var 76) (.num 73)) (.num 59)))) (.c2 .and (.c2 .eq (.c2 .rd (.var 90) (.c2 .add (.c2 .mul (.var 76) (.num 73)) (.num 60))) (.c2 .rd (.var 86) (.c2 .add (.c2 .mul (.var 76) (.num 73)) (.num 60)))) (.c2 .and (.c2 .eq (.c2 .rd (.var 90) (.c2 .add (.c2 .mul (.var 76) (.num 73)) (.num 61))) (.c2 .rd (.var 86) (.c2 .add (.c2 .mul (.var 76) (.num 73)) (.num 61)))) (.c2 .and (.c2 .eq (.c2 .rd (.var 90) (.c2 .add (.c2 .mul (.var 76) (.num 73)) (.num 62))) (.c2 .rd (.var 86) (.c2 .add (.c2 .mul (.var 76) (.num 73)) (.num 62)))) (.c2 .and (.c2 .eq (.c2 .rd (.var 90) (.c2 .add (.c2 .mul (.var 76) (.num 73)) (.num 63))) (.c2 .rd (.var 86) (.c2 .add (.c2 .mul (.var 76) (.num 73)) (.num 63)))) (.c2 .and (.c2 .eq (.c2 .rd (.var 90) (.c2 .add (.c2 .mul (.var 76) (.num 73)) (.num 64))) (.c2 .rd (.var 86) (.c2 .add (.c2 .mul (.var 76) (.num 73)) (.num 64)))) (.c2 .and (.c2 .eq (.c2 .rd (.var 90) (.c2 .add (.c2 .mul (.var 76) (.num 73)) (.num 65))) (.c2 .rd (.var 86) (.c2 .add (.c2 .mul (.var 76) (.num 73)) (.num 65)))) (.c2 .and (.c2 .eq (.c2 .rd (.var 90) (.c2 .add (.c2 .mul (.var 76) (.num 73)) (.num 66))) (.c2 .rd (.var 86) (.c2 .add (.c2 .mul (.var 76) (.num 73)) (.num 66)))) (.c2 .and (.c2 .eq (.c2 .rd (.var 90) (.c2 .add (.c2 .mul (.var 76) (.num 73)) (.num 67))) (.c2 .rd (.var 86) (.c2 .add (.c2 .mul (.var 76) (.num 73)) (.num 67)))) (.c2 .and (.c2 .eq (.c2 .rd (.var 90) (.c2 .add (.c2 .mul (.var 76) (.num 73)) (.num 68))) (.c2 .rd (.var 86) (.c2 .add (.c2 .mul (.var 76) (.num 73)) (.num 68)))) (.c2 .and (.c2 .eq (.c2 .rd (.var 90) (.c2 .add (.c2 .mul (.var 76) (.num 73)) (.num 69))) (.c2 .rd (.var 86) (.c2 .add (.c2 .mul (.var 76) (.num 73)) (.num 69)))) (.c2 .and (.c2 .eq (.c2 .rd (.var 90) (.c2 .add (.c2 .mul (.var 76) (.num 73)) (.num 70))) (.c2 .rd (.var 86) (.c2 .add (.c2 .mul (.var 76) (.num 73)) (.num 70)))) (.c2 .and (.c2 .eq (.c2 .rd (.var 90) (.c2 .add (.c2 .mul (.var 76) (.num 73)) (.num 71))) (.c2 .rd (.var 86) (.c2 .add (.c2 .mul (.var 76) (.num 73)) (.num 71)))) (.c2 .eq (.c2 .rd (.var 90) (.c2 .add (.c2 .mul (.var 76) (.num 73)) (.num 72))) (.c2 .rd (.var 86) (.c2 .add (.c2 .mul (.var 76) (.num 73)) (.num 72)))))))))))))))))))))))))))))))))))))))))))))))))))))))))))))))))))))))))))))
        (.ret (.w (.c (.b (.bol false))), ⟨[], [], 6414, 91, []⟩))
        (.split (.c1 .not (.c2 .eq (.fn 57 (.var 88) (.c2 .rd (.var 86) (.c2 .mul (.var 76) (.num 73))) .nil) (.num 0)))
         (.ret (.w (.c (.b (.bol false))), ⟨[], [], 6414, 91, []⟩))
         (.split (.c1 .not (.fn 56 (.var 88) (.c2 .rd (.var 86) (.c2 .mul (.var 76) (.num 73))) .nil))
          (.ret (.w (.c (.b (.bol false))), ⟨[], [], 6414, 91, []⟩))
          (.chk (.c2 .lt (.c2 .rd (.var 86) (.c2 .mul (.var 76) (.num 73))) (.num 7))
          (.split (.c1 .not (.ite (.c2 .eq (.c2 .rd (.var 86) (.c2 .mul (.var 76) (.num 73))) (.num 0)) (.var 78) (.ite (.c2 .eq (.c2 .rd (.var 86) (.c2 .mul (.var 76) (.num 73))) (.num 1)) (.var 79) (.ite (.c2 .eq (.c2 .rd (.var 86) (.c2 .mul (.var 76) (.num 73))) (.num 2)) (.var 80) (.ite (.c2 .eq (.c2 .rd (.var 86) (.c2 .mul (.var 76) (.num 73))) (.num 3)) (.var 81) (.ite (.c2 .eq (.c2 .rd (.var 86) (.c2 .mul (.var 76) (.num 73))) (.num 4)) (.var 82) (.ite (.c2 .eq (.c2 .rd (.var 86) (.c2 .mul (.var 76) (.num 73))) (.num 5)) (.var 83) (.ite (.c2 .eq (.c2 .rd (.var 86) (.c2 .mul (.var 76) (.num 73))) (.num 6)) (.var 84) (.bol false)))))))))
           (.split (.c1 .not (.c2 .and (.c2 .eq (.fn 55 (.var 88) (.c2 .rd (.var 86) (.c2 .mul (.var 76) (.num 73))) .nil) (.var 77)) (.c2 .eq (.fn 58 (.var 88) (.c2 .rd (.var 86) (.c2 .mul (.var 76) (.num 73))) .nil) xPbBack3)))
            (.ret (.w (.c (.b (.bol false))), ⟨[], [], 6414, 91, []⟩))
            (.split (.c1 .not (.c2 .beq (.c1 .not (.c2 .eq xPbBack4 (.num 0))) (.c2 .lt (.wr .i64 (.c2 .add (.var 76) (.num 1))) (.var 85))))
             (.ret (.w (.c (.b (.bol false))), ⟨[], [], 6434, 91, []⟩))
             (.split (.c1 .not (.c2 .eq xPbBack4 (.num 0)))
              (.chk (.c2 .le (.num 0) (.wr .i64 (.c2 .add (.var 76) (.num 1))))
              (.chk (.c2 .lt (.wr .i64 (.c2 .add (.var 76) (.num 1))) (.var 85))
              (.chk (.c2 .le (.c2 .add (.c2 .mul (.wr .i64 (.c2 .add (.var 76) (.num 1))) (.num 73)) (.num 1)) (.c1 .len (.var 86)))
              (.split (.c1 .not (.c2 .eq xPbBack4 (.c2 .rd (.var 86) (.c2 .mul (.wr .i64 (.c2 .add (.var 76) (.num 1))) (.num 73)))))
               (.ret (.w (.c (.b (.bol false))), ⟨[], [], 6434, 91, []⟩))
               (.back 0 76 [(.wr .i64 (.c2 .add (.var 76) (.num 1))), (.c2 .add (.var 77) xPbBack3), (.ite (.c2 .eq (.c2 .rd (.var 86) (.c2 .mul (.var 76) (.num 73))) (.num 0)) (.bol true) (.var 78)), (.ite (.c2 .eq (.c2 .rd (.var 86) (.c2 .mul (.var 76) (.num 73))) (.num 1)) (.bol true) (.var 79)), (.ite (.c2 .eq (.c2 .rd (.var 86) (.c2 .mul (.var 76) (.num 73))) (.num 2)) (.bol true) (.var 80)), (.ite (.c2 .eq (.c2 .rd (.var 86) (.c2 .mul (.var 76) (.num 73))) (.num 3)) (.bol true) (.var 81)), (.ite (.c2 .eq (.c2 .rd (.var 86) (.c2 .mul (.var 76) (.num 73))) (.num 4)) (.bol true) (.var 82)), (.ite (.c2 .eq (.c2 .rd (.var 86) (.c2 .mul (.var 76) (.num 73))) (.num 5)) (.bol true) (.var 83)), (.ite (.c2 .eq (.c2 .rd (.var 86) (.c2 .mul (.var 76) (.num 73))) (.num 6)) (.bol true) (.var 84)), (.var 85), (.var 86), (.var 87), (.var 88), (.var 89), (.var 90)])))))
              (.back 0 76 [(.wr .i64 (.c2 .add (.var 76) (.num 1))), (.c2 .add (.var 77) xPbBack3), (.ite (.c2 .eq (.c2 .rd (.var 86) (.c2 .mul (.var 76) (.num 73))) (.num 0)) (.bol true) (.var 78)), (.ite (.c2 .eq (.c2 .rd (.var 86) (.c2 .mul (.var 76) (.num 73))) (.num 1)) (.bol true) (.var 79)), (.ite (.c2 .eq (.c2 .rd (.var 86) (.c2 .mul (.var 76) (.num 73))) (.num 2)) (.bol true) (.var 80)), (.ite (.c2 .eq (.c2 .rd (.var 86) (.c2 .mul (.var 76) (.num 73))) (.num 3)) (.bol true) (.var 81)), (.ite (.c2 .eq (.c2 .rd (.var 86) (.c2 .mul (.var 76) (.num 73))) (.num 4)) (.bol true) (.var 82)), (.ite (.c2 .eq (.c2 .rd (.var 86) (.c2 .mul (.var 76) (.num 73))) (.num 5)) (.bol true) (.var 83)), (.ite (.c2 .eq (.c2 .rd (.var 86) (.c2 .mul (.var 76) (.num 73))) (.num 6)) (.bol true) (.var 84)), (.var 85), (.var 86), (.var 87), (.var 88), (.var 89), (.var 90)]))))
           (.split (.c1 .not (.c2 .beq (.c1 .not (.c2 .eq xPbBack4 (.num 0))) (.c2 .lt (.wr .i64 (.c2 .add (.var 76) (.num 1))) (.var 85))))
            (.ret (.w (.c (.b (.bol false))), ⟨[], [], 6434, 91, []⟩))
            (.split (.c1 .not (.c2 .eq xPbBack4 (.num 0)))
             (.chk (.c2 .le (.num 0) (.wr .i64 (.c2 .add (.var 76) (.num 1))))
             (.chk (.c2 .lt (.wr .i64 (.c2 .add (.var 76) (.num 1))) (.var 85))
             (.chk (.c2 .le (.c2 .add (.c2 .mul (.wr .i64 (.c2 .add (.var 76) (.num 1))) (.num 73)) (.num 1)) (.c1 .len (.var 86)))
             (.split (.c1 .not (.c2 .eq xPbBack4 (.c2 .rd (.var 86) (.c2 .mul (.wr .i64 (.c2 .add (.var 76) (.num 1))) (.num 73)))))
              (.ret (.w (.c (.b (.bol false))), ⟨[], [], 6434, 91, []⟩))
              (.back 0 76 [(.wr .i64 (.c2 .add (.var 76) (.num 1))), (.c2 .add (.var 77) xPbBack3), (.ite (.c2 .eq (.c2 .rd (.var 86) (.c2 .mul (.var 76) (.num 73))) (.num 0)) (.bol true) (.var 78)), (.ite (.c2 .eq (.c2 .rd (.var 86) (.c2 .mul (.var 76) (.num 73))) (.num 1)) (.bol true) (.var 79)), (.ite (.c2 .eq (.c2 .rd (.var 86) (.c2 .mul (.var 76) (.num 73))) (.num 2)) (.bol true) (.var 80)), (.ite (.c2 .eq (.c2 .rd (.var 86) (.c2 .mul (.var 76) (.num 73))) (.num 3)) (.bol true) (.var 81)), (.ite (.c2 .eq (.c2 .rd (.var 86) (.c2 .mul (.var 76) (.num 73))) (.num 4)) (.bol true) (.var 82)), (.ite (.c2 .eq (.c2 .rd (.var 86) (.c2 .mul (.var 76) (.num 73))) (.num 5)) (.bol true) (.var 83)), (.ite (.c2 .eq (.c2 .rd (.var 86) (.c2 .mul (.var 76) (.num 73))) (.num 6)) (.bol true) (.var 84)), (.var 85), (.var 86), (.var 87), (.var 88), (.var 89), (.var 90)])))))
             (.back 0 76 [(.wr .i64 (.c2 .add (.var 76) (.num 1))), (.c2 .add (.var 77) xPbBack3), (.ite (.c2 .eq (.c2 .rd (.var 86) (.c2 .mul (.var 76) (.num 73))) (.num 0)) (.bol true) (.var 78)), (.ite (.c2 .eq (.c2 .rd (.var 86) (.c2 .mul (.var 76) (.num 73))) (.num 1)) (.bol true) (.var 79)), (.ite (.c2 .eq (.c2 .rd (.var 86) (.c2 .mul (.var 76) (.num 73))) (.num 2)) (.bol true) (.var 80)), (.ite (.c2 .eq (.c2 .rd (.var 86) (.c2 .mul (.var 76) (.num 73))) (.num 3)) (.bol true) (.var 81)), (.ite (.c2 .eq (.c2 .rd (.var 86) (.c2 .mul (.var 76) (.num 73))) (.num 4)) (.bol true) (.var 82)), (.ite (.c2 .eq (.c2 .rd (.var 86) (.c2 .mul (.var 76) (.num 73))) (.num 5)) (.bol true) (.var 83)), (.ite (.c2 .eq (.c2 .rd (.var 86) (.c2 .mul (.var 76) (.num 73))) (.num 6)) (.bol true) (.var 84)), (.var 85), (.var 86), (.var 87), (.var 88), (.var 89), (.var 90)]))))))))))))
       (.ret (.w (.c (.b (.c2 .eq (.c2 .add (.var 77) (.num 1800)) (.var 87)))), ⟨[], [], 6013, 91, []⟩))))))))))))
   (.ret (.w (.c (.b (.bol false))), ⟨[], [], 6006, 76, []⟩)))))
  (.ret (.w (.c (.b (.bol false))), ⟨[], [], 5806, 76, []⟩)))))))))))))))))
 (.chk (.c2 .le (.num (-9223372036854775808)) (.var 1))
 (.chk (.c2 .le (.var 1) (.num 9223372036854775807))
 (.chk (.c2 .le (.num 0) (.fn 66 (.var 1) (.num 3) .nil))
 (.chk (.c2 .lt (.fn 66 (.var 1) (.num 3) .nil) (.num 3))
 (.chk (.c2 .le (.num (-9223372036854775808)) (.var 2))
 (.chk (.c2 .le (.var 2) (.num 9223372036854775807))
 (.chk (.c2 .le (.num 0) (.fn 66 (.var 2) (.num 3) .nil))
 (.chk (.c2 .lt (.fn 66 (.var 2) (.num 3) .nil) (.num 3))
 (.chk xPbBack1
 (.chk (.c2 .le (.num 1) (.fn 65 xPbBack0 .nil .nil))
 (.chk (.c2 .le (.fn 65 xPbBack0 .nil .nil) (.num 8))
 (.chk (.c2 .eq (.c1 .len (.fn 64 xPbBack0 .nil .nil)) (.c2 .mul (.fn 65 xPbBack0 .nil .nil) (.num 73)))
 (.chk xPbBack2
 (.chk (.c1 (.kin [.u8]) (.var 75))
 (.split (.c2 .eq (.fn 62 (.fn 64 xPbBack0 .nil .nil) (.var 75) .nil) (.num 0))
  (.chk (.c1 (.kin [.u8]) (.fn 63 (.fn 64 xPbBack0 .nil .nil) (.var 75) .nil))
  (.chk (.c2 .le (.c1 .len (.fn 63 (.fn 64 xPbBack0 .nil .nil) (.var 75) .nil)) (.num 140737488351232))
  (.split (.c2 .eq (.fn 51 (.fn 63 (.fn 64 xPbBack0 .nil .nil) (.var 75) .nil) .nil .nil) (.num 0))
   (.chk (.c2 .le (.num 1) (.fn 52 (.fn 63 (.fn 64 xPbBack0 .nil .nil) (.var 75) .nil) .nil .nil))
   (.chk (.c2 .le (.fn 52 (.fn 63 (.fn 64 xPbBack0 .nil .nil) (.var 75) .nil) .nil .nil) (.num 8))
   (.chk (.c2 .eq (.c1 .len (.fn 50 (.fn 63 (.fn 64 xPbBack0 .nil .nil) (.var 75) .nil) .nil .nil)) (.c2 .mul (.fn 52 (.fn 63 (.fn 64 xPbBack0 .nil .nil) (.var 75) .nil) .nil .nil) (.num 73)))
   (.chk (.c1 (.kin [.u8, .u8, .u8, .u8, .u8, .u8, .u8, .u8, .u8, .u8, .u8, .u8, .u8, .u16, .u8, .u16, .u16, .u8, .u8, .u8, .u16, .u8, .u8, .u8, .u8, .u8, .u8, .u8, .u8, .u8, .u32, .u8, .u8, .u8, .u8, .u8, .u8, .u8, .u8, .u8, .u8, .u8, .u8, .u8, .u8, .u8, .u8, .u8, .u8, .u8, .u8, .u8, .u8, .u8, .u8, .u8, .u8, .u8, .u8, .u8, .u8, .u8, .u8, .u8, .u8, .u16, .u16, .u32, .u32, .u8, .u16, .u16, .u16]) (.fn 50 (.fn 63 (.fn 64 xPbBack0 .nil .nil) (.var 75) .nil) .nil .nil))
   (.chk (.c1 (.kin [.u8]) (.fn 53 (.fn 63 (.fn 64 xPbBack0 .nil .nil) (.var 75) .nil) .nil .nil))
   (.chk (.c2 .le (.c1 .len (.fn 53 (.fn 63 (.fn 64 xPbBack0 .nil .nil) (.var 75) .nil) .nil .nil)) (.c1 .len (.fn 63 (.fn 64 xPbBack0 .nil .nil) (.var 75) .nil)))
   (.split (.c1 .not (.c2 .eq (.fn 52 (.fn 63 (.fn 64 xPbBack0 .nil .nil) (.var 75) .nil) .nil .nil) (.fn 65 xPbBack0 .nil .nil)))
    (.ret (.w (.c (.b (.bol false))), ⟨[], [], 6006, 76, []⟩))
    (.split (.c1 .not (.c2 .leq (.fn 53 (.fn 63 (.fn 64 xPbBack0 .nil .nil) (.var 75) .nil) .nil .nil) (.var 75)))
     (.ret (.w (.c (.b (.bol false))), ⟨[], [], 6008, 76, []⟩))
     (.loop 0 76 15 [(.num 0), (.num 0), (.bol false), (.bol false), (.bol false), (.bol false), (.bol false), (.bol false), (.bol false), (.fn 65 xPbBack0 .nil .nil), (.fn 64 xPbBack0 .nil .nil), (.c1 .len (.fn 63 (.fn 64 xPbBack0 .nil .nil) (.var 75) .nil)), (.fn 63 (.fn 64 xPbBack0 .nil .nil) (.var 75) .nil), (.fn 52 (.fn 63 (.fn 64 xPbBack0 .nil .nil) (.var 75) .nil) .nil .nil), (.fn 50 (.fn 63 (.fn 64 xPbBack0 .nil .nil) (.var 75) .nil) .nil .nil)] [((.c2 .le (.num 0) (.var 76)), true), ((.c2 .le (.num 0) (.var 77)), true), ((.c2 .le (.var 77) (.num 400)), true), ((.c2 .le (.num 1) (.var 85)), true), ((.c2 .le (.var 85) (.num 8)), true), ((.c2 .eq (.c1 .len (.var 86)) (.c2 .mul (.var 85) (.num 73))), true), ((.c1 (.kin [.u8, .u8, .u8, .u8, .u8, .u8, .u8, .u8, .u8, .u8, .u8, .u8, .u8, .u16, .u8, .u16, .u16, .u8, .u8, .u8, .u16, .u8, .u8, .u8, .u8, .u8, .u8, .u8, .u8, .u8, .u32, .u8, .u8, .u8, .u8, .u8, .u8, .u8, .u8, .u8, .u8, .u8, .u8, .u8, .u8, .u8, .u8, .u8, .u8, .u8, .u8, .u8, .u8, .u8, .u8, .u8, .u8, .u8, .u8, .u8, .u8, .u8, .u8, .u8, .u8, .u16, .u16, .u32, .u32, .u8, .u16, .u16, .u16]) (.var 86)), true), ((.c2 .le (.num 0) (.var 87)), true), ((.c2 .le (.var 87) (.num 2048)), true), ((.c2 .eq (.c1 .len (.var 88)) (.var 87)), true), ((.c1 (.kin [.u8]) (.var 88)), true), ((.c2 .eq (.var 89) (.var 85)), true), ((.c2 .eq (.c1 .len (.var 90)) (.c2 .mul (.var 89) (.num 73))), true), ((.c1 (.kin [.u8, .u8, .u8, .u8, .u8, .u8, .u8, .u8, .u8, .u8, .u8, .u8, .u8, .u16, .u8, .u16, .u16, .u8, .u8, .u8, .u16, .u8, .u8, .u8, .u8, .u8, .u8, .u8, .u8, .u8, .u32, .u8, .u8, .u8, .u8, .u8, .u8, .u8, .u8, .u8, .u8, .u8, .u8, .u8, .u8, .u8, .u8, .u8, .u8, .u8, .u8, .u8, .u8, .u8, .u8, .u8, .u8, .u8, .u8, .u8, .u8, .u8, .u8, .u8, .u8, .u16, .u16, .u32, .u32, .u8, .u16, .u16, .u16]) (.var 90)), true)]
      (.split (.c2 .lt (.var 76) (.var 85))
       (.chk (.c2 .le (.c2 .add (.c2 .mul (.var 76) (.num 73)) (.num 1)) (.c1 .len (.var 86)))
       (.chk (.c2 .lt (.var 76) (.var 89))
       (.chk (.c2 .le (.c2 .add (.c2 .mul (.var 76) (.num 73)) (.num 73)) (.c1 .len (.var 90)))
       (.chk (.c2 .le (.c2 .add (.c2 .mul (.var 76) (.num 73)) (.num 73)) (.c1 .len (.var 86)))
       (.split (.c1 .not (.c2 .and (.c2 .eq (.c2 .rd (.var 90) (.c2 .mul (.var 76) (.num 73))) (.c2 .rd (.var 86) (.c2 .mul (.var 76) (.num 73)))) (.c2 .and (.c2 .eq (.c2 .rd (.var 90) (.c2 .add (.c2 .mul (.var 76) (.num 73)) (.num 1))) (.c2 .rd (.var 86) (.c2 .add (.c2 .mul (.var 76) (.num 73)) (.num 1)))) (.c2 .and (.c2 .eq (.c2 .rd (.var 90) (.c2 .add (.c2 .mul (.var 76) (.num 73)) (.num 2))) (.c2 .rd (.var 86) (.c2 .add (.c2 .mul (.var 76) (.num 73)) (.num 2)))) (.c2 .and (.c2 .eq (.c2 .rd (.var 90) (.c2 .add (.c2 .mul (.var 76) (.num 73)) (.num 3))) (.c2 .rd (.var 86) (.c2 .add (.c2 .mul (.var 76) (.num 73)) (.num 3)))) (.c2 .and (.c2 .eq (.c2 .rd (.var 90) (.c2 .add (.c2 .mul (.var 76) (.num 73)) (.num 4))) (.c2 .rd (.var 86) (.c2 .add (.c2 .mul (.var 76) (.num 73)) (.num 4)))) (.c2 .and (.c2 .eq (.c2 .rd (.var 90) (.c2 .add (.c2 .mul (.var 76) (.num 73)) (.num 5))) (.c2 .rd (.var 86) (.c2 .add (.c2 .mul (.var 76) (.num 73)) (.num 5)))) (.c2 .and (.c2 .eq (.c2 .rd (.var 90) (.c2 .add (.c2 .mul (.var 76) (.num 73)) (.num 6))) (.c2 .rd (.var 86) (.c2 .add (.c2 .mul (.var 76) (.num 73)) (.num 6)))) (.c2 .and (.c2 .eq (.c2 .rd (.var 90) (.c2 .add (.c2 .mul (.var 76) (.num 73)) (.num 7))) (.c2 .rd (.var 86) (.c2 .add (.c2 .mul (.var 76) (.num 73)) (.num 7)))) (.c2 .and (.c2 .eq (.c2 .rd (.var 90) (.c2 .add (.c2 .mul (.var 76) (.num 73)) (.num 8))) (.c2 .rd (.var 86) (.c2 .add (.c2 .mul (.var 76) (.num 73)) (.num 8)))) (.c2 .and (.c2 .eq (.c2 .rd (.var 90) (.c2 .add (.c2 .mul (.var 76) (.num 73)) (.num 9))) (.c2 .rd (.var 86) (.c2 .add (.c2 .mul (.var 76) (.num 73)) (.num 9)))) (.c2 .and (.c2 .eq (.c2 .rd (.var 90) (.c2 .add (.c2 .mul (.var 76) (.num 73)) (.num 10))) (.c2 .rd (.var 86) (.c2 .add (.c2 .mul (.var 76) (.num 73)) (.num 10)))) (.c2 .and (.c2 .eq (.c2 .rd (.var 90) (.c2 .add (.c2 .mul (.var 76) (.num 73)) (.num 11))) (.c2 .rd (.var 86) (.c2 .add (.c2 .mul (.var 76) (.num 73)) (.num 11)))) (.c2 .and (.c2 .eq (.c2 .rd (.var 90) (.c2 .add (.c2 .mul (.var 76) (.num 73)) (.num 12))) (.c2 .rd (.var 86) (.c2 .add (.c2 .mul (.var 76) (.num 73)) (.num 12)))) (.c2 .and (.c2 .eq (.c2 .rd (.var 90) (.c2 .add (.c2 .mul (.var 76) (.num 73)) (.num 13))) (.c2 .rd (.var 86) (.c2 .add (.c2 .mul (.var 76) (.num 73)) (.num 13)))) (.c2 .and (.c2 .eq (.c2 .rd (.var 90) (.c2 .add (.c2 .mul (.var 76) (.num 73)) (.num 14))) (.c2 .rd (.var 86) (.c2 .add (.c2 .mul (.var 76) (.num 73)) (.num 14)))) (.c2 .and (.c2 .eq (.c2 .rd (.var 90) (.c2 .add (.c2 .mul (.var 76) (.num 73)) (.num 15))) (.c2 .rd (.var 86) (.c2 .add (.c2 .mul (.var 76) (.num 73)) (.num 15)))) (.c2 .and (.c2 .eq (.c2 .rd (.var 90) (.c2 .add (.c2 .mul (.var 76) (.num 73)) (.num 16))) (.c2 .rd (.var 86) (.c2 .add (.c2 .mul (.var 76) (.num 73)) (.num 16)))) (.c2 .and (.c2 .eq (.c2 .rd (.var 90) (.c2 .add (.c2 .mul (.var 76) (.num 73)) (.num 17))) (.c2 .rd (.var 86) (.c2 .add (.c2 .mul (.var 76) (.num 73)) (.num 17)))) (.c2 .and (.c2 .eq (.c2 .rd (.var 90) (.c2 .add (.c2 .mul (.var 76) (.num 73)) (.num 18))) (.c2 .rd (.var 86) (.c2 .add (.c2 .mul (.var 76) (.num 73)) (.num 18)))) (.c2 .and (.c2 .eq (.c2 .rd (.var 90) (.c2 .add (.c2 .mul (.var 76) (.num 73)) (.num 19))) (.c2 .rd (.var 86) (.c2 .add (.c2 .mul (.var 76) (.num 73)) (.num 19)))) (.c2 .and (.c2 .eq (.c2 .rd (.var 90) (.c2 .add (.c2 .mul (.var 76) (.num 73)) (.num 20))) (.c2 .rd (.var 86) (.c2 .add (.c2 .mul (.var 76) (.num 73)) (.num 20)))) (.c2 .and (.c2 .eq (.c2 .rd (.var 90) (.c2 .add (.c2 .mul (.var 76) (.num 73)) (.num 21))) (.c2 .rd (.var 86) (.c2 .add (.c2 .mul (.var 76) (.num 73)) (.num 21)))) (.c2 .and (.c2 .eq (.c2 .rd (.var 90) (.c2 .add (.c2 .mul (.var 76) (.num 73)) (.num 22))) (.c2 .rd (.var 86) (.c2 .add (.c2 .mul (.var 76) (.num 73)) (.num 22)))) (.c2 .and (.c2 .eq (.c2 .rd (.var 90) (.c2 .add (.c2 .mul (.var 76) (.num 73)) (.num 23))) (.c2 .rd (.var 86) (.c2 .add (.c2 .mul (.var 76) (.num 73)) (.num 23)))) (.c2 .and (.c2 .eq (.c2 .rd (.var 90) (.c2 .add (.c2 .mul (.var 76) (.num 73)) (.num 24))) (.c2 .rd (.var 86) (.c2 .add (.c2 .mul (.var 76) (.num 73)) (.num 24)))) (.c2 .and (.c2 .eq (.c2 .rd (.var 90) (.c2 .add (.c2 .mul (.var 76) (.num 73)) (.num 25))) (.c2 .rd (.var 86) (.c2 .add (.c2 .mul (.var 76) (.num 73)) (.num 25)))) (.c2 .and (.c2 .eq (.c2 .rd (.var 90) (.c2 .add (.c2 .mul (.var 76) (.num 73)) (.num 26))) (.c2 .rd (.var 86) (.c2 .add (.c2 .mul (.var 76) (.num 73)) (.num 26)))) (.c2 .and (.c2 .eq (.c2 .rd (.var 90) (.c2 .add (.c2 .mul (.var 76) (.num 73)) (.num 27))) (.c2 .rd (.var 86) (.c2 .add (.c2 .mul (.var 76) (.num 73)) (.num 27)))) (.c2 .and (.c2 .eq (.c2 .rd (.var 90) (.c2 .add (.c2 .mul (.var 76) (.num 73)) (.num 28))) (.c2 .rd (.var 86) (.c2 .add (.c2 .mul (.var 76) (.num 73)) (.num 28)))) (.c2 .and (.c2 .eq (.c2 .rd (.var 90) (.c2 .add (.c2 .mul (.var 76) (.num 73)) (.num 29))) (.c2 .rd (.var 86) (.c2 .add (.c2 .mul (.var 76) (.num 73)) (.num 29)))) (.c2 .and (.c2 .eq (.c2 .rd (.var 90) (.c2 .add (.c2 .mul (.var 76) (.num 73)) (.num 30))) (.c2 .rd (.var 86) (.c2 .add (.c2 .mul (.var 76) (.num 73)) (.num 30)))) (.c2 .and (.c2 .eq (.c2 .rd (.var 90) (.c2 .add (.c2 .mul (.var 76) (.num 73)) (.num 31))) (.c2 .rd (.var 86) (.c2 .add (.c2 .mul (.var 76) (.num 73)) (.num 31)))) (.c2 .and (.c2 .eq (.c2 .rd (.var 90) (.c2 .add (.c2 .mul (.var 76) (.num 73)) (.num 32))) (.c2 .rd (.var 86) (.c2 .add (.c2 .mul (.var 76) (.num 73)) (.num 32)))) (.c2 .and (.c2 .eq (.c2 .rd (.var 90) (.c2 .add (.c2 .mul (.var 76) (.num 73)) (.num 33))) (.c2 .rd (.var 86) (.c2 .add (.c2 .mul (.var 76) (.num 73)) (.num 33)))) (.c2 .and (.c2 .eq (.c2 .rd (.var 90) (.c2 .add (.c2 .mul (.var 76) (.num 73)) (.num 34))) (.c2 .rd (.var 86) (.c2 .add (.c2 .mul (.var 76) (.num 73)) (.num 34)))) (.c2 .and (.c2 .eq (.c2 .rd (.var 90) (.c2 .add (.c2 .mul (.var 76) (.num 73)) (.num 35))) (.c2 .rd (.var 86) (.c2 .add (.c2 .mul (.var 76) (.num 73)) (.num 35)))) (.c2 .and (.c2 .eq (.c2 .rd (.var 90) (.c2 .add (.c2 .mul (.var 76) (.num 73)) (.num 36))) (.c2 .rd (.var 86) (.c2 .add (.c2 .mul (.var 76) (.num 73)) (.num 36)))) (.c2 .and (.c2 .eq (.c2 .rd (.var 90) (.c2 .add (.c2 .mul (.var 76) (.num 73)) (.num 37))) (.c2 .rd (.var 86) (.c2 .add (.c2 .mul (.var 76) (.num 73)) (.num 37)))) (.c2 .and (.c2 .eq (.c2 .rd (.var 90) (.c2 .add (.c2 .mul (.var 76) (.num 73)) (.num 38))) (.c2 .rd (.var 86) (.c2 .add (.c2 .mul (.var 76) (.num 73)) (.num 38)))) (.c2 .and (.c2 .eq (.c2 .rd (.var 90) (.c2 .add (.c2 .mul (.var 76) (.num 73)) (.num 39))) (.c2 .rd (.var 86) (.c2 .add (.c2 .mul (.var 76) (.num 73)) (.num 39)))) (.c2 .and (.c2 .eq (.c2 .rd (.var 90) (.c2 .add (.c2 .mul (.var 76) (.num 73)) (.num 40))) (.c2 .rd (.var 86) (.c2 .add (.c2 .mul (.var 76) (.num 73)) (.num 40)))) (.c2 .and (.c2 .eq (.c2 .rd (.var 90) (.c2 .add (.c2 .mul (.var 76) (.num 73)) (.num 41))) (.c2 .rd (.var 86) (.c2 .add (.c2 .mul (.var 76) (.num 73)) (.num 41)))) (.c2 .and (.c2 .eq (.c2 .rd (.var 90) (.c2 .add (.c2 .mul (.var 76) (.num 73)) (.num 42))) (.c2 .rd (.var 86) (.c2 .add (.c2 .mul (.var 76) (.num 73)) (.num 42)))) (.c2 .and (.c2 .eq (.c2 .rd (.var 90) (.c2 .add (.c2 .mul (.var 76) (.num 73)) (.num 43))) (.c2 .rd (.var 86) (.c2 .add (.c2 .mul (.var 76) (.num 73)) (.num 43)))) (.c2 .and (.c2 .eq (.c2 .rd (.var 90) (.c2 .add (.c2 .mul (.var 76) (.num 73)) (.num 44))) (.c2 .rd (.var 86) (.c2 .add (.c2 .mul (.var 76) (.num 73)) (.num 44)))) (.c2 .and (.c2 .eq (.c2 .rd (.var 90) (.c2 .add (.c2 .mul (.var 76) (.num 73)) (.num 45))) (.c2 .rd (.var 86) (.c2 .add (.c2 .mul (.var 76) (.num 73)) (.num 45)))) (.c2 .and (.c2 .eq (.c2 .rd (.var 90) (.c2 .add (.c2 .mul (.var 76) (.num 73)) (.num 46))) (.c2 .rd (.var 86) (.c2 .add (.c2 .mul (.var 76) (.num 73)) (.num 46)))) (.c2 .and (.c2 .eq (.c2 .rd (.var 90) (.c2 .add (.c2 .mul (.var 76) (.num 73)) (.num 47))) (.c2 .rd (.var 86) (.c2 .add (.c2 .mul (.var 76) (.num 73)) (.num 47)))) (.c2 .and (.c2 .eq (.c2 .rd (.var 90) (.c2 .add (.c2 .mul (.var 76) (.num 73)) (.num 48))) (.c2 .rd (.var 86) (.c2 .add (.c2 .mul (.var 76) (.num 73)) (.num 48)))) (.c2 .and (.c2 .eq (.c2 .rd (.var 90) (.c2 .add (.c2 .mul (.var 76) (.num 73)) (.num 49))) (.c2 .rd (.var 86) (.c2 .add (.c2 .mul (.var 76) (.num 73)) (.num 49)))) (.c2 .and (.c2 .eq (.c2 .rd (.var 90) (.c2 .add (.c2 .mul (.var 76) (.num 73)) (.num 50))) (.c2 .rd (.var 86) (.c2 .add (.c2 .mul (.var 76) (.num 73)) (.num 50)))) (.c2 .and (.c2 .eq (.c2 .rd (.var 90) (.c2 .add (.c2 .mul (.var 76) (.num 73)) (.num 51))) (.c2 .rd (.var 86) (.c2 .add (.c2 .mul (.var 76) (.num 73)) (.num 51)))) (.c2 .and (.c2 .eq (.c2 .rd (.var 90) (.c2 .add (.c2 .mul (.var 76) (.num 73)) (.num 52))) (.c2 .rd (.var 86) (.c2 .add (.c2 .mul (.var 76) (.num 73)) (.num 52)))) (.c2 .and (.c2 .eq (.c2 .rd (.var 90) (.c2 .add (.c2 .mul (.var 76) (.num 73)) (.num 53))) (.c2 .rd (.var 86) (.c2 .add (.c2 .mul (.var 76) (.num 73)) (.num 53)))) (.c2 .and (.c2 .eq (.c2 .rd (.var 90) (.c2 .add (.c2 .mul (.var 76) (.num 73)) (.num 54))) (.c2 .rd (.var 86) (.c2 .add (.c2 .mul (.var 76) (.num 73)) (.num 54)))) (.c2 .and (.c2 .eq (.c2 .rd (.var 90) (.c2 .add (.c2 .mul (.var 76) (.num 73)) (.num 55))) (.c2 .rd (.var 86) (.c2 .add (.c2 .mul (.var 76) (.num 73)) (.num 55)))) (.c2 .and (.c2 .eq (.c2 .rd (.var 90) (.c2 .add (.c2 .mul (.var 76) (.num 73)) (.num 56))) (.c2 .rd (.var 86) (.c2 .add (.c2 .mul (.var 76) (.num 73)) (.num 56)))) (.c2 .and (.c2 .eq (.c2 .rd (.var 90) (.c2 .add (.c2 .mul (.var 76) (.num 73)) (.num 57))) (.c2 .rd (.var 86) (.c2 .add (.c2 .mul (.var 76) (.num 73)) (.num 57)))) (.c2 .and (.c2 .eq (.c2 .rd (.var 90) (.c2 .add (.c2 .mul (.var 76) (.num 73)) (.num 58))) (.c2 .rd (.var 86) (.c2 .add (.c2 .mul (.var 76) (.num 73)) (.num 58)))) (.c2 .and (.c2 .eq (.c2 .rd (.var 90) (.c2 .add (.c2 .mul (.var 76) (.num 73)) (.num 59))) (.c2 .rd (.var 86) (.c2 .add (.c2 .mul (.var 76) (.num 73)) (.num 59)))) (.c2 .and (.c2 .eq (.c2 .rd (.var 90) (.c2 .add (.c2 .mul (.var 76) (.num 73)) (.num 60))) (.c2 .rd (.var 86) (.c2 .add (.c2 .mul (.var 76) (.num 73)) (.num 60)))) (.c2 .and (.c2 .eq (.c2 .rd (.var 90) (.c2 .add (.c2 .mul (.var 76) (.num 73)) (.num 61))) (.c2 .rd (.var 86) (.c2 .add (.c2 .mul (.var 76) (.num 73)) (.num 61)))) (.c2 .and (.c2 .eq (.c2 .rd (.var 90) (.c2 .add (.c2 .mul (.var 76) (.num 73)) (.num 62))) (.c2 .rd (.var 86) (.c2 .add (.c2 .mul (.var 76) (.num 73)) (.num 62)))) (.c2 .and (.c2 .eq (.c2 .rd (.var 90) (.c2 .add (.c2 .mul (.var 76) (.num 73)) (.num 63))) (.c2 .rd (.var 86) (.c2 .add (.c2 .mul (.var 76) (.num 73)) (.num 63)))) (.c2 .and (.c2 .eq (.c2 .rd (.var 90) (.c2 .add (.c2 .mul (.var 76) (.num 73)) (.num 64))) (.c2 .rd (.var 86) (.c2 .add (.c2 .mul (.var 76) (.num 73)) (.num 64)))) (.c2 .and (.c2 .eq (.c2 .rd (.var 90) (.c2 .add (.c2 .mul (.var 76) (.num 73)) (.num 65))) (.c2 .rd (.var 86) (.c2 .add (.c2 .mul (.var 76) (.num 73)) (.num 65)))) (.c2 .and (.c2 .eq (.c2 .rd (.var 90) (.c2 .add (.c2 .mul (.var 76) (.num 73)) (.num 66))) (.c2 .rd (.var 86) (.c2 .add (.c2 .mul (.var 76) (.num 73)) (.num 66)))) (.c2 .and (.c2 .eq (.c2 .rd (.var 90) (.c2 .add (.c2 .mul (.var 76) (.num 73)) (.num 67))) (.c2 .rd (.var 86) (.c2 .add (.c2 .mul (.var 76) (.num 73)) (.num 67)))) (.c2 .and (.c2 .eq (.c2 .rd (.var 90) (.c2 .add (.c2 .mul (.var 76) (.num 73)) (.num 68))) (.c2 .rd (.var 86) (.c2 .add (.c2 .mul (.var 76) (.num 73)) (.num 68)))) (.c2 .and (.c2 .eq (.c2 .rd (.var 90) (.c2 .add (.c2 .mul (.var 76) (.num 73)) (.num 69))) (.c2 .rd (.var 86) (.c2 .add (.c2 .mul (.var 76) (.num 73)) (.num 69)))) (.c2 .and (.c2 .eq (.c2 .rd (.var 90) (.c2 .add (.c2 .mul (.var 76) (.num 73)) (.num 70))) (.c2 .rd (.var 86) (.c2 .add (.c2 .mul (.var 76) (.num 73)) (.num 70)))) (.c2 .and (.c2 .eq (.c2 .rd (.var 90) (.c2 .add (.c2 .mul (.var 76) (.num 73)) (.num 71))) (.c2 .rd (.var 86) (.c2 .add (.c2 .mul (.var 76) (.num 73)) (.num 71)))) (.c2 .eq (.c2 .rd (.var 90) (.c2 .add (.c2 .mul (.var 76) (.num 73)) (.num 72))) (.c2 .rd (.var 86) (.c2 .add (.c2 .mul (.var 76) (.num 73)) (.num 72)))))))))))))))))))))))))))))))))))))))))))))))))))))))))))))))))))))))))))))
        (.ret (.w (.c (.b (.bol false))), ⟨[], [], 6414, 91, []⟩))
        (.split (.c1 .not (.c2 .eq (.fn 57 (.var 88) (.c2 .rd (.var 86) (.c2 .mul (.var 76) (.num 73))) .nil) (.num 0)))
         (.ret (.w (.c (.b (.bol false))), ⟨[], [], 6414, 91, []⟩))
         (.split (.c1 .not (.fn 56 (.var 88) (.c2 .rd (.var 86) (.c2 .mul (.var 76) (.num 73))) .nil))
          (.ret (.w (.c (.b (.bol false))), ⟨[], [], 6414, 91, []⟩))
          (.chk (.c2 .lt (.c2 .rd (.var 86) (.c2 .mul (.var 76) (.num 73))) (.num 7))
          (.split (.c1 .not (.ite (.c2 .eq (.c2 .rd (.var 86) (.c2 .mul (.var 76) (.num 73))) (.num 0)) (.var 78) (.ite (.c2 .eq (.c2 .rd (.var 86) (.c2 .mul (.var 76) (.num 73))) (.num 1)) (.var 79) (.ite (.c2 .eq (.c2 .rd (.var 86) (.c2 .mul (.var 76) (.num 73))) (.num 2)) (.var 80) (.ite (.c2 .eq (.c2 .rd (.var 86) (.c2 .mul (.var 76) (.num 73))) (.num 3)) (.var 81) (.ite (.c2 .eq (.c2 .rd (.var 86) (.c2 .mul (.var 76) (.num 73))) (.num 4)) (.var 82) (.ite (.c2 .eq (.c2 .rd (.var 86) (.c2 .mul (.var 76) (.num 73))) (.num 5)) (.var 83) (.ite (.c2 .eq (.c2 .rd (.var 86) (.c2 .mul (.var 76) (.num 73))) (.num 6)) (.var 84) (.bol false)))))))))
           (.split (.c1 .not (.c2 .and (.c2 .eq (.fn 55 (.var 88) (.c2 .rd (.var 86) (.c2 .mul (.var 76) (.num 73))) .nil) (.var 77)) (.c2 .eq (.fn 58 (.var 88) (.c2 .rd (.var 86) (.c2 .mul (.var 76) (.num 73))) .nil) xPbBack3)))
            (.ret (.w (.c (.b (.bol false))), ⟨[], [], 6414, 91, []⟩))
            (.split (.c1 .not (.c2 .beq (.c1 .not (.c2 .eq xPbBack4 (.num 0))) (.c2 .lt (.wr .i64 (.c2 .add (.var 76) (.num 1))) (.var 85))))
             (.ret (.w (.c (.b (.bol false))), ⟨[], [], 6434, 91, []⟩))
             (.split (.c1 .not (.c2 .eq xPbBack4 (.num 0)))
              (.chk (.c2 .le (.num 0) (.wr .i64 (.c2 .add (.var 76) (.num 1))))
              (.chk (.c2 .lt (.wr .i64 (.c2 .add (.var 76) (.num 1))) (.var 85))
              (.chk (.c2 .le (.c2 .add (.c2 .mul (.wr .i64 (.c2 .add (.var 76) (.num 1))) (.num 73)) (.num 1)) (.c1 .len (.var 86)))
              (.split (.c1 .not (.c2 .eq xPbBack4 (.c2 .rd (.var 86) (.c2 .mul (.wr .i64 (.c2 .add (.var 76) (.num 1))) (.num 73)))))
               (.ret (.w (.c (.b (.bol false))), ⟨[], [], 6434, 91, []⟩))
               (.back 0 76 [(.wr .i64 (.c2 .add (.var 76) (.num 1))), (.c2 .add (.var 77) xPbBack3), (.ite (.c2 .eq (.c2 .rd (.var 86) (.c2 .mul (.var 76) (.num 73))) (.num 0)) (.bol true) (.var 78)), (.ite (.c2 .eq (.c2 .rd (.var 86) (.c2 .mul (.var 76) (.num 73))) (.num 1)) (.bol true) (.var 79)), (.ite (.c2 .eq (.c2 .rd (.var 86) (.c2 .mul (.var 76) (.num 73))) (.num 2)) (.bol true) (.var 80)), (.ite (.c2 .eq (.c2 .rd (.var 86) (.c2 .mul (.var 76) (.num 73))) (.num 3)) (.bol true) (.var 81)), (.ite (.c2 .eq (.c2 .rd (.var 86) (.c2 .mul (.var 76) (.num 73))) (.num 4)) (.bol true) (.var 82)), (.ite (.c2 .eq (.c2 .rd (.var 86) (.c2 .mul (.var 76) (.num 73))) (.num 5)) (.bol true) (.var 83)), (.ite (.c2 .eq (.c2 .rd (.var 86) (.c2 .mul (.var 76) (.num 73))) (.num 6)) (.bol true) (.var 84)), (.var 85), (.var 86), (.var 87), (.var 88), (.var 89), (.var 90)])))))
              (.back 0 76 [(.wr .i64 (.c2 .add (.var 76) (.num 1))), (.c2 .add (.var 77) xPbBack3), (.ite (.c2 .eq (.c2 .rd (.var 86) (.c2 .mul (.var 76) (.num 73))) (.num 0)) (.bol true) (.var 78)), (.ite (.c2 .eq (.c2 .rd (.var 86) (.c2 .mul (.var 76) (.num 73))) (.num 1)) (.bol true) (.var 79)), (.ite (.c2 .eq (.c2 .rd (.var 86) (.c2 .mul (.var 76) (.num 73))) (.num 2)) (.bol true) (.var 80)), (.ite (.c2 .eq (.c2 .rd (.var 86) (.c2 .mul (.var 76) (.num 73))) (.num 3)) (.bol true) (.var 81)), (.ite (.c2 .eq (.c2 .rd (.var 86) (.c2 .mul (.var 76) (.num 73))) (.num 4)) (.bol true) (.var 82)), (.ite (.c2 .eq (.c2 .rd (.var 86) (.c2 .mul (.var 76) (.num 73))) (.num 5)) (.bol true) (.var 83)), (.ite (.c2 .eq (.c2 .rd (.var 86) (.c2 .mul (.var 76) (.num 73))) (.num 6)) (.bol true) (.var 84)), (.var 85), (.var 86), (.var 87), (.var 88), (.var 89), (.var 90)]))))
           (.split (.c1 .not (.c2 .beq (.c1 .not (.c2 .eq xPbBack4 (.num 0))) (.c2 .lt (.wr .i64 (.c2 .add (.var 76) (.num 1))) (.var 85))))
            (.ret (.w (.c (.b (.bol false))), ⟨[], [], 6434, 91, []⟩))
            (.split (.c1 .not (.c2 .eq xPbBack4 (.num 0)))
             (.chk (.c2 .le (.num 0) (.wr .i64 (.c2 .add (.var 76) (.num 1))))
             (.chk (.c2 .lt (.wr .i64 (.c2 .add (.var 76) (.num 1))) (.var 85))
             (.chk (.c2 .le (.c2 .add (.c2 .mul (.wr .i64 (.c2 .add (.var 76) (.num 1))) (.num 73)) (.num 1)) (.c1 .len (.var 86)))
             (.split (.c1 .not (.c2 .eq xPbBack4 (.c2 .rd (.var 86) (.c2 .mul (.wr .i64 (.c2 .add (.var 76) (.num 1))) (.num 73)))))
              (.ret (.w (.c (.b (.bol false))), ⟨[], [], 6434, 91, []⟩))
              (.back 0 76 [(.wr .i64 (.c2 .add (.var 76) (.num 1))), (.c2 .add (.var 77) xPbBack3), (.ite (.c2 .eq (.c2 .rd (.var 86) (.c2 .mul (.var 76) (.num 73))) (.num 0)) (.bol true) (.var 78)), (.ite (.c2 .eq (.c2 .rd (.var 86) (.c2 .mul (.var 76) (.num 73))) (.num 1)) (.bol true) (.var 79)), (.ite (.c2 .eq (.c2 .rd (.var 86) (.c2 .mul (.var 76) (.num 73))) (.num 2)) (.bol true) (.var 80)), (.ite (.c2 .eq (.c2 .rd (.var 86) (.c2 .mul (.var 76) (.num 73))) (.num 3)) (.bol true) (.var 81)), (.ite (.c2 .eq (.c2 .rd (.var 86) (.c2 .mul (.var 76) (.num 73))) (.num 4)) (.bol true) (.var 82)), (.ite (.c2 .eq (.c2 .rd (.var 86) (.c2 .mul (.var 76) (.num 73))) (.num 5)) (.bol true) (.var 83)), (.ite (.c2 .eq (.c2 .rd (.var 86) (.c2 .mul (.var 76) (.num 73))) (.num 6)) (.bol true) (.var 84)), (.var 85), (.var 86), (.var 87), (.var 88), (.var 89), (.var 90)])))))
             (.back 0 76 [(.wr .i64 (.c2 .add (.var 76) (.num 1))), (.c2 .add (.var 77) xPbBack3), (.ite (.c2 .eq (.c2 .rd (.var 86) (.c2 .mul (.var 76) (.num 73))) (.num 0)) (.bol true) (.var 78)), (.ite (.c2 .eq (.c2 .rd (.var 86) (.c2 .mul (.var 76) (.num 73))) (.num 1)) (.bol true) (.var 79)), (.ite (.c2 .eq (.c2 .rd (.var 86) (.c2 .mul (.var 76) (.num 73))) (.num 2)) (.bol true) (.var 80)), (.ite (.c2 .eq (.c2 .rd (.var 86) (.c2 .mul (.var 76) (.num 73))) (.num 3)) (.bol true) (.var 81)), (.ite (.c2 .eq (.c2 .rd (.var 86) (.c2 .mul (.var 76) (.num 73))) (.num 4)) (.bol true) (.var 82)), (.ite (.c2 .eq (.c2 .rd (.var 86) (.c2 .mul (.var 76) (.num 73))) (.num 5)) (.bol true) (.var 83)), (.ite (.c2 .eq (.c2 .rd (.var 86) (.c2 .mul (.var 76) (.num 73))) (.num 6)) (.bol true) (.var 84)), (.var 85), (.var 86), (.var 87), (.var 88), (.var 89), (.var 90)]))))))))))))
       (.ret (.w (.c (.b (.c2 .eq (.c2 .add (.var 77) (.c1 .len (.var 75))) (.var 87)))), ⟨[], [], 6013, 91, []⟩))))))))))))
   (.ret (.w (.c (.b (.bol false))), ⟨[], [], 6006, 76, []⟩)))))
  (.ret (.w (.c (.b (.bol false))), ⟨[], [], 5806, 76, []⟩))))))))))))))))))
theorem treePbBack_is : funTree (ctxN Go.Proofs.Try.prog annsPb consBk 8) annsPb 5 tBack.vs tBack.bs tBack.n (preF tBack.res) = treePbBack := by kernel_rfl
end Go.Proofs.Ytbiodlomlendkaa.Sx
