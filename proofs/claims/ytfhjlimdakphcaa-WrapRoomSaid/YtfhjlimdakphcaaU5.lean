/- Sx: texts of this claim put together: TWuPush, TWoPop, TWdLink, HdWLink, TWdTag, HdWTag, TWdNet4, HdWNet4, TWdNet6, HdWNet6, TWdSeg, HdWSeg, TWdDgram, HdWDgram, WrK, TPkThere, TPkNew, TPkOff, TPkOn, PkK, TPbBring, BrK, RmA, RmM, WlM. Conditions: none. -/
import Derived.Test.YtfhjlimdakphcaaU4
import Derived.Test.YtfhjlimdakphcaaProg
import Derived.KernelRfl
/- Sx: what Go function 12 does, as a tree of conditions (printed by a tool of this claim, proved by the kernel). Conditions: none. -/
set_option maxRecDepth 100000
namespace Go.Proofs.Ytfhjlimdakphcaa.Sx
open Go
def xWuPush0 : T := (.c2 .and (.c2 .eq (.num 0) (.var 65)) (.c2 .and (.c2 .eq (.num 0) (.var 66)) (.c2 .and (.c2 .eq (.num 0) (.var 67)) (.c2 .and (.c2 .eq (.num 0) (.var 68)) (.c2 .and (.c2 .eq (.num 0) (.var 69)) (.c2 .and (.c2 .eq (.num 0) (.var 70)) (.c2 .and (.c2 .eq (.num 0) (.var 71)) (.c2 .eq (.num 0) (.var 72)))))))))
def xWuPush1 : T := (.c2 .and (.c2 .eq (.num 0) (.var 29)) (.c2 .and (.c2 .eq (.num 0) (.var 30)) (.c2 .and (.c2 .eq (.num 0) (.var 31)) (.c2 .and (.c2 .eq (.num 0) (.var 32)) (.c2 .and (.c2 .eq (.num 0) (.var 33)) (.c2 .and (.c2 .eq (.num 0) (.var 34)) (.c2 .and (.c2 .eq (.num 0) (.var 35)) (.c2 .and (.c2 .eq (.num 0) (.var 36)) (.c2 .and (.c2 .eq (.num 0) (.var 37)) (.c2 .and (.c2 .eq (.num 0) (.var 38)) (.c2 .and (.c2 .eq (.num 0) (.var 39)) (.c2 .and (.c2 .eq (.num 0) (.var 40)) (.c2 .and (.c2 .eq (.num 0) (.var 41)) (.c2 .and (.c2 .eq (.num 0) (.var 42)) (.c2 .and (.c2 .eq (.num 0) (.var 43)) (.c2 .and (.c2 .eq (.num 0) (.var 44)) (.c2 .and (.c2 .eq (.num 0) (.var 45)) (.c2 .and (.c2 .eq (.num 0) (.var 46)) (.c2 .and (.c2 .eq (.num 0) (.var 47)) (.c2 .and (.c2 .eq (.num 0) (.var 48)) (.c2 .and (.c2 .eq (.num 0) (.var 49)) (.c2 .and (.c2 .eq (.num 0) (.var 50)) (.c2 .and (.c2 .eq (.num 0) (.var 51)) (.c2 .and (.c2 .eq (.num 0) (.var 52)) (.c2 .and (.c2 .eq (.num 0) (.var 53)) (.c2 .and (.c2 .eq (.num 0) (.var 54)) (.c2 .and (.c2 .eq (.num 0) (.var 55)) (.c2 .and (.c2 .eq (.num 0) (.var 56)) (.c2 .and (.c2 .eq (.num 0) (.var 57)) (.c2 .and (.c2 .eq (.num 0) (.var 58)) (.c2 .and (.c2 .eq (.num 0) (.var 59)) (.c2 .and (.c2 .eq (.num 0) (.var 60)) (.c2 .and (.c2 .eq (.num 0) (.var 61)) (.c2 .and (.c2 .eq (.num 0) (.var 62)) (.c2 .and (.c2 .eq (.num 0) (.var 63)) (.c2 .and (.c2 .eq (.num 0) (.var 64)) xWuPush0))))))))))))))))))))))))))))))))))))
def xWuPush2 : T := (.c2 .and (.c2 .eq (.num 0) (.var 17)) (.c2 .and (.c2 .eq (.num 0) (.var 18)) (.c2 .and (.c2 .eq (.num 0) (.var 19)) (.c2 .and (.c2 .eq (.num 0) (.var 20)) (.c2 .and (.c2 .eq (.num 0) (.var 21)) (.c2 .and (.c2 .eq (.num 0) (.var 22)) (.c2 .and (.c2 .eq (.num 0) (.var 23)) (.c2 .and (.c2 .eq (.num 0) (.var 24)) (.c2 .and (.c2 .eq (.num 0) (.var 25)) (.c2 .and (.c2 .eq (.num 0) (.var 26)) (.c2 .and (.c2 .eq (.num 0) (.var 27)) (.c2 .and (.c2 .eq (.num 0) (.var 28)) xWuPush1))))))))))))
def xWuPush3 : T := (.cons (.var 1) (.cons (.var 2) (.cons (.var 3) (.cons (.var 4) (.cons (.var 5) (.cons (.var 6) (.cons (.var 7) (.cons (.var 8) (.cons (.var 9) (.cons (.var 10) (.cons (.var 11) (.cons (.var 12) (.cons (.var 13) .nil)))))))))))))
def xWuPush4 : T := (.cons (.var 17) (.cons (.var 18) (.cons (.var 19) (.cons (.var 20) (.cons (.var 21) (.cons (.var 22) (.cons (.var 23) (.cons (.var 24) (.cons (.var 25) (.cons (.var 26) (.cons (.var 27) (.cons (.var 28) .nil))))))))))))
def xWuPush5 : T := (.cons (.var 29) (.cons (.var 30) (.cons (.var 31) (.cons (.var 32) (.cons (.var 33) (.cons (.var 34) (.cons (.var 35) (.cons (.var 36) (.cons (.var 37) (.cons (.var 38) (.cons (.var 39) (.cons (.var 40) (.cons (.var 41) (.cons (.var 42) (.cons (.var 43) (.cons (.var 44) (.cons (.var 45) (.cons (.var 46) (.cons (.var 47) (.cons (.var 48) (.cons (.var 49) (.cons (.var 50) (.cons (.var 51) (.cons (.var 52) (.cons (.var 53) (.cons (.var 54) (.cons (.var 55) (.cons (.var 56) (.cons (.var 57) (.cons (.var 58) (.cons (.var 59) (.cons (.var 60) (.cons (.var 61) (.cons (.var 62) (.cons (.var 63) (.cons (.var 64) .nil))))))))))))))))))))))))))))))))))))
def treeWuPush : M (V × St) :=
(.split (.c2 .lt (.var 0) (.num 1))
 (.ret (.t [.c (.sn), .c (.i .i64 (.num 120))], ⟨[], [], 7, 74, []⟩))
 (.split (.c2 .lt (.num 6) (.var 0))
  (.ret (.t [.c (.sn), .c (.i .i64 (.num 120))], ⟨[], [], 7, 74, []⟩))
  (.split (.c2 .eq (.var 0) (.num 1))
   (.split (.c1 .not (.c2 .and (.c2 .eq (.num 0) (.var 14)) (.c2 .and (.c2 .eq (.num 0) (.var 15)) (.c2 .and (.c2 .eq (.num 0) (.var 16)) xWuPush2))))
    (.ret (.t [.c (.sn), .c (.i .i64 (.num 120))], ⟨[], [], 11, 74, []⟩))
    (.chk (.c2 .le (.num 0) (.var 1))
    (.chk (.c2 .le (.var 1) (.num 255))
    (.chk (.c2 .le (.num 0) (.var 2))
    (.chk (.c2 .le (.var 2) (.num 255))
    (.chk (.c2 .le (.num 0) (.var 3))
    (.chk (.c2 .le (.var 3) (.num 255))
    (.chk (.c2 .le (.num 0) (.var 4))
    (.chk (.c2 .le (.var 4) (.num 255))
    (.chk (.c2 .le (.num 0) (.var 5))
    (.chk (.c2 .le (.var 5) (.num 255))
    (.chk (.c2 .le (.num 0) (.var 6))
    (.chk (.c2 .le (.var 6) (.num 255))
    (.chk (.c2 .le (.num 0) (.var 7))
    (.chk (.c2 .le (.var 7) (.num 255))
    (.chk (.c2 .le (.num 0) (.var 8))
    (.chk (.c2 .le (.var 8) (.num 255))
    (.chk (.c2 .le (.num 0) (.var 9))
    (.chk (.c2 .le (.var 9) (.num 255))
    (.chk (.c2 .le (.num 0) (.var 10))
    (.chk (.c2 .le (.var 10) (.num 255))
    (.chk (.c2 .le (.num 0) (.var 11))
    (.chk (.c2 .le (.var 11) (.num 255))
    (.chk (.c2 .le (.num 0) (.var 12))
    (.chk (.c2 .le (.var 12) (.num 255))
    (.chk (.c2 .le (.num 0) (.var 13))
    (.chk (.c2 .le (.var 13) (.num 65535))
    (.split (.c2 .eq (.fn 41 xWuPush3 (.var 73) .nil) (.num 0))
     (.chk (.c1 (.kin [.u8]) (.fn 31 xWuPush3 (.var 73) .nil))
     (.chk (.c2 .eq (.c1 .len (.fn 31 xWuPush3 (.var 73) .nil)) (.num 14))
     (.ret (.t [.c (.s 74 1 0 (.num 0) (.c2 .add (.num 14) (.c1 .len (.var 73)))), .c (.i .i64 (.num 0))], ⟨[], [(74, some ⟨true, .row [.u8] (.c2 .app (.c2 .take (.num 14) (.fn 31 xWuPush3 (.var 73) .nil)) (.var 73))⟩)], 75, 74, []⟩))))
     (.ret (.t [.c (.sn), .c (.i .i64 (.fn 41 xWuPush3 (.var 73) .nil))], ⟨[], [], 74, 74, []⟩))))))))))))))))))))))))))))))
   (.split (.c2 .eq (.var 0) (.num 2))
    (.split (.c1 .not (.c2 .and (.c2 .eq (.num 0) (.var 1)) (.c2 .and (.c2 .eq (.num 0) (.var 2)) (.c2 .and (.c2 .eq (.num 0) (.var 3)) (.c2 .and (.c2 .eq (.num 0) (.var 4)) (.c2 .and (.c2 .eq (.num 0) (.var 5)) (.c2 .and (.c2 .eq (.num 0) (.var 6)) (.c2 .and (.c2 .eq (.num 0) (.var 7)) (.c2 .and (.c2 .eq (.num 0) (.var 8)) (.c2 .and (.c2 .eq (.num 0) (.var 9)) (.c2 .and (.c2 .eq (.num 0) (.var 10)) (.c2 .and (.c2 .eq (.num 0) (.var 11)) (.c2 .and (.c2 .eq (.num 0) (.var 12)) (.c2 .and (.c2 .eq (.num 0) (.var 13)) xWuPush2))))))))))))))
     (.ret (.t [.c (.sn), .c (.i .i64 (.num 120))], ⟨[], [], 11, 74, []⟩))
     (.split (.c2 .lt (.num 7) (.var 14))
      (.ret (.t [.c (.sn), .c (.i .i64 (.num 60))], ⟨[], [], 13, 74, []⟩))
      (.split (.c2 .lt (.num 4095) (.var 15))
       (.ret (.t [.c (.sn), .c (.i .i64 (.num 60))], ⟨[], [], 13, 74, []⟩))
       (.chk (.c2 .le (.num 0) (.var 14))
       (.chk (.c2 .le (.num 0) (.var 15))
       (.chk (.c2 .le (.num 0) (.var 16))
       (.chk (.c2 .le (.var 16) (.num 65535))
       (.split (.c2 .eq (.fn 42 (.cons (.var 14) (.cons (.var 15) (.cons (.var 16) .nil))) (.var 73) .nil) (.num 0))
        (.chk (.c1 (.kin [.u8]) (.fn 32 (.cons (.var 14) (.cons (.var 15) (.cons (.var 16) .nil))) (.var 73) .nil))
        (.chk (.c2 .eq (.c1 .len (.fn 32 (.cons (.var 14) (.cons (.var 15) (.cons (.var 16) .nil))) (.var 73) .nil)) (.num 4))
        (.ret (.t [.c (.s 74 1 0 (.num 0) (.c2 .add (.num 4) (.c1 .len (.var 73)))), .c (.i .i64 (.num 0))], ⟨[], [(74, some ⟨true, .row [.u8] (.c2 .app (.c2 .take (.num 4) (.fn 32 (.cons (.var 14) (.cons (.var 15) (.cons (.var 16) .nil))) (.var 73) .nil)) (.var 73))⟩)], 75, 74, []⟩))))
        (.ret (.t [.c (.sn), .c (.i .i64 (.fn 42 (.cons (.var 14) (.cons (.var 15) (.cons (.var 16) .nil))) (.var 73) .nil))], ⟨[], [], 74, 74, []⟩))))))))))
    (.split (.c2 .eq (.var 0) (.num 3))
     (.split (.c1 .not (.c2 .and (.c2 .eq (.num 0) (.var 1)) (.c2 .and (.c2 .eq (.num 0) (.var 2)) (.c2 .and (.c2 .eq (.num 0) (.var 3)) (.c2 .and (.c2 .eq (.num 0) (.var 4)) (.c2 .and (.c2 .eq (.num 0) (.var 5)) (.c2 .and (.c2 .eq (.num 0) (.var 6)) (.c2 .and (.c2 .eq (.num 0) (.var 7)) (.c2 .and (.c2 .eq (.num 0) (.var 8)) (.c2 .and (.c2 .eq (.num 0) (.var 9)) (.c2 .and (.c2 .eq (.num 0) (.var 10)) (.c2 .and (.c2 .eq (.num 0) (.var 11)) (.c2 .and (.c2 .eq (.num 0) (.var 12)) (.c2 .and (.c2 .eq (.num 0) (.var 13)) (.c2 .and (.c2 .eq (.num 0) (.var 14)) (.c2 .and (.c2 .eq (.num 0) (.var 15)) (.c2 .and (.c2 .eq (.num 0) (.var 16)) xWuPush1)))))))))))))))))
      (.ret (.t [.c (.sn), .c (.i .i64 (.num 120))], ⟨[], [], 11, 74, []⟩))
      (.chk (.c2 .le (.num 0) (.var 17))
      (.chk (.c2 .le (.var 17) (.num 255))
      (.chk (.c2 .le (.num 0) (.var 18))
      (.chk (.c2 .le (.var 18) (.num 255))
      (.chk (.c2 .le (.num 0) (.var 19))
      (.chk (.c2 .le (.var 19) (.num 255))
      (.chk (.c2 .le (.num 0) (.var 20))
      (.chk (.c2 .le (.var 20) (.num 65535))
      (.chk (.c2 .le (.num 0) (.var 21))
      (.chk (.c2 .le (.var 21) (.num 255))
      (.chk (.c2 .le (.num 0) (.var 22))
      (.chk (.c2 .le (.var 22) (.num 255))
      (.chk (.c2 .le (.num 0) (.var 23))
      (.chk (.c2 .le (.var 23) (.num 255))
      (.chk (.c2 .le (.num 0) (.var 24))
      (.chk (.c2 .le (.var 24) (.num 255))
      (.chk (.c2 .le (.num 0) (.var 25))
      (.chk (.c2 .le (.var 25) (.num 255))
      (.chk (.c2 .le (.num 0) (.var 26))
      (.chk (.c2 .le (.var 26) (.num 255))
      (.chk (.c2 .le (.num 0) (.var 27))
      (.chk (.c2 .le (.var 27) (.num 255))
      (.chk (.c2 .le (.num 0) (.var 28))
      (.chk (.c2 .le (.var 28) (.num 255))
      (.split (.c2 .eq (.fn 43 xWuPush4 (.var 73) .nil) (.num 0))
       (.chk (.c1 (.kin [.u8]) (.fn 33 xWuPush4 (.var 73) .nil))
       (.chk (.c2 .eq (.c1 .len (.fn 33 xWuPush4 (.var 73) .nil)) (.num 20))
       (.ret (.t [.c (.s 74 1 0 (.num 0) (.c2 .add (.num 20) (.c1 .len (.var 73)))), .c (.i .i64 (.num 0))], ⟨[], [(74, some ⟨true, .row [.u8] (.c2 .app (.c2 .take (.num 20) (.fn 33 xWuPush4 (.var 73) .nil)) (.var 73))⟩)], 75, 74, []⟩))))
       (.ret (.t [.c (.sn), .c (.i .i64 (.fn 43 xWuPush4 (.var 73) .nil))], ⟨[], [], 74, 74, []⟩))))))))))))))))))))))))))))
     (.split (.c2 .eq (.var 0) (.num 4))
      (.split (.c1 .not (.c2 .and (.c2 .eq (.num 0) (.var 1)) (.c2 .and (.c2 .eq (.num 0) (.var 2)) (.c2 .and (.c2 .eq (.num 0) (.var 3)) (.c2 .and (.c2 .eq (.num 0) (.var 4)) (.c2 .and (.c2 .eq (.num 0) (.var 5)) (.c2 .and (.c2 .eq (.num 0) (.var 6)) (.c2 .and (.c2 .eq (.num 0) (.var 7)) (.c2 .and (.c2 .eq (.num 0) (.var 8)) (.c2 .and (.c2 .eq (.num 0) (.var 9)) (.c2 .and (.c2 .eq (.num 0) (.var 10)) (.c2 .and (.c2 .eq (.num 0) (.var 11)) (.c2 .and (.c2 .eq (.num 0) (.var 12)) (.c2 .and (.c2 .eq (.num 0) (.var 13)) (.c2 .and (.c2 .eq (.num 0) (.var 14)) (.c2 .and (.c2 .eq (.num 0) (.var 15)) (.c2 .and (.c2 .eq (.num 0) (.var 16)) (.c2 .and (.c2 .eq (.num 0) (.var 17)) (.c2 .and (.c2 .eq (.num 0) (.var 18)) (.c2 .and (.c2 .eq (.num 0) (.var 19)) (.c2 .and (.c2 .eq (.num 0) (.var 20)) (.c2 .and (.c2 .eq (.num 0) (.var 21)) (.c2 .and (.c2 .eq (.num 0) (.var 22)) (.c2 .and (.c2 .eq (.num 0) (.var 23)) (.c2 .and (.c2 .eq (.num 0) (.var 24)) (.c2 .and (.c2 .eq (.num 0) (.var 25)) (.c2 .and (.c2 .eq (.num 0) (.var 26)) (.c2 .and (.c2 .eq (.num 0) (.var 27)) (.c2 .and (.c2 .eq (.num 0) (.var 28)) xWuPush0)))))))))))))))))))))))))))))
       (.ret (.t [.c (.sn), .c (.i .i64 (.num 120))], ⟨[], [], 11, 74, []⟩))
       (.split (.c2 .le (.num 1048576) (.var 30))
        (.ret (.t [.c (.sn), .c (.i .i64 (.num 80))], ⟨[], [], 13, 74, []⟩))
        (.chk (.c2 .le (.num 0) (.var 29))
        (.chk (.c2 .le (.var 29) (.num 255))
        (.chk (.c2 .le (.num 0) (.var 30))
        (.chk (.c2 .le (.num 0) (.var 31))
        (.chk (.c2 .le (.var 31) (.num 255))
        (.chk (.c2 .le (.num 0) (.var 32))
        (.chk (.c2 .le (.var 32) (.num 255))
        (.chk (.c2 .le (.num 0) (.var 33))
        (.chk (.c2 .le (.var 33) (.num 255))
        (.chk (.c2 .le (.num 0) (.var 34))
        (.chk (.c2 .le (.var 34) (.num 255))
        (.chk (.c2 .le (.num 0) (.var 35))
        (.chk (.c2 .le (.var 35) (.num 255))
        (.chk (.c2 .le (.num 0) (.var 36))
        (.chk (.c2 .le (.var 36) (.num 255))
        (.chk (.c2 .le (.num 0) (.var 37))
        (.chk (.c2 .le (.var 37) (.num 255))
        (.chk (.c2 .le (.num 0) (.var 38))
        (.chk (.c2 .le (.var 38) (.num 255))
        (.chk (.c2 .le (.num 0) (.var 39))
        (.chk (.c2 .le (.var 39) (.num 255))
        (.chk (.c2 .le (.num 0) (.var 40))
        (.chk (.c2 .le (.var 40) (.num 255))
        (.chk (.c2 .le (.num 0) (.var 41))
        (.chk (.c2 .le (.var 41) (.num 255))
        (.chk (.c2 .le (.num 0) (.var 42))
        (.chk (.c2 .le (.var 42) (.num 255))
        (.chk (.c2 .le (.num 0) (.var 43))
        (.chk (.c2 .le (.var 43) (.num 255))
        (.chk (.c2 .le (.num 0) (.var 44))
        (.chk (.c2 .le (.var 44) (.num 255))
        (.chk (.c2 .le (.num 0) (.var 45))
        (.chk (.c2 .le (.var 45) (.num 255))
        (.chk (.c2 .le (.num 0) (.var 46))
        (.chk (.c2 .le (.var 46) (.num 255))
        (.chk (.c2 .le (.num 0) (.var 47))
        (.chk (.c2 .le (.var 47) (.num 255))
        (.chk (.c2 .le (.num 0) (.var 48))
        (.chk (.c2 .le (.var 48) (.num 255))
        (.chk (.c2 .le (.num 0) (.var 49))
        (.chk (.c2 .le (.var 49) (.num 255))
        (.chk (.c2 .le (.num 0) (.var 50))
        (.chk (.c2 .le (.var 50) (.num 255))
        (.chk (.c2 .le (.num 0) (.var 51))
        (.chk (.c2 .le (.var 51) (.num 255))
        (.chk (.c2 .le (.num 0) (.var 52))
        (.chk (.c2 .le (.var 52) (.num 255))
        (.chk (.c2 .le (.num 0) (.var 53))
        (.chk (.c2 .le (.var 53) (.num 255))
        (.chk (.c2 .le (.num 0) (.var 54))
        (.chk (.c2 .le (.var 54) (.num 255))
        (.chk (.c2 .le (.num 0) (.var 55))
        (.chk (.c2 .le (.var 55) (.num 255))
        (.chk (.c2 .le (.num 0) (.var 56))
        (.chk (.c2 .le (.var 56) (.num 255))
        (.chk (.c2 .le (.num 0) (.var 57))
        (.chk (.c2 .le (.var 57) (.num 255))
        (.chk (.c2 .le (.num 0) (.var 58))
        (.chk (.c2 .le (.var 58) (.num 255))
        (.chk (.c2 .le (.num 0) (.var 59))
        (.chk (.c2 .le (.var 59) (.num 255))
        (.chk (.c2 .le (.num 0) (.var 60))
        (.chk (.c2 .le (.var 60) (.num 255))
        (.chk (.c2 .le (.num 0) (.var 61))
        (.chk (.c2 .le (.var 61) (.num 255))
        (.chk (.c2 .le (.num 0) (.var 62))
        (.chk (.c2 .le (.var 62) (.num 255))
        (.chk (.c2 .le (.num 0) (.var 63))
        (.chk (.c2 .le (.var 63) (.num 255))
        (.chk (.c2 .le (.num 0) (.var 64))
        (.chk (.c2 .le (.var 64) (.num 255))
        (.split (.c2 .eq (.fn 44 xWuPush5 (.var 73) .nil) (.num 0))
         (.chk (.c1 (.kin [.u8]) (.fn 34 xWuPush5 (.var 73) .nil))
         (.chk (.c2 .eq (.c1 .len (.fn 34 xWuPush5 (.var 73) .nil)) (.num 40))
         (.ret (.t [.c (.s 74 1 0 (.num 0) (.c2 .add (.num 40) (.c1 .len (.var 73)))), .c (.i .i64 (.num 0))], ⟨[], [(74, some ⟨true, .row [.u8] (.c2 .app (.c2 .take (.num 40) (.fn 34 xWuPush5 (.var 73) .nil)) (.var 73))⟩)], 75, 74, []⟩))))
         (.ret (.t [.c (.sn), .c (.i .i64 (.fn 44 xWuPush5 (.var 73) .nil))], ⟨[], [], 74, 74, []⟩))))))))))))))))))))))))))))))))))))))))))))))))))))))))))))))))))))))))))))
      (.split (.c2 .eq (.var 0) (.num 5))
       (.split (.c1 .not (.c2 .and (.c2 .eq (.num 0) (.var 1)) (.c2 .and (.c2 .eq (.num 0) (.var 2)) (.c2 .and (.c2 .eq (.num 0) (.var 3)) (.c2 .and (.c2 .eq (.num 0) (.var 4)) (.c2 .and (.c2 .eq (.num 0) (.var 5)) (.c2 .and (.c2 .eq (.num 0) (.var 6)) (.c2 .and (.c2 .eq (.num 0) (.var 7)) (.c2 .and (.c2 .eq (.num 0) (.var 8)) (.c2 .and (.c2 .eq (.num 0) (.var 9)) (.c2 .and (.c2 .eq (.num 0) (.var 10)) (.c2 .and (.c2 .eq (.num 0) (.var 11)) (.c2 .and (.c2 .eq (.num 0) (.var 12)) (.c2 .and (.c2 .eq (.num 0) (.var 13)) (.c2 .and (.c2 .eq (.num 0) (.var 14)) (.c2 .and (.c2 .eq (.num 0) (.var 15)) (.c2 .and (.c2 .eq (.num 0) (.var 16)) (.c2 .and (.c2 .eq (.num 0) (.var 17)) (.c2 .and (.c2 .eq (.num 0) (.var 18)) (.c2 .and (.c2 .eq (.num 0) (.var 19)) (.c2 .and (.c2 .eq (.num 0) (.var 20)) (.c2 .and (.c2 .eq (.num 0) (.var 21)) (.c2 .and (.c2 .eq (.num 0) (.var 22)) (.c2 .and (.c2 .eq (.num 0) (.var 23)) (.c2 .and (.c2 .eq (.num 0) (.var 24)) (.c2 .and (.c2 .eq (.num 0) (.var 25)) (.c2 .and (.c2 .eq (.num 0) (.var 26)) (.c2 .and (.c2 .eq (.num 0) (.var 27)) (.c2 .and (.c2 .eq (.num 0) (.var 28)) (.c2 .and (.c2 .eq (.num 0) (.var 29)) (.c2 .and (.c2 .eq (.num 0) (.var 30)) (.c2 .and (.c2 .eq (.num 0) (.var 31)) (.c2 .and (.c2 .eq (.num 0) (.var 32)) (.c2 .and (.c2 .eq (.num 0) (.var 33)) (.c2 .and (.c2 .eq (.num 0) (.var 34)) (.c2 .and (.c2 .eq (.num 0) (.var 35)) (.c2 .and (.c2 .eq (.num 0) (.var 36)) (.c2 .and (.c2 .eq (.num 0) (.var 37)) (.c2 .and (.c2 .eq (.num 0) (.var 38)) (.c2 .and (.c2 .eq (.num 0) (.var 39)) (.c2 .and (.c2 .eq (.num 0) (.var 40)) (.c2 .and (.c2 .eq (.num 0) (.var 41)) (.c2 .and (.c2 .eq (.num 0) (.var 42)) (.c2 .and (.c2 .eq (.num 0) (.var 43)) (.c2 .and (.c2 .eq (.num 0) (.var 44)) (.c2 .and (.c2 .eq (.num 0) (.var 45)) (.c2 .and (.c2 .eq (.num 0) (.var 46)) (.c2 .and (.c2 .eq (.num 0) (.var 47)) (.c2 .and (.c2 .eq (.num 0) (.var 48)) (.c2 .and (.c2 .eq (.num 0) (.var 49)) (.c2 .and (.c2 .eq (.num 0) (.var 50)) (.c2 .and (.c2 .eq (.num 0) (.var 51)) (.c2 .and (.c2 .eq (.num 0) (.var 52)) (.c2 .and (.c2 .eq (.num 0) (.var 53)) (.c2 .and (.c2 .eq (.num 0) (.var 54)) (.c2 .and (.c2 .eq (.num 0) (.var 55)) (.c2 .and (.c2 .eq (.num 0) (.var 56)) (.c2 .and (.c2 .eq (.num 0) (.var 57)) (.c2 .and (.c2 .eq (.num 0) (.var 58)) (.c2 .and (.c2 .eq (.num 0) (.var 59)) (.c2 .and (.c2 .eq (.num 0) (.var 60)) (.c2 .and (.c2 .eq (.num 0) (.var 61)) (.c2 .and (.c2 .eq (.num 0) (.var 62)) (.c2 .and (.c2 .eq (.num 0) (.var 63)) (.c2 .and (.c2 .eq (.num 0) (.var 64)) (.c2 .and (.c2 .eq (.num 0) (.var 71)) (.c2 .eq (.num 0) (.var 72))))))))))))))))))))))))))))))))))))))))))))))))))))))))))))))))))))
        (.ret (.t [.c (.sn), .c (.i .i64 (.num 120))], ⟨[], [], 11, 74, []⟩))
        (.split (.c2 .le (.num 64) (.var 69))
         (.ret (.t [.c (.sn), .c (.i .i64 (.num 90))], ⟨[], [], 13, 74, []⟩))
         (.chk (.c2 .le (.num 0) (.var 65))
         (.chk (.c2 .le (.var 65) (.num 65535))
         (.chk (.c2 .le (.num 0) (.var 66))
         (.chk (.c2 .le (.var 66) (.num 65535))
         (.chk (.c2 .le (.num 0) (.var 67))
         (.chk (.c2 .le (.var 67) (.num 4294967295))
         (.chk (.c2 .le (.num 0) (.var 68))
         (.chk (.c2 .le (.var 68) (.num 4294967295))
         (.chk (.c2 .le (.num 0) (.var 69))
         (.chk (.c2 .le (.num 0) (.var 70))
         (.chk (.c2 .le (.var 70) (.num 65535))
         (.split (.c2 .eq (.fn 45 (.cons (.var 65) (.cons (.var 66) (.cons (.var 67) (.cons (.var 68) (.cons (.var 69) (.cons (.var 70) .nil)))))) (.var 73) .nil) (.num 0))
          (.chk (.c1 (.kin [.u8]) (.fn 35 (.cons (.var 65) (.cons (.var 66) (.cons (.var 67) (.cons (.var 68) (.cons (.var 69) (.cons (.var 70) .nil)))))) (.var 73) .nil))
          (.chk (.c2 .eq (.c1 .len (.fn 35 (.cons (.var 65) (.cons (.var 66) (.cons (.var 67) (.cons (.var 68) (.cons (.var 69) (.cons (.var 70) .nil)))))) (.var 73) .nil)) (.num 20))
          (.ret (.t [.c (.s 74 1 0 (.num 0) (.c2 .add (.num 20) (.c1 .len (.var 73)))), .c (.i .i64 (.num 0))], ⟨[], [(74, some ⟨true, .row [.u8] (.c2 .app (.c2 .take (.num 20) (.fn 35 (.cons (.var 65) (.cons (.var 66) (.cons (.var 67) (.cons (.var 68) (.cons (.var 69) (.cons (.var 70) .nil)))))) (.var 73) .nil)) (.var 73))⟩)], 75, 74, []⟩))))
          (.ret (.t [.c (.sn), .c (.i .i64 (.fn 45 (.cons (.var 65) (.cons (.var 66) (.cons (.var 67) (.cons (.var 68) (.cons (.var 69) (.cons (.var 70) .nil)))))) (.var 73) .nil))], ⟨[], [], 74, 74, []⟩))))))))))))))))
       (.split (.c2 .eq (.var 0) (.num 6))
        (.split (.c1 .not (.c2 .and (.c2 .eq (.num 0) (.var 1)) (.c2 .and (.c2 .eq (.num 0) (.var 2)) (.c2 .and (.c2 .eq (.num 0) (.var 3)) (.c2 .and (.c2 .eq (.num 0) (.var 4)) (.c2 .and (.c2 .eq (.num 0) (.var 5)) (.c2 .and (.c2 .eq (.num 0) (.var 6)) (.c2 .and (.c2 .eq (.num 0) (.var 7)) (.c2 .and (.c2 .eq (.num 0) (.var 8)) (.c2 .and (.c2 .eq (.num 0) (.var 9)) (.c2 .and (.c2 .eq (.num 0) (.var 10)) (.c2 .and (.c2 .eq (.num 0) (.var 11)) (.c2 .and (.c2 .eq (.num 0) (.var 12)) (.c2 .and (.c2 .eq (.num 0) (.var 13)) (.c2 .and (.c2 .eq (.num 0) (.var 14)) (.c2 .and (.c2 .eq (.num 0) (.var 15)) (.c2 .and (.c2 .eq (.num 0) (.var 16)) (.c2 .and (.c2 .eq (.num 0) (.var 17)) (.c2 .and (.c2 .eq (.num 0) (.var 18)) (.c2 .and (.c2 .eq (.num 0) (.var 19)) (.c2 .and (.c2 .eq (.num 0) (.var 20)) (.c2 .and (.c2 .eq (.num 0) (.var 21)) (.c2 .and (.c2 .eq (.num 0) (.var 22)) (.c2 .and (.c2 .eq (.num 0) (.var 23)) (.c2 .and (.c2 .eq (.num 0) (.var 24)) (.c2 .and (.c2 .eq (.num 0) (.var 25)) (.c2 .and (.c2 .eq (.num 0) (.var 26)) (.c2 .and (.c2 .eq (.num 0) (.var 27)) (.c2 .and (.c2 .eq (.num 0) (.var 28)) (.c2 .and (.c2 .eq (.num 0) (.var 29)) (.c2 .and (.c2 .eq (.num 0) (.var 30)) (.c2 .and (.c2 .eq (.num 0) (.var 31)) (.c2 .and (.c2 .eq (.num 0) (.var 32)) (.c2 .and (.c2 .eq (.num 0) (.var 33)) (.c2 .and (.c2 .eq (.num 0) (.var 34)) (.c2 .and (.c2 .eq (.num 0) (.var 35)) (.c2 .and (.c2 .eq (.num 0) (.var 36)) (.c2 .and (.c2 .eq (.num 0) (.var 37)) (.c2 .and (.c2 .eq (.num 0) (.var 38)) (.c2 .and (.c2 .eq (.num 0) (.var 39)) (.c2 .and (.c2 .eq (.num 0) (.var 40)) (.c2 .and (.c2 .eq (.num 0) (.var 41)) (.c2 .and (.c2 .eq (.num 0) (.var 42)) (.c2 .and (.c2 .eq (.num 0) (.var 43)) (.c2 .and (.c2 .eq (.num 0) (.var 44)) (.c2 .and (.c2 .eq (.num 0) (.var 45)) (.c2 .and (.c2 .eq (.num 0) (.var 46)) (.c2 .and (.c2 .eq (.num 0) (.var 47)) (.c2 .and (.c2 .eq (.num 0) (.var 48)) (.c2 .and (.c2 .eq (.num 0) (.var 49)) (.c2 .and (.c2 .eq (.num 0) (.var 50)) (.c2 .and (.c2 .eq (.num 0) (.var 51)) (.c2 .and (.c2 .eq (.num 0) (.var 52)) (.c2 .and (.c2 .eq (.num 0) (.var 53)) (.c2 .and (.c2 .eq (.num 0) (.var 54)) (.c2 .and (.c2 .eq (.num 0) (.var 55)) (.c2 .and (.c2 .eq (.num 0) (.var 56)) (.c2 .and (.c2 .eq (.num 0) (.var 57)) (.c2 .and (.c2 .eq (.num 0) (.var 58)) (.c2 .and (.c2 .eq (.num 0) (.var 59)) (.c2 .and (.c2 .eq (.num 0) (.var 60)) (.c2 .and (.c2 .eq (.num 0) (.var 61)) (.c2 .and (.c2 .eq (.num 0) (.var 62)) (.c2 .and (.c2 .eq (.num 0) (.var 63)) (.c2 .and (.c2 .eq (.num 0) (.var 64)) (.c2 .and (.c2 .eq (.num 0) (.var 65)) (.c2 .and (.c2 .eq (.num 0) (.var 66)) (.c2 .and (.c2 .eq (.num 0) (.var 67)) (.c2 .and (.c2 .eq (.num 0) (.var 68)) (.c2 .and (.c2 .eq (.num 0) (.var 69)) (.c2 .eq (.num 0) (.var 70))))))))))))))))))))))))))))))))))))))))))))))))))))))))))))))))))))))))
         (.ret (.t [.c (.sn), .c (.i .i64 (.num 120))], ⟨[], [], 11, 74, []⟩))
         (.chk (.c2 .le (.num 0) (.var 71))
         (.chk (.c2 .le (.var 71) (.num 65535))
         (.chk (.c2 .le (.num 0) (.var 72))
         (.chk (.c2 .le (.var 72) (.num 65535))
         (.split (.c2 .eq (.fn 46 (.cons (.var 71) (.cons (.var 72) .nil)) (.var 73) .nil) (.num 0))
          (.chk (.c1 (.kin [.u8]) (.fn 36 (.cons (.var 71) (.cons (.var 72) .nil)) (.var 73) .nil))
          (.chk (.c2 .eq (.c1 .len (.fn 36 (.cons (.var 71) (.cons (.var 72) .nil)) (.var 73) .nil)) (.num 8))
          (.ret (.t [.c (.s 74 1 0 (.num 0) (.c2 .add (.num 8) (.c1 .len (.var 73)))), .c (.i .i64 (.num 0))], ⟨[], [(74, some ⟨true, .row [.u8] (.c2 .app (.c2 .take (.num 8) (.fn 36 (.cons (.var 71) (.cons (.var 72) .nil)) (.var 73) .nil)) (.var 73))⟩)], 75, 74, []⟩))))
          (.ret (.t [.c (.sn), .c (.i .i64 (.fn 46 (.cons (.var 71) (.cons (.var 72) .nil)) (.var 73) .nil))], ⟨[], [], 74, 74, []⟩))))))))
        (.fail 11)))))))))
theorem treeWuPush_is : funTree (ctxN Go.Proofs.Try.prog annsWr consW1 8) annsWr 12 (tPush 74).vs (tPush 74).bs (tPush 74).n (preF (tPush 74).res) = treeWuPush := by kernel_rfl
end Go.Proofs.Ytfhjlimdakphcaa.Sx
/- Sx: what Go function 13 does, as a tree of conditions (printed by a tool of this claim, proved by the kernel). Conditions: none. -/
set_option maxRecDepth 100000
namespace Go.Proofs.Ytfhjlimdakphcaa.Sx
open Go
def treeWoPop : M (V × St) :=
(.split (.c2 .lt (.var 1) (.num 1))
 (.ret (.t [.g [.i .u8 (.num 0), .i .u8 (.num 0), .i .u8 (.num 0), .i .u8 (.num 0), .i .u8 (.num 0), .i .u8 (.num 0), .i .u8 (.num 0), .i .u8 (.num 0), .i .u8 (.num 0), .i .u8 (.num 0), .i .u8 (.num 0), .i .u8 (.num 0), .i .u8 (.num 0), .i .u16 (.num 0), .i .u8 (.num 0), .i .u16 (.num 0), .i .u16 (.num 0), .i .u8 (.num 0), .i .u8 (.num 0), .i .u8 (.num 0), .i .u16 (.num 0), .i .u8 (.num 0), .i .u8 (.num 0), .i .u8 (.num 0), .i .u8 (.num 0), .i .u8 (.num 0), .i .u8 (.num 0), .i .u8 (.num 0), .i .u8 (.num 0), .i .u8 (.num 0), .i .u32 (.num 0), .i .u8 (.num 0), .i .u8 (.num 0), .i .u8 (.num 0), .i .u8 (.num 0), .i .u8 (.num 0), .i .u8 (.num 0), .i .u8 (.num 0), .i .u8 (.num 0), .i .u8 (.num 0), .i .u8 (.num 0), .i .u8 (.num 0), .i .u8 (.num 0), .i .u8 (.num 0), .i .u8 (.num 0), .i .u8 (.num 0), .i .u8 (.num 0), .i .u8 (.num 0), .i .u8 (.num 0), .i .u8 (.num 0), .i .u8 (.num 0), .i .u8 (.num 0), .i .u8 (.num 0), .i .u8 (.num 0), .i .u8 (.num 0), .i .u8 (.num 0), .i .u8 (.num 0), .i .u8 (.num 0), .i .u8 (.num 0), .i .u8 (.num 0), .i .u8 (.num 0), .i .u8 (.num 0), .i .u8 (.num 0), .i .u8 (.num 0), .i .u8 (.num 0), .i .u16 (.num 0), .i .u16 (.num 0), .i .u32 (.num 0), .i .u32 (.num 0), .i .u8 (.num 0), .i .u16 (.num 0), .i .u16 (.num 0), .i .u16 (.num 0)], .c (.sn), .c (.i .i64 (.num 120))], ⟨[], [], 6, 2, []⟩))
 (.split (.c2 .lt (.num 6) (.var 1))
  (.ret (.t [.g [.i .u8 (.num 0), .i .u8 (.num 0), .i .u8 (.num 0), .i .u8 (.num 0), .i .u8 (.num 0), .i .u8 (.num 0), .i .u8 (.num 0), .i .u8 (.num 0), .i .u8 (.num 0), .i .u8 (.num 0), .i .u8 (.num 0), .i .u8 (.num 0), .i .u8 (.num 0), .i .u16 (.num 0), .i .u8 (.num 0), .i .u16 (.num 0), .i .u16 (.num 0), .i .u8 (.num 0), .i .u8 (.num 0), .i .u8 (.num 0), .i .u16 (.num 0), .i .u8 (.num 0), .i .u8 (.num 0), .i .u8 (.num 0), .i .u8 (.num 0), .i .u8 (.num 0), .i .u8 (.num 0), .i .u8 (.num 0), .i .u8 (.num 0), .i .u8 (.num 0), .i .u32 (.num 0), .i .u8 (.num 0), .i .u8 (.num 0), .i .u8 (.num 0), .i .u8 (.num 0), .i .u8 (.num 0), .i .u8 (.num 0), .i .u8 (.num 0), .i .u8 (.num 0), .i .u8 (.num 0), .i .u8 (.num 0), .i .u8 (.num 0), .i .u8 (.num 0), .i .u8 (.num 0), .i .u8 (.num 0), .i .u8 (.num 0), .i .u8 (.num 0), .i .u8 (.num 0), .i .u8 (.num 0), .i .u8 (.num 0), .i .u8 (.num 0), .i .u8 (.num 0), .i .u8 (.num 0), .i .u8 (.num 0), .i .u8 (.num 0), .i .u8 (.num 0), .i .u8 (.num 0), .i .u8 (.num 0), .i .u8 (.num 0), .i .u8 (.num 0), .i .u8 (.num 0), .i .u8 (.num 0), .i .u8 (.num 0), .i .u8 (.num 0), .i .u8 (.num 0), .i .u16 (.num 0), .i .u16 (.num 0), .i .u32 (.num 0), .i .u32 (.num 0), .i .u8 (.num 0), .i .u16 (.num 0), .i .u16 (.num 0), .i .u16 (.num 0)], .c (.sn), .c (.i .i64 (.num 120))], ⟨[], [], 6, 2, []⟩))
  (.split (.c2 .eq (.var 1) (.num 1))
   (.split (.c1 .not (.c2 .eq (.fn 21 (.var 0) .nil .nil) (.num 0)))
    (.ret (.t [.g [.i .u8 (.num 0), .i .u8 (.num 0), .i .u8 (.num 0), .i .u8 (.num 0), .i .u8 (.num 0), .i .u8 (.num 0), .i .u8 (.num 0), .i .u8 (.num 0), .i .u8 (.num 0), .i .u8 (.num 0), .i .u8 (.num 0), .i .u8 (.num 0), .i .u8 (.num 0), .i .u16 (.num 0), .i .u8 (.num 0), .i .u16 (.num 0), .i .u16 (.num 0), .i .u8 (.num 0), .i .u8 (.num 0), .i .u8 (.num 0), .i .u16 (.num 0), .i .u8 (.num 0), .i .u8 (.num 0), .i .u8 (.num 0), .i .u8 (.num 0), .i .u8 (.num 0), .i .u8 (.num 0), .i .u8 (.num 0), .i .u8 (.num 0), .i .u8 (.num 0), .i .u32 (.num 0), .i .u8 (.num 0), .i .u8 (.num 0), .i .u8 (.num 0), .i .u8 (.num 0), .i .u8 (.num 0), .i .u8 (.num 0), .i .u8 (.num 0), .i .u8 (.num 0), .i .u8 (.num 0), .i .u8 (.num 0), .i .u8 (.num 0), .i .u8 (.num 0), .i .u8 (.num 0), .i .u8 (.num 0), .i .u8 (.num 0), .i .u8 (.num 0), .i .u8 (.num 0), .i .u8 (.num 0), .i .u8 (.num 0), .i .u8 (.num 0), .i .u8 (.num 0), .i .u8 (.num 0), .i .u8 (.num 0), .i .u8 (.num 0), .i .u8 (.num 0), .i .u8 (.num 0), .i .u8 (.num 0), .i .u8 (.num 0), .i .u8 (.num 0), .i .u8 (.num 0), .i .u8 (.num 0), .i .u8 (.num 0), .i .u8 (.num 0), .i .u8 (.num 0), .i .u16 (.num 0), .i .u16 (.num 0), .i .u32 (.num 0), .i .u32 (.num 0), .i .u8 (.num 0), .i .u16 (.num 0), .i .u16 (.num 0), .i .u16 (.num 0)], .c (.sn), .c (.i .i64 (.fn 21 (.var 0) .nil .nil))], ⟨[], [], 69, 2, []⟩))
    (.chk (.c2 .le (.num 14) (.c1 .len (.var 0)))
    (.ret (.t [.g [.i .u8 (.var 1), .i .u8 (.wr .u8 (.c2 .rd (.fn 11 (.var 0) .nil .nil) (.num 0))), .i .u8 (.wr .u8 (.c2 .rd (.fn 11 (.var 0) .nil .nil) (.num 1))), .i .u8 (.wr .u8 (.c2 .rd (.fn 11 (.var 0) .nil .nil) (.num 2))), .i .u8 (.wr .u8 (.c2 .rd (.fn 11 (.var 0) .nil .nil) (.num 3))), .i .u8 (.wr .u8 (.c2 .rd (.fn 11 (.var 0) .nil .nil) (.num 4))), .i .u8 (.wr .u8 (.c2 .rd (.fn 11 (.var 0) .nil .nil) (.num 5))), .i .u8 (.wr .u8 (.c2 .rd (.fn 11 (.var 0) .nil .nil) (.num 6))), .i .u8 (.wr .u8 (.c2 .rd (.fn 11 (.var 0) .nil .nil) (.num 7))), .i .u8 (.wr .u8 (.c2 .rd (.fn 11 (.var 0) .nil .nil) (.num 8))), .i .u8 (.wr .u8 (.c2 .rd (.fn 11 (.var 0) .nil .nil) (.num 9))), .i .u8 (.wr .u8 (.c2 .rd (.fn 11 (.var 0) .nil .nil) (.num 10))), .i .u8 (.wr .u8 (.c2 .rd (.fn 11 (.var 0) .nil .nil) (.num 11))), .i .u16 (.wr .u16 (.c2 .rd (.fn 11 (.var 0) .nil .nil) (.num 12))), .i .u8 (.num 0), .i .u16 (.num 0), .i .u16 (.num 0), .i .u8 (.num 0), .i .u8 (.num 0), .i .u8 (.num 0), .i .u16 (.num 0), .i .u8 (.num 0), .i .u8 (.num 0), .i .u8 (.num 0), .i .u8 (.num 0), .i .u8 (.num 0), .i .u8 (.num 0), .i .u8 (.num 0), .i .u8 (.num 0), .i .u8 (.num 0), .i .u32 (.num 0), .i .u8 (.num 0), .i .u8 (.num 0), .i .u8 (.num 0), .i .u8 (.num 0), .i .u8 (.num 0), .i .u8 (.num 0), .i .u8 (.num 0), .i .u8 (.num 0), .i .u8 (.num 0), .i .u8 (.num 0), .i .u8 (.num 0), .i .u8 (.num 0), .i .u8 (.num 0), .i .u8 (.num 0), .i .u8 (.num 0), .i .u8 (.num 0), .i .u8 (.num 0), .i .u8 (.num 0), .i .u8 (.num 0), .i .u8 (.num 0), .i .u8 (.num 0), .i .u8 (.num 0), .i .u8 (.num 0), .i .u8 (.num 0), .i .u8 (.num 0), .i .u8 (.num 0), .i .u8 (.num 0), .i .u8 (.num 0), .i .u8 (.num 0), .i .u8 (.num 0), .i .u8 (.num 0), .i .u8 (.num 0), .i .u8 (.num 0), .i .u8 (.num 0), .i .u16 (.num 0), .i .u16 (.num 0), .i .u32 (.num 0), .i .u32 (.num 0), .i .u8 (.num 0), .i .u16 (.num 0), .i .u16 (.num 0), .i .u16 (.num 0)], .c (.s 70 1 0 (.num 0) (.c2 .sub (.c1 .len (.var 0)) (.num 14))), .c (.i .i64 (.num 0))], ⟨[], [(70, some ⟨true, .row [.u8] (.c2 .drop (.num 14) (.var 0))⟩)], 71, 2, []⟩))))
   (.split (.c2 .eq (.var 1) (.num 2))
    (.split (.c1 .not (.c2 .eq (.fn 22 (.var 0) .nil .nil) (.num 0)))
     (.ret (.t [.g [.i .u8 (.num 0), .i .u8 (.num 0), .i .u8 (.num 0), .i .u8 (.num 0), .i .u8 (.num 0), .i .u8 (.num 0), .i .u8 (.num 0), .i .u8 (.num 0), .i .u8 (.num 0), .i .u8 (.num 0), .i .u8 (.num 0), .i .u8 (.num 0), .i .u8 (.num 0), .i .u16 (.num 0), .i .u8 (.num 0), .i .u16 (.num 0), .i .u16 (.num 0), .i .u8 (.num 0), .i .u8 (.num 0), .i .u8 (.num 0), .i .u16 (.num 0), .i .u8 (.num 0), .i .u8 (.num 0), .i .u8 (.num 0), .i .u8 (.num 0), .i .u8 (.num 0), .i .u8 (.num 0), .i .u8 (.num 0), .i .u8 (.num 0), .i .u8 (.num 0), .i .u32 (.num 0), .i .u8 (.num 0), .i .u8 (.num 0), .i .u8 (.num 0), .i .u8 (.num 0), .i .u8 (.num 0), .i .u8 (.num 0), .i .u8 (.num 0), .i .u8 (.num 0), .i .u8 (.num 0), .i .u8 (.num 0), .i .u8 (.num 0), .i .u8 (.num 0), .i .u8 (.num 0), .i .u8 (.num 0), .i .u8 (.num 0), .i .u8 (.num 0), .i .u8 (.num 0), .i .u8 (.num 0), .i .u8 (.num 0), .i .u8 (.num 0), .i .u8 (.num 0), .i .u8 (.num 0), .i .u8 (.num 0), .i .u8 (.num 0), .i .u8 (.num 0), .i .u8 (.num 0), .i .u8 (.num 0), .i .u8 (.num 0), .i .u8 (.num 0), .i .u8 (.num 0), .i .u8 (.num 0), .i .u8 (.num 0), .i .u8 (.num 0), .i .u8 (.num 0), .i .u16 (.num 0), .i .u16 (.num 0), .i .u32 (.num 0), .i .u32 (.num 0), .i .u8 (.num 0), .i .u16 (.num 0), .i .u16 (.num 0), .i .u16 (.num 0)], .c (.sn), .c (.i .i64 (.fn 22 (.var 0) .nil .nil))], ⟨[], [], 69, 2, []⟩))
     (.chk (.c2 .le (.num 4) (.c1 .len (.var 0)))
     (.ret (.t [.g [.i .u8 (.var 1), .i .u8 (.num 0), .i .u8 (.num 0), .i .u8 (.num 0), .i .u8 (.num 0), .i .u8 (.num 0), .i .u8 (.num 0), .i .u8 (.num 0), .i .u8 (.num 0), .i .u8 (.num 0), .i .u8 (.num 0), .i .u8 (.num 0), .i .u8 (.num 0), .i .u16 (.num 0), .i .u8 (.wr .u8 (.c2 .rd (.fn 12 (.var 0) .nil .nil) (.num 0))), .i .u16 (.wr .u16 (.c2 .rd (.fn 12 (.var 0) .nil .nil) (.num 1))), .i .u16 (.wr .u16 (.c2 .rd (.fn 12 (.var 0) .nil .nil) (.num 2))), .i .u8 (.num 0), .i .u8 (.num 0), .i .u8 (.num 0), .i .u16 (.num 0), .i .u8 (.num 0), .i .u8 (.num 0), .i .u8 (.num 0), .i .u8 (.num 0), .i .u8 (.num 0), .i .u8 (.num 0), .i .u8 (.num 0), .i .u8 (.num 0), .i .u8 (.num 0), .i .u32 (.num 0), .i .u8 (.num 0), .i .u8 (.num 0), .i .u8 (.num 0), .i .u8 (.num 0), .i .u8 (.num 0), .i .u8 (.num 0), .i .u8 (.num 0), .i .u8 (.num 0), .i .u8 (.num 0), .i .u8 (.num 0), .i .u8 (.num 0), .i .u8 (.num 0), .i .u8 (.num 0), .i .u8 (.num 0), .i .u8 (.num 0), .i .u8 (.num 0), .i .u8 (.num 0), .i .u8 (.num 0), .i .u8 (.num 0), .i .u8 (.num 0), .i .u8 (.num 0), .i .u8 (.num 0), .i .u8 (.num 0), .i .u8 (.num 0), .i .u8 (.num 0), .i .u8 (.num 0), .i .u8 (.num 0), .i .u8 (.num 0), .i .u8 (.num 0), .i .u8 (.num 0), .i .u8 (.num 0), .i .u8 (.num 0), .i .u8 (.num 0), .i .u8 (.num 0), .i .u16 (.num 0), .i .u16 (.num 0), .i .u32 (.num 0), .i .u32 (.num 0), .i .u8 (.num 0), .i .u16 (.num 0), .i .u16 (.num 0), .i .u16 (.num 0)], .c (.s 70 1 0 (.num 0) (.c2 .sub (.c1 .len (.var 0)) (.num 4))), .c (.i .i64 (.num 0))], ⟨[], [(70, some ⟨true, .row [.u8] (.c2 .drop (.num 4) (.var 0))⟩)], 71, 2, []⟩))))
    (.split (.c2 .eq (.var 1) (.num 3))
     (.split (.c1 .not (.c2 .eq (.fn 23 (.var 0) .nil .nil) (.num 0)))
      (.ret (.t [.g [.i .u8 (.num 0), .i .u8 (.num 0), .i .u8 (.num 0), .i .u8 (.num 0), .i .u8 (.num 0), .i .u8 (.num 0), .i .u8 (.num 0), .i .u8 (.num 0), .i .u8 (.num 0), .i .u8 (.num 0), .i .u8 (.num 0), .i .u8 (.num 0), .i .u8 (.num 0), .i .u16 (.num 0), .i .u8 (.num 0), .i .u16 (.num 0), .i .u16 (.num 0), .i .u8 (.num 0), .i .u8 (.num 0), .i .u8 (.num 0), .i .u16 (.num 0), .i .u8 (.num 0), .i .u8 (.num 0), .i .u8 (.num 0), .i .u8 (.num 0), .i .u8 (.num 0), .i .u8 (.num 0), .i .u8 (.num 0), .i .u8 (.num 0), .i .u8 (.num 0), .i .u32 (.num 0), .i .u8 (.num 0), .i .u8 (.num 0), .i .u8 (.num 0), .i .u8 (.num 0), .i .u8 (.num 0), .i .u8 (.num 0), .i .u8 (.num 0), .i .u8 (.num 0), .i .u8 (.num 0), .i .u8 (.num 0), .i .u8 (.num 0), .i .u8 (.num 0), .i .u8 (.num 0), .i .u8 (.num 0), .i .u8 (.num 0), .i .u8 (.num 0), .i .u8 (.num 0), .i .u8 (.num 0), .i .u8 (.num 0), .i .u8 (.num 0), .i .u8 (.num 0), .i .u8 (.num 0), .i .u8 (.num 0), .i .u8 (.num 0), .i .u8 (.num 0), .i .u8 (.num 0), .i .u8 (.num 0), .i .u8 (.num 0), .i .u8 (.num 0), .i .u8 (.num 0), .i .u8 (.num 0), .i .u8 (.num 0), .i .u8 (.num 0), .i .u8 (.num 0), .i .u16 (.num 0), .i .u16 (.num 0), .i .u32 (.num 0), .i .u32 (.num 0), .i .u8 (.num 0), .i .u16 (.num 0), .i .u16 (.num 0), .i .u16 (.num 0)], .c (.sn), .c (.i .i64 (.fn 23 (.var 0) .nil .nil))], ⟨[], [], 69, 2, []⟩))
      (.chk (.c2 .le (.num 20) (.c1 .len (.var 0)))
      (.ret (.t [.g [.i .u8 (.var 1), .i .u8 (.num 0), .i .u8 (.num 0), .i .u8 (.num 0), .i .u8 (.num 0), .i .u8 (.num 0), .i .u8 (.num 0), .i .u8 (.num 0), .i .u8 (.num 0), .i .u8 (.num 0), .i .u8 (.num 0), .i .u8 (.num 0), .i .u8 (.num 0), .i .u16 (.num 0), .i .u8 (.num 0), .i .u16 (.num 0), .i .u16 (.num 0), .i .u8 (.wr .u8 (.c2 .rd (.fn 13 (.var 0) .nil .nil) (.num 0))), .i .u8 (.wr .u8 (.c2 .rd (.fn 13 (.var 0) .nil .nil) (.num 1))), .i .u8 (.wr .u8 (.c2 .rd (.fn 13 (.var 0) .nil .nil) (.num 2))), .i .u16 (.wr .u16 (.c2 .rd (.fn 13 (.var 0) .nil .nil) (.num 3))), .i .u8 (.wr .u8 (.c2 .rd (.fn 13 (.var 0) .nil .nil) (.num 4))), .i .u8 (.wr .u8 (.c2 .rd (.fn 13 (.var 0) .nil .nil) (.num 5))), .i .u8 (.wr .u8 (.c2 .rd (.fn 13 (.var 0) .nil .nil) (.num 6))), .i .u8 (.wr .u8 (.c2 .rd (.fn 13 (.var 0) .nil .nil) (.num 7))), .i .u8 (.wr .u8 (.c2 .rd (.fn 13 (.var 0) .nil .nil) (.num 8))), .i .u8 (.wr .u8 (.c2 .rd (.fn 13 (.var 0) .nil .nil) (.num 9))), .i .u8 (.wr .u8 (.c2 .rd (.fn 13 (.var 0) .nil .nil) (.num 10))), .i .u8 (.wr .u8 (.c2 .rd (.fn 13 (.var 0) .nil .nil) (.num 11))), .i .u8 (.num 0), .i .u32 (.num 0), .i .u8 (.num 0), .i .u8 (.num 0), .i .u8 (.num 0), .i .u8 (.num 0), .i .u8 (.num 0), .i .u8 (.num 0), .i .u8 (.num 0), .i .u8 (.num 0), .i .u8 (.num 0), .i .u8 (.num 0), .i .u8 (.num 0), .i .u8 (.num 0), .i .u8 (.num 0), .i .u8 (.num 0), .i .u8 (.num 0), .i .u8 (.num 0), .i .u8 (.num 0), .i .u8 (.num 0), .i .u8 (.num 0), .i .u8 (.num 0), .i .u8 (.num 0), .i .u8 (.num 0), .i .u8 (.num 0), .i .u8 (.num 0), .i .u8 (.num 0), .i .u8 (.num 0), .i .u8 (.num 0), .i .u8 (.num 0), .i .u8 (.num 0), .i .u8 (.num 0), .i .u8 (.num 0), .i .u8 (.num 0), .i .u8 (.num 0), .i .u8 (.num 0), .i .u16 (.num 0), .i .u16 (.num 0), .i .u32 (.num 0), .i .u32 (.num 0), .i .u8 (.num 0), .i .u16 (.num 0), .i .u16 (.num 0), .i .u16 (.num 0)], .c (.s 70 1 0 (.num 0) (.c2 .sub (.c1 .len (.var 0)) (.num 20))), .c (.i .i64 (.num 0))], ⟨[], [(70, some ⟨true, .row [.u8] (.c2 .drop (.num 20) (.var 0))⟩)], 71, 2, []⟩))))
     (.split (.c2 .eq (.var 1) (.num 4))
      (.split (.c1 .not (.c2 .eq (.fn 24 (.var 0) .nil .nil) (.num 0)))
       (.ret (.t [.g [.i .u8 (.num 0), .i .u8 (.num 0), .i .u8 (.num 0), .i .u8 (.num 0), .i .u8 (.num 0), .i .u8 (.num 0), .i .u8 (.num 0), .i .u8 (.num 0), .i .u8 (.num 0), .i .u8 (.num 0), .i .u8 (.num 0), .i .u8 (.num 0), .i .u8 (.num 0), .i .u16 (.num 0), .i .u8 (.num 0), .i .u16 (.num 0), .i .u16 (.num 0), .i .u8 (.num 0), .i .u8 (.num 0), .i .u8 (.num 0), .i .u16 (.num 0), .i .u8 (.num 0), .i .u8 (.num 0), .i .u8 (.num 0), .i .u8 (.num 0), .i .u8 (.num 0), .i .u8 (.num 0), .i .u8 (.num 0), .i .u8 (.num 0), .i .u8 (.num 0), .i .u32 (.num 0), .i .u8 (.num 0), .i .u8 (.num 0), .i .u8 (.num 0), .i .u8 (.num 0), .i .u8 (.num 0), .i .u8 (.num 0), .i .u8 (.num 0), .i .u8 (.num 0), .i .u8 (.num 0), .i .u8 (.num 0), .i .u8 (.num 0), .i .u8 (.num 0), .i .u8 (.num 0), .i .u8 (.num 0), .i .u8 (.num 0), .i .u8 (.num 0), .i .u8 (.num 0), .i .u8 (.num 0), .i .u8 (.num 0), .i .u8 (.num 0), .i .u8 (.num 0), .i .u8 (.num 0), .i .u8 (.num 0), .i .u8 (.num 0), .i .u8 (.num 0), .i .u8 (.num 0), .i .u8 (.num 0), .i .u8 (.num 0), .i .u8 (.num 0), .i .u8 (.num 0), .i .u8 (.num 0), .i .u8 (.num 0), .i .u8 (.num 0), .i .u8 (.num 0), .i .u16 (.num 0), .i .u16 (.num 0), .i .u32 (.num 0), .i .u32 (.num 0), .i .u8 (.num 0), .i .u16 (.num 0), .i .u16 (.num 0), .i .u16 (.num 0)], .c (.sn), .c (.i .i64 (.fn 24 (.var 0) .nil .nil))], ⟨[], [], 69, 2, []⟩))
       (.chk (.c2 .le (.num 40) (.c1 .len (.var 0)))
       (.ret (.t [.g [.i .u8 (.var 1), .i .u8 (.num 0), .i .u8 (.num 0), .i .u8 (.num 0), .i .u8 (.num 0), .i .u8 (.num 0), .i .u8 (.num 0), .i .u8 (.num 0), .i .u8 (.num 0), .i .u8 (.num 0), .i .u8 (.num 0), .i .u8 (.num 0), .i .u8 (.num 0), .i .u16 (.num 0), .i .u8 (.num 0), .i .u16 (.num 0), .i .u16 (.num 0), .i .u8 (.num 0), .i .u8 (.num 0), .i .u8 (.num 0), .i .u16 (.num 0), .i .u8 (.num 0), .i .u8 (.num 0), .i .u8 (.num 0), .i .u8 (.num 0), .i .u8 (.num 0), .i .u8 (.num 0), .i .u8 (.num 0), .i .u8 (.num 0), .i .u8 (.wr .u8 (.c2 .rd (.fn 14 (.var 0) .nil .nil) (.num 0))), .i .u32 (.wr .u32 (.c2 .rd (.fn 14 (.var 0) .nil .nil) (.num 1))), .i .u8 (.wr .u8 (.c2 .rd (.fn 14 (.var 0) .nil .nil) (.num 2))), .i .u8 (.wr .u8 (.c2 .rd (.fn 14 (.var 0) .nil .nil) (.num 3))), .i .u8 (.wr .u8 (.c2 .rd (.fn 14 (.var 0) .nil .nil) (.num 4))), .i .u8 (.wr .u8 (.c2 .rd (.fn 14 (.var 0) .nil .nil) (.num 5))), .i .u8 (.wr .u8 (.c2 .rd (.fn 14 (.var 0) .nil .nil) (.num 6))), .i .u8 (.wr .u8 (.c2 .rd (.fn 14 (.var 0) .nil .nil) (.num 7))), .i .u8 (.wr .u8 (.c2 .rd (.fn 14 (.var 0) .nil .nil) (.num 8))), .i .u8 (.wr .u8 (.c2 .rd (.fn 14 (.var 0) .nil .nil) (.num 9))), .i .u8 (.wr .u8 (.c2 .rd (.fn 14 (.var 0) .nil .nil) (.num 10))), .i .u8 (.wr .u8 (.c2 .rd (.fn 14 (.var 0) .nil .nil) (.num 11))), .i .u8 (.wr .u8 (.c2 .rd (.fn 14 (.var 0) .nil .nil) (.num 12))), .i .u8 (.wr .u8 (.c2 .rd (.fn 14 (.var 0) .nil .nil) (.num 13))), .i .u8 (.wr .u8 (.c2 .rd (.fn 14 (.var 0) .nil .nil) (.num 14))), .i .u8 (.wr .u8 (.c2 .rd (.fn 14 (.var 0) .nil .nil) (.num 15))), .i .u8 (.wr .u8 (.c2 .rd (.fn 14 (.var 0) .nil .nil) (.num 16))), .i .u8 (.wr .u8 (.c2 .rd (.fn 14 (.var 0) .nil .nil) (.num 17))), .i .u8 (.wr .u8 (.c2 .rd (.fn 14 (.var 0) .nil .nil) (.num 18))), .i .u8 (.wr .u8 (.c2 .rd (.fn 14 (.var 0) .nil .nil) (.num 19))), .i .u8 (.wr .u8 (.c2 .rd (.fn 14 (.var 0) .nil .nil) (.num 20))), .i .u8 (.wr .u8 (.c2 .rd (.fn 14 (.var 0) .nil .nil) (.num 21))), .i .u8 (.wr .u8 (.c2 .rd (.fn 14 (.var 0) .nil .nil) (.num 22))), .i .u8 (.wr .u8 (.c2 .rd (.fn 14 (.var 0) .nil .nil) (.num 23))), .i .u8 (.wr .u8 (.c2 .rd (.fn 14 (.var 0) .nil .nil) (.num 24))), .i .u8 (.wr .u8 (.c2 .rd (.fn 14 (.var 0) .nil .nil) (.num 25))), .i .u8 (.wr .u8 (.c2 .rd (.fn 14 (.var 0) .nil .nil) (.num 26))), .i .u8 (.wr .u8 (.c2 .rd (.fn 14 (.var 0) .nil .nil) (.num 27))), .i .u8 (.wr .u8 (.c2 .rd (.fn 14 (.var 0) .nil .nil) (.num 28))), .i .u8 (.wr .u8 (.c2 .rd (.fn 14 (.var 0) .nil .nil) (.num 29))), .i .u8 (.wr .u8 (.c2 .rd (.fn 14 (.var 0) .nil .nil) (.num 30))), .i .u8 (.wr .u8 (.c2 .rd (.fn 14 (.var 0) .nil .nil) (.num 31))), .i .u8 (.wr .u8 (.c2 .rd (.fn 14 (.var 0) .nil .nil) (.num 32))), .i .u8 (.wr .u8 (.c2 .rd (.fn 14 (.var 0) .nil .nil) (.num 33))), .i .u8 (.wr .u8 (.c2 .rd (.fn 14 (.var 0) .nil .nil) (.num 34))), .i .u8 (.wr .u8 (.c2 .rd (.fn 14 (.var 0) .nil .nil) (.num 35))), .i .u16 (.num 0), .i .u16 (.num 0), .i .u32 (.num 0), .i .u32 (.num 0), .i .u8 (.num 0), .i .u16 (.num 0), .i .u16 (.num 0), .i .u16 (.num 0)], .c (.s 70 1 0 (.num 0) (.c2 .sub (.c1 .len (.var 0)) (.num 40))), .c (.i .i64 (.num 0))], ⟨[], [(70, some ⟨true, .row [.u8] (.c2 .drop (.num 40) (.var 0))⟩)], 71, 2, []⟩))))
      (.split (.c2 .eq (.var 1) (.num 5))
       (.split (.c1 .not (.c2 .eq (.fn 25 (.var 0) .nil .nil) (.num 0)))
        (.ret (.t [.g [.i .u8 (.num 0), .i .u8 (.num 0), .i .u8 (.num 0), .i .u8 (.num 0), .i .u8 (.num 0), .i .u8 (.num 0), .i .u8 (.num 0), .i .u8 (.num 0), .i .u8 (.num 0), .i .u8 (.num 0), .i .u8 (.num 0), .i .u8 (.num 0), .i .u8 (.num 0), .i .u16 (.num 0), .i .u8 (.num 0), .i .u16 (.num 0), .i .u16 (.num 0), .i .u8 (.num 0), .i .u8 (.num 0), .i .u8 (.num 0), .i .u16 (.num 0), .i .u8 (.num 0), .i .u8 (.num 0), .i .u8 (.num 0), .i .u8 (.num 0), .i .u8 (.num 0), .i .u8 (.num 0), .i .u8 (.num 0), .i .u8 (.num 0), .i .u8 (.num 0), .i .u32 (.num 0), .i .u8 (.num 0), .i .u8 (.num 0), .i .u8 (.num 0), .i .u8 (.num 0), .i .u8 (.num 0), .i .u8 (.num 0), .i .u8 (.num 0), .i .u8 (.num 0), .i .u8 (.num 0), .i .u8 (.num 0), .i .u8 (.num 0), .i .u8 (.num 0), .i .u8 (.num 0), .i .u8 (.num 0), .i .u8 (.num 0), .i .u8 (.num 0), .i .u8 (.num 0), .i .u8 (.num 0), .i .u8 (.num 0), .i .u8 (.num 0), .i .u8 (.num 0), .i .u8 (.num 0), .i .u8 (.num 0), .i .u8 (.num 0), .i .u8 (.num 0), .i .u8 (.num 0), .i .u8 (.num 0), .i .u8 (.num 0), .i .u8 (.num 0), .i .u8 (.num 0), .i .u8 (.num 0), .i .u8 (.num 0), .i .u8 (.num 0), .i .u8 (.num 0), .i .u16 (.num 0), .i .u16 (.num 0), .i .u32 (.num 0), .i .u32 (.num 0), .i .u8 (.num 0), .i .u16 (.num 0), .i .u16 (.num 0), .i .u16 (.num 0)], .c (.sn), .c (.i .i64 (.fn 25 (.var 0) .nil .nil))], ⟨[], [], 69, 2, []⟩))
        (.chk (.c2 .le (.num 20) (.c1 .len (.var 0)))
        (.ret (.t [.g [.i .u8 (.var 1), .i .u8 (.num 0), .i .u8 (.num 0), .i .u8 (.num 0), .i .u8 (.num 0), .i .u8 (.num 0), .i .u8 (.num 0), .i .u8 (.num 0), .i .u8 (.num 0), .i .u8 (.num 0), .i .u8 (.num 0), .i .u8 (.num 0), .i .u8 (.num 0), .i .u16 (.num 0), .i .u8 (.num 0), .i .u16 (.num 0), .i .u16 (.num 0), .i .u8 (.num 0), .i .u8 (.num 0), .i .u8 (.num 0), .i .u16 (.num 0), .i .u8 (.num 0), .i .u8 (.num 0), .i .u8 (.num 0), .i .u8 (.num 0), .i .u8 (.num 0), .i .u8 (.num 0), .i .u8 (.num 0), .i .u8 (.num 0), .i .u8 (.num 0), .i .u32 (.num 0), .i .u8 (.num 0), .i .u8 (.num 0), .i .u8 (.num 0), .i .u8 (.num 0), .i .u8 (.num 0), .i .u8 (.num 0), .i .u8 (.num 0), .i .u8 (.num 0), .i .u8 (.num 0), .i .u8 (.num 0), .i .u8 (.num 0), .i .u8 (.num 0), .i .u8 (.num 0), .i .u8 (.num 0), .i .u8 (.num 0), .i .u8 (.num 0), .i .u8 (.num 0), .i .u8 (.num 0), .i .u8 (.num 0), .i .u8 (.num 0), .i .u8 (.num 0), .i .u8 (.num 0), .i .u8 (.num 0), .i .u8 (.num 0), .i .u8 (.num 0), .i .u8 (.num 0), .i .u8 (.num 0), .i .u8 (.num 0), .i .u8 (.num 0), .i .u8 (.num 0), .i .u8 (.num 0), .i .u8 (.num 0), .i .u8 (.num 0), .i .u8 (.num 0), .i .u16 (.wr .u16 (.c2 .rd (.fn 15 (.var 0) .nil .nil) (.num 0))), .i .u16 (.wr .u16 (.c2 .rd (.fn 15 (.var 0) .nil .nil) (.num 1))), .i .u32 (.wr .u32 (.c2 .rd (.fn 15 (.var 0) .nil .nil) (.num 2))), .i .u32 (.wr .u32 (.c2 .rd (.fn 15 (.var 0) .nil .nil) (.num 3))), .i .u8 (.wr .u8 (.c2 .rd (.fn 15 (.var 0) .nil .nil) (.num 4))), .i .u16 (.wr .u16 (.c2 .rd (.fn 15 (.var 0) .nil .nil) (.num 5))), .i .u16 (.num 0), .i .u16 (.num 0)], .c (.s 70 1 0 (.num 0) (.c2 .sub (.c1 .len (.var 0)) (.num 20))), .c (.i .i64 (.num 0))], ⟨[], [(70, some ⟨true, .row [.u8] (.c2 .drop (.num 20) (.var 0))⟩)], 71, 2, []⟩))))
       (.split (.c2 .eq (.var 1) (.num 6))
        (.split (.c1 .not (.c2 .eq (.fn 26 (.var 0) .nil .nil) (.num 0)))
         (.ret (.t [.g [.i .u8 (.num 0), .i .u8 (.num 0), .i .u8 (.num 0), .i .u8 (.num 0), .i .u8 (.num 0), .i .u8 (.num 0), .i .u8 (.num 0), .i .u8 (.num 0), .i .u8 (.num 0), .i .u8 (.num 0), .i .u8 (.num 0), .i .u8 (.num 0), .i .u8 (.num 0), .i .u16 (.num 0), .i .u8 (.num 0), .i .u16 (.num 0), .i .u16 (.num 0), .i .u8 (.num 0), .i .u8 (.num 0), .i .u8 (.num 0), .i .u16 (.num 0), .i .u8 (.num 0), .i .u8 (.num 0), .i .u8 (.num 0), .i .u8 (.num 0), .i .u8 (.num 0), .i .u8 (.num 0), .i .u8 (.num 0), .i .u8 (.num 0), .i .u8 (.num 0), .i .u32 (.num 0), .i .u8 (.num 0), .i .u8 (.num 0), .i .u8 (.num 0), .i .u8 (.num 0), .i .u8 (.num 0), .i .u8 (.num 0), .i .u8 (.num 0), .i .u8 (.num 0), .i .u8 (.num 0), .i .u8 (.num 0), .i .u8 (.num 0), .i .u8 (.num 0), .i .u8 (.num 0), .i .u8 (.num 0), .i .u8 (.num 0), .i .u8 (.num 0), .i .u8 (.num 0), .i .u8 (.num 0), .i .u8 (.num 0), .i .u8 (.num 0), .i .u8 (.num 0), .i .u8 (.num 0), .i .u8 (.num 0), .i .u8 (.num 0), .i .u8 (.num 0), .i .u8 (.num 0), .i .u8 (.num 0), .i .u8 (.num 0), .i .u8 (.num 0), .i .u8 (.num 0), .i .u8 (.num 0), .i .u8 (.num 0), .i .u8 (.num 0), .i .u8 (.num 0), .i .u16 (.num 0), .i .u16 (.num 0), .i .u32 (.num 0), .i .u32 (.num 0), .i .u8 (.num 0), .i .u16 (.num 0), .i .u16 (.num 0), .i .u16 (.num 0)], .c (.sn), .c (.i .i64 (.fn 26 (.var 0) .nil .nil))], ⟨[], [], 69, 2, []⟩))
         (.chk (.c2 .le (.num 8) (.c1 .len (.var 0)))
         (.ret (.t [.g [.i .u8 (.var 1), .i .u8 (.num 0), .i .u8 (.num 0), .i .u8 (.num 0), .i .u8 (.num 0), .i .u8 (.num 0), .i .u8 (.num 0), .i .u8 (.num 0), .i .u8 (.num 0), .i .u8 (.num 0), .i .u8 (.num 0), .i .u8 (.num 0), .i .u8 (.num 0), .i .u16 (.num 0), .i .u8 (.num 0), .i .u16 (.num 0), .i .u16 (.num 0), .i .u8 (.num 0), .i .u8 (.num 0), .i .u8 (.num 0), .i .u16 (.num 0), .i .u8 (.num 0), .i .u8 (.num 0), .i .u8 (.num 0), .i .u8 (.num 0), .i .u8 (.num 0), .i .u8 (.num 0), .i .u8 (.num 0), .i .u8 (.num 0), .i .u8 (.num 0), .i .u32 (.num 0), .i .u8 (.num 0), .i .u8 (.num 0), .i .u8 (.num 0), .i .u8 (.num 0), .i .u8 (.num 0), .i .u8 (.num 0), .i .u8 (.num 0), .i .u8 (.num 0), .i .u8 (.num 0), .i .u8 (.num 0), .i .u8 (.num 0), .i .u8 (.num 0), .i .u8 (.num 0), .i .u8 (.num 0), .i .u8 (.num 0), .i .u8 (.num 0), .i .u8 (.num 0), .i .u8 (.num 0), .i .u8 (.num 0), .i .u8 (.num 0), .i .u8 (.num 0), .i .u8 (.num 0), .i .u8 (.num 0), .i .u8 (.num 0), .i .u8 (.num 0), .i .u8 (.num 0), .i .u8 (.num 0), .i .u8 (.num 0), .i .u8 (.num 0), .i .u8 (.num 0), .i .u8 (.num 0), .i .u8 (.num 0), .i .u8 (.num 0), .i .u8 (.num 0), .i .u16 (.num 0), .i .u16 (.num 0), .i .u32 (.num 0), .i .u32 (.num 0), .i .u8 (.num 0), .i .u16 (.num 0), .i .u16 (.wr .u16 (.c2 .rd (.fn 16 (.var 0) .nil .nil) (.num 0))), .i .u16 (.wr .u16 (.c2 .rd (.fn 16 (.var 0) .nil .nil) (.num 1)))], .c (.s 70 1 0 (.num 0) (.c2 .sub (.c1 .len (.var 0)) (.num 8))), .c (.i .i64 (.num 0))], ⟨[], [(70, some ⟨true, .row [.u8] (.c2 .drop (.num 8) (.var 0))⟩)], 71, 2, []⟩))))
        (.fail 11)))))))))
theorem treeWoPop_is : funTree (ctxN Go.Proofs.Try.prog annsWr consW1 8) annsWr 13 (tPop 70).vs (tPop 70).bs (tPop 70).n (preF (tPop 70).res) = treeWoPop := by kernel_rfl
end Go.Proofs.Ytfhjlimdakphcaa.Sx
/- Sx: what Go function 33 does, as a tree of conditions (printed by a tool of this claim, proved by the kernel). Conditions: none. -/
set_option maxRecDepth 100000
namespace Go.Proofs.Ytfhjlimdakphcaa.Sx
open Go
def treeWdLink : M (V × St) :=
(.split (.c2 .lt (.num 2034) (.c1 .len (.var 13)))
 (.ret (.t [.c (.sn), .c (.i .i64 (.num 5))], ⟨[], [], 3, 14, []⟩))
 (.ret (.t [.c (.s 3 1 0 (.num 0) (.num 14)), .c (.i .i64 (.num 0))], ⟨[], [(3, some ⟨true, .row [.u8] (.cons (.var 0) (.cons (.var 1) (.cons (.var 2) (.cons (.var 3) (.cons (.var 4) (.cons (.var 5) (.cons (.var 6) (.cons (.var 7) (.cons (.var 8) (.cons (.var 9) (.cons (.var 10) (.cons (.var 11) (.cons (.c2 .fdiv (.var 12) (.num 256)) (.cons (.c2 .sub (.var 12) (.c2 .mul (.c2 .fdiv (.var 12) (.num 256)) (.num 256))) .nil))))))))))))))⟩)], 4, 14, []⟩)))
theorem treeWdLink_is : funTree (ctxN Go.Proofs.Try.prog annsHd consSum 8) annsHd 33 (tBytes 1 3 60 14 kLink).vs (tBytes 1 3 60 14 kLink).bs (tBytes 1 3 60 14 kLink).n (preF (tBytes 1 3 60 14 kLink).res) = treeWdLink := by kernel_rfl
end Go.Proofs.Ytfhjlimdakphcaa.Sx
/- Sx laws of headers: the writers of layer Link. Conditions: none. -/
set_option linter.unusedVariables false
set_option linter.unusedSimpArgs false
namespace Go.Proofs.Ytfhjlimdakphcaa.Sx
open Go
set_option maxRecDepth 100000 in
theorem wdLink_ok {Φ : Sig} (hΦ : HdSig Φ) : TmplOk Go.Proofs.Try.prog Φ 33 (tBytes 1 3 60 14 kLink) := by
  refine tmpl_of (consSum_ok hΦ.toSumSig) treeWdLink_is (fun ρ res hres => ⟨eqJ, ?_⟩)
  obtain ⟨hk, hres⟩ := inKs_some hres
  obtain ⟨h0, hres⟩ := short_some hres
  obtain ⟨hb, hres⟩ := bytes_some hres
  have hr := wr_res (n := 13) hΦ ⟨by decide, by decide⟩ hres
  have h0' : (ρ 13).list.length ≤ 140737488351232 := h0
  have hb' : Bytes (ρ 13).list := hb
  have a0 : (hdrOf Φ ρ 13)[0]?.getD 0 = (ρ 0).int := hdr_at 13 0 (by decide)
  have a1 : (hdrOf Φ ρ 13)[1]?.getD 0 = (ρ 1).int := hdr_at 13 1 (by decide)
  have a2 : (hdrOf Φ ρ 13)[2]?.getD 0 = (ρ 2).int := hdr_at 13 2 (by decide)
  have a3 : (hdrOf Φ ρ 13)[3]?.getD 0 = (ρ 3).int := hdr_at 13 3 (by decide)
  have a4 : (hdrOf Φ ρ 13)[4]?.getD 0 = (ρ 4).int := hdr_at 13 4 (by decide)
  have a5 : (hdrOf Φ ρ 13)[5]?.getD 0 = (ρ 5).int := hdr_at 13 5 (by decide)
  have a6 : (hdrOf Φ ρ 13)[6]?.getD 0 = (ρ 6).int := hdr_at 13 6 (by decide)
  have a7 : (hdrOf Φ ρ 13)[7]?.getD 0 = (ρ 7).int := hdr_at 13 7 (by decide)
  have a8 : (hdrOf Φ ρ 13)[8]?.getD 0 = (ρ 8).int := hdr_at 13 8 (by decide)
  have a9 : (hdrOf Φ ρ 13)[9]?.getD 0 = (ρ 9).int := hdr_at 13 9 (by decide)
  have a10 : (hdrOf Φ ρ 13)[10]?.getD 0 = (ρ 10).int := hdr_at 13 10 (by decide)
  have a11 : (hdrOf Φ ρ 13)[11]?.getD 0 = (ρ 11).int := hdr_at 13 11 (by decide)
  have a12 : (hdrOf Φ ρ 13)[12]?.getD 0 = (ρ 12).int := hdr_at 13 12 (by decide)
  have b0 := hk 0 .u8 rfl
  have b1 := hk 1 .u8 rfl
  have b2 := hk 2 .u8 rfl
  have b3 := hk 3 .u8 rfl
  have b4 := hk 4 .u8 rfl
  have b5 := hk 5 .u8 rfl
  have b6 := hk 6 .u8 rfl
  have b7 := hk 7 .u8 rfl
  have b8 := hk 8 .u8 rfl
  have b9 := hk 9 .u8 rfl
  have b10 := hk 10 .u8 rfl
  have b11 := hk 11 .u8 rfl
  have b12 := hk 12 .u16 rfl
  simp only [kmin, kmax, Nat.zero_add] at b0 b1 b2 b3 b4 b5 b6 b7 b8 b9 b10 b11 b12
  have m1 : ∀ x : Int, x - x / 256 * 256 = x % 256 := fun x => by omega
  refine ⟨fun c1 => ?_, fun c1 => ?_⟩
  · simp [hΦ.sum, hΦ.ocs, wrap_ocs, m1] at c1
    have hz : wrFail 1 (hdrOf Φ ρ 13) (ρ 13).list = 5 := by
      simp only [wrFail, g, a0, a1, a2, a3, a4, a5, a6, a7, a8, a9, a10, a11, a12]
      repeat' split
      all_goals first | rfl | omega
    exact leaf_wr_err hr hz (by decide) (by decide)
  · simp [hΦ.sum, hΦ.ocs, wrap_ocs, m1] at c1
    have hz : wrFail 1 (hdrOf Φ ρ 13) (ρ 13).list = 0 := by
      simp only [wrFail, g, a0, a1, a2, a3, a4, a5, a6, a7, a8, a9, a10, a11, a12]
      repeat' split
      all_goals first | rfl | omega
    refine leaf_wr_ok hr hz ?_ rfl (by decide)
    simp only [list_cons, list_nil, int_add, int_sub, int_mul, int_fdiv, int_len, den_var, den_num, D.int_i, fdiv_lit, m1, int_wr, den_fn, hΦ.sum, hΦ.ocs, wrap_ocs, wrGood, wrBase, putF, fld, fld1, List.set_cons_succ, List.set_cons_zero, List.cons_append, List.nil_append, g, a0, a1, a2, a3, a4, a5, a6, a7, a8, a9, a10, a11, a12]
    all_goals try simp only [List.cons.injEq, and_true, true_and]
    all_goals repeat' apply And.intro
    all_goals first | rfl | omega
end Go.Proofs.Ytfhjlimdakphcaa.Sx
/- Sx: what Go function 41 does, as a tree of conditions (printed by a tool of this claim, proved by the kernel). Conditions: none. -/
set_option maxRecDepth 100000
namespace Go.Proofs.Ytfhjlimdakphcaa.Sx
open Go
def treeWdTag : M (V × St) :=
(.split (.c2 .lt (.num 7) (.var 0))
 (.ret (.t [.c (.sn), .c (.i .i64 (.num 60))], ⟨[], [], 3, 4, []⟩))
 (.split (.c2 .lt (.num 4095) (.var 1))
  (.ret (.t [.c (.sn), .c (.i .i64 (.num 60))], ⟨[], [], 3, 4, []⟩))
  (.split (.c2 .lt (.num 2044) (.c1 .len (.var 3)))
   (.ret (.t [.c (.sn), .c (.i .i64 (.num 5))], ⟨[], [], 3, 4, []⟩))
   (.ret (.t [.c (.s 3 1 0 (.num 0) (.num 4)), .c (.i .i64 (.num 0))], ⟨[], [(3, some ⟨true, .row [.u8] (.cons (.c2 .fdiv (.c2 .add (.c2 .mul (.var 0) (.num 8192)) (.var 1)) (.num 256)) (.cons (.c2 .sub (.c2 .add (.c2 .mul (.var 0) (.num 8192)) (.var 1)) (.c2 .mul (.c2 .fdiv (.c2 .add (.c2 .mul (.var 0) (.num 8192)) (.var 1)) (.num 256)) (.num 256))) (.cons (.c2 .fdiv (.var 2) (.num 256)) (.cons (.c2 .sub (.var 2) (.c2 .mul (.c2 .fdiv (.var 2) (.num 256)) (.num 256))) .nil))))⟩)], 4, 4, []⟩)))))
theorem treeWdTag_is : funTree (ctxN Go.Proofs.Try.prog annsHd consSum 8) annsHd 41 (tBytes 2 3 60 4 kTag).vs (tBytes 2 3 60 4 kTag).bs (tBytes 2 3 60 4 kTag).n (preF (tBytes 2 3 60 4 kTag).res) = treeWdTag := by kernel_rfl
end Go.Proofs.Ytfhjlimdakphcaa.Sx
/- Sx laws of headers: the writers of layer Tag. Conditions: none. -/
set_option linter.unusedVariables false
set_option linter.unusedSimpArgs false
namespace Go.Proofs.Ytfhjlimdakphcaa.Sx
open Go
set_option maxRecDepth 100000 in
theorem wdTag_ok {Φ : Sig} (hΦ : HdSig Φ) : TmplOk Go.Proofs.Try.prog Φ 41 (tBytes 2 3 60 4 kTag) := by
  refine tmpl_of (consSum_ok hΦ.toSumSig) treeWdTag_is (fun ρ res hres => ⟨eqJ, ?_⟩)
  obtain ⟨hk, hres⟩ := inKs_some hres
  obtain ⟨h0, hres⟩ := short_some hres
  obtain ⟨hb, hres⟩ := bytes_some hres
  have hr := wr_res (n := 3) hΦ ⟨by decide, by decide⟩ hres
  have h0' : (ρ 3).list.length ≤ 140737488351232 := h0
  have hb' : Bytes (ρ 3).list := hb
  have a0 : (hdrOf Φ ρ 3)[0]?.getD 0 = (ρ 0).int := hdr_at 3 0 (by decide)
  have a1 : (hdrOf Φ ρ 3)[1]?.getD 0 = (ρ 1).int := hdr_at 3 1 (by decide)
  have a2 : (hdrOf Φ ρ 3)[2]?.getD 0 = (ρ 2).int := hdr_at 3 2 (by decide)
  have b0 := hk 0 .u8 rfl
  have b1 := hk 1 .u16 rfl
  have b2 := hk 2 .u16 rfl
  simp only [kmin, kmax, Nat.zero_add] at b0 b1 b2
  have m1 : ∀ x : Int, x - x / 256 * 256 = x % 256 := fun x => by omega
  refine ⟨fun c1 => ?_, fun c1 => ?_⟩
  · simp [hΦ.sum, hΦ.ocs, wrap_ocs, m1] at c1
    have hz : wrFail 2 (hdrOf Φ ρ 3) (ρ 3).list = 60 := by
      simp only [wrFail, g, a0, a1, a2]
      repeat' split
      all_goals first | rfl | omega
    exact leaf_wr_err hr hz (by decide) (by decide)
  · refine ⟨fun c2 => ?_, fun c2 => ?_⟩
    · simp [hΦ.sum, hΦ.ocs, wrap_ocs, m1] at c1 c2
      have hz : wrFail 2 (hdrOf Φ ρ 3) (ρ 3).list = 60 := by
        simp only [wrFail, g, a0, a1, a2]
        repeat' split
        all_goals first | rfl | omega
      exact leaf_wr_err hr hz (by decide) (by decide)
    · refine ⟨fun c3 => ?_, fun c3 => ?_⟩
      · simp [hΦ.sum, hΦ.ocs, wrap_ocs, m1] at c1 c2 c3
        have hz : wrFail 2 (hdrOf Φ ρ 3) (ρ 3).list = 5 := by
          simp only [wrFail, g, a0, a1, a2]
          repeat' split
          all_goals first | rfl | omega
        exact leaf_wr_err hr hz (by decide) (by decide)
      · simp [hΦ.sum, hΦ.ocs, wrap_ocs, m1] at c1 c2 c3
        have hz : wrFail 2 (hdrOf Φ ρ 3) (ρ 3).list = 0 := by
          simp only [wrFail, g, a0, a1, a2]
          repeat' split
          all_goals first | rfl | omega
        refine leaf_wr_ok hr hz ?_ rfl (by decide)
        simp only [list_cons, list_nil, int_add, int_sub, int_mul, int_fdiv, int_len, den_var, den_num, D.int_i, fdiv_lit, m1, int_wr, den_fn, hΦ.sum, hΦ.ocs, wrap_ocs, wrGood, wrBase, putF, fld, fld1, List.set_cons_succ, List.set_cons_zero, List.cons_append, List.nil_append, g, a0, a1, a2]
        all_goals try simp only [List.cons.injEq, and_true, true_and]
        all_goals repeat' apply And.intro
        all_goals first | rfl | omega
end Go.Proofs.Ytfhjlimdakphcaa.Sx
/- Sx: what Go function 49 does, as a tree of conditions (printed by a tool of this claim, proved by the kernel). Conditions: none. -/
set_option maxRecDepth 100000
namespace Go.Proofs.Ytfhjlimdakphcaa.Sx
open Go
def treeWdNet4 : M (V × St) :=
(.split (.c2 .lt (.num 2028) (.c1 .len (.var 12)))
 (.ret (.t [.c (.sn), .c (.i .i64 (.num 5))], ⟨[], [], 3, 13, []⟩))
 (.ret (.t [.c (.s 3 1 0 (.num 0) (.num 20)), .c (.i .i64 (.num 0))], ⟨[], [(3, some ⟨true, .row [.u8] (.cons (.num 69) (.cons (.var 0) (.cons (.c2 .fdiv (.c2 .add (.num 20) (.c1 .len (.var 12))) (.num 256)) (.cons (.c2 .sub (.c2 .add (.num 20) (.c1 .len (.var 12))) (.c2 .mul (.c2 .fdiv (.c2 .add (.num 20) (.c1 .len (.var 12))) (.num 256)) (.num 256))) (.cons (.c2 .fdiv (.var 3) (.num 256)) (.cons (.c2 .sub (.var 3) (.c2 .mul (.c2 .fdiv (.var 3) (.num 256)) (.num 256))) (.cons (.num 0) (.cons (.num 0) (.cons (.var 1) (.cons (.var 2) (.cons (.c2 .fdiv (.c2 .sub (.num 65535) (.wr .u16 (.fn 2 (.c2 .add (.wr .u16 (.fn 1 (.cons (.num 69) (.cons (.var 0) (.cons (.c2 .fdiv (.c2 .add (.num 20) (.c1 .len (.var 12))) (.num 256)) (.cons (.c2 .sub (.c2 .add (.num 20) (.c1 .len (.var 12))) (.c2 .mul (.c2 .fdiv (.c2 .add (.num 20) (.c1 .len (.var 12))) (.num 256)) (.num 256))) (.cons (.c2 .fdiv (.var 3) (.num 256)) (.cons (.c2 .sub (.var 3) (.c2 .mul (.c2 .fdiv (.var 3) (.num 256)) (.num 256))) (.cons (.num 0) (.cons (.num 0) (.cons (.var 1) (.cons (.var 2) (.cons (.num 0) (.cons (.num 0) (.cons (.var 4) (.cons (.var 5) (.cons (.var 6) (.cons (.var 7) (.cons (.var 8) (.cons (.var 9) (.cons (.var 10) (.cons (.var 11) .nil)))))))))))))))))))) .nil .nil)) (.wr .u16 (.fn 1 .nil .nil .nil))) .nil .nil))) (.num 256)) (.cons (.c2 .sub (.c2 .sub (.num 65535) (.wr .u16 (.fn 2 (.c2 .add (.wr .u16 (.fn 1 (.cons (.num 69) (.cons (.var 0) (.cons (.c2 .fdiv (.c2 .add (.num 20) (.c1 .len (.var 12))) (.num 256)) (.cons (.c2 .sub (.c2 .add (.num 20) (.c1 .len (.var 12))) (.c2 .mul (.c2 .fdiv (.c2 .add (.num 20) (.c1 .len (.var 12))) (.num 256)) (.num 256))) (.cons (.c2 .fdiv (.var 3) (.num 256)) (.cons (.c2 .sub (.var 3) (.c2 .mul (.c2 .fdiv (.var 3) (.num 256)) (.num 256))) (.cons (.num 0) (.cons (.num 0) (.cons (.var 1) (.cons (.var 2) (.cons (.num 0) (.cons (.num 0) (.cons (.var 4) (.cons (.var 5) (.cons (.var 6) (.cons (.var 7) (.cons (.var 8) (.cons (.var 9) (.cons (.var 10) (.cons (.var 11) .nil)))))))))))))))))))) .nil .nil)) (.wr .u16 (.fn 1 .nil .nil .nil))) .nil .nil))) (.c2 .mul (.c2 .fdiv (.c2 .sub (.num 65535) (.wr .u16 (.fn 2 (.c2 .add (.wr .u16 (.fn 1 (.cons (.num 69) (.cons (.var 0) (.cons (.c2 .fdiv (.c2 .add (.num 20) (.c1 .len (.var 12))) (.num 256)) (.cons (.c2 .sub (.c2 .add (.num 20) (.c1 .len (.var 12))) (.c2 .mul (.c2 .fdiv (.c2 .add (.num 20) (.c1 .len (.var 12))) (.num 256)) (.num 256))) (.cons (.c2 .fdiv (.var 3) (.num 256)) (.cons (.c2 .sub (.var 3) (.c2 .mul (.c2 .fdiv (.var 3) (.num 256)) (.num 256))) (.cons (.num 0) (.cons (.num 0) (.cons (.var 1) (.cons (.var 2) (.cons (.num 0) (.cons (.num 0) (.cons (.var 4) (.cons (.var 5) (.cons (.var 6) (.cons (.var 7) (.cons (.var 8) (.cons (.var 9) (.cons (.var 10) (.cons (.var 11) .nil)))))))))))))))))))) .nil .nil)) (.wr .u16 (.fn 1 .nil .nil .nil))) .nil .nil))) (.num 256)) (.num 256))) (.cons (.var 4) (.cons (.var 5) (.cons (.var 6) (.cons (.var 7) (.cons (.var 8) (.cons (.var 9) (.cons (.var 10) (.cons (.var 11) .nil))))))))))))))))))))⟩)], 5, 13, []⟩)))
theorem treeWdNet4_is : funTree (ctxN Go.Proofs.Try.prog annsHd consSum 8) annsHd 49 (tBytes 3 3 60 20 kNet4).vs (tBytes 3 3 60 20 kNet4).bs (tBytes 3 3 60 20 kNet4).n (preF (tBytes 3 3 60 20 kNet4).res) = treeWdNet4 := by kernel_rfl
end Go.Proofs.Ytfhjlimdakphcaa.Sx
/- Sx laws of headers: the writers of layer Net4. Conditions: none. -/
set_option linter.unusedVariables false
set_option linter.unusedSimpArgs false
namespace Go.Proofs.Ytfhjlimdakphcaa.Sx
open Go
set_option maxRecDepth 100000 in
theorem wdNet4_ok {Φ : Sig} (hΦ : HdSig Φ) : TmplOk Go.Proofs.Try.prog Φ 49 (tBytes 3 3 60 20 kNet4) := by
  refine tmpl_of (consSum_ok hΦ.toSumSig) treeWdNet4_is (fun ρ res hres => ⟨eqJ, ?_⟩)
  obtain ⟨hk, hres⟩ := inKs_some hres
  obtain ⟨h0, hres⟩ := short_some hres
  obtain ⟨hb, hres⟩ := bytes_some hres
  have hr := wr_res (n := 12) hΦ ⟨by decide, by decide⟩ hres
  have h0' : (ρ 12).list.length ≤ 140737488351232 := h0
  have hb' : Bytes (ρ 12).list := hb
  have a0 : (hdrOf Φ ρ 12)[0]?.getD 0 = (ρ 0).int := hdr_at 12 0 (by decide)
  have a1 : (hdrOf Φ ρ 12)[1]?.getD 0 = (ρ 1).int := hdr_at 12 1 (by decide)
  have a2 : (hdrOf Φ ρ 12)[2]?.getD 0 = (ρ 2).int := hdr_at 12 2 (by decide)
  have a3 : (hdrOf Φ ρ 12)[3]?.getD 0 = (ρ 3).int := hdr_at 12 3 (by decide)
  have a4 : (hdrOf Φ ρ 12)[4]?.getD 0 = (ρ 4).int := hdr_at 12 4 (by decide)
  have a5 : (hdrOf Φ ρ 12)[5]?.getD 0 = (ρ 5).int := hdr_at 12 5 (by decide)
  have a6 : (hdrOf Φ ρ 12)[6]?.getD 0 = (ρ 6).int := hdr_at 12 6 (by decide)
  have a7 : (hdrOf Φ ρ 12)[7]?.getD 0 = (ρ 7).int := hdr_at 12 7 (by decide)
  have a8 : (hdrOf Φ ρ 12)[8]?.getD 0 = (ρ 8).int := hdr_at 12 8 (by decide)
  have a9 : (hdrOf Φ ρ 12)[9]?.getD 0 = (ρ 9).int := hdr_at 12 9 (by decide)
  have a10 : (hdrOf Φ ρ 12)[10]?.getD 0 = (ρ 10).int := hdr_at 12 10 (by decide)
  have a11 : (hdrOf Φ ρ 12)[11]?.getD 0 = (ρ 11).int := hdr_at 12 11 (by decide)
  have b0 := hk 0 .u8 rfl
  have b1 := hk 1 .u8 rfl
  have b2 := hk 2 .u8 rfl
  have b3 := hk 3 .u16 rfl
  have b4 := hk 4 .u8 rfl
  have b5 := hk 5 .u8 rfl
  have b6 := hk 6 .u8 rfl
  have b7 := hk 7 .u8 rfl
  have b8 := hk 8 .u8 rfl
  have b9 := hk 9 .u8 rfl
  have b10 := hk 10 .u8 rfl
  have b11 := hk 11 .u8 rfl
  simp only [kmin, kmax, Nat.zero_add] at b0 b1 b2 b3 b4 b5 b6 b7 b8 b9 b10 b11
  have m1 : ∀ x : Int, x - x / 256 * 256 = x % 256 := fun x => by omega
  have hB : 0 ≤ wsum (wrBase 3 (hdrOf Φ ρ 12) (ρ 12).list) := by simp only [wrBase, wsum, g, a0, a1, a2, a3, a4, a5, a6, a7, a8, a9, a10, a11]; omega
  have hS : ocs (ocs (wsum (wrBase 3 (hdrOf Φ ρ 12) (ρ 12).list)) + ocs (wsum [])) = ocs (wsum (wrBase 3 (hdrOf Φ ρ 12) (ρ 12).list ++ [])) := by rw [ocs_two hB (by simp [wsum]), wsum_app _ _ (by simp [wrBase])]
  simp only [wrBase, g, a0, a1, a2, a3, a4, a5, a6, a7, a8, a9, a10, a11, List.cons_append, List.nil_append] at hS
  have hR := ocs_range (wsum (wrBase 3 (hdrOf Φ ρ 12) (ρ 12).list ++ []))
  simp only [wrBase, g, a0, a1, a2, a3, a4, a5, a6, a7, a8, a9, a10, a11, List.cons_append, List.nil_append] at hR
  refine ⟨fun c1 => ?_, fun c1 => ?_⟩
  · simp [hΦ.sum, hΦ.ocs, wrap_ocs, m1] at c1
    have hz : wrFail 3 (hdrOf Φ ρ 12) (ρ 12).list = 5 := by
      simp only [wrFail, g, a0, a1, a2, a3, a4, a5, a6, a7, a8, a9, a10, a11]
      repeat' split
      all_goals first | rfl | omega
    exact leaf_wr_err hr hz (by decide) (by decide)
  · simp [hΦ.sum, hΦ.ocs, wrap_ocs, m1] at c1
    have hz : wrFail 3 (hdrOf Φ ρ 12) (ρ 12).list = 0 := by
      simp only [wrFail, g, a0, a1, a2, a3, a4, a5, a6, a7, a8, a9, a10, a11]
      repeat' split
      all_goals first | rfl | omega
    refine leaf_wr_ok hr hz ?_ rfl (by decide)
    simp only [list_cons, list_nil, int_add, int_sub, int_mul, int_fdiv, int_len, den_var, den_num, D.int_i, fdiv_lit, m1, int_wr, den_fn, hΦ.sum, hΦ.ocs, wrap_ocs, hS, wrGood, wrBase, putF, fld, fld1, List.set_cons_succ, List.set_cons_zero, List.cons_append, List.nil_append, g, a0, a1, a2, a3, a4, a5, a6, a7, a8, a9, a10, a11]
    all_goals try simp only [List.cons.injEq, and_true, true_and]
    all_goals repeat' apply And.intro
    all_goals first | rfl | omega
end Go.Proofs.Ytfhjlimdakphcaa.Sx
/- Sx: what Go function 57 does, as a tree of conditions (printed by a tool of this claim, proved by the kernel). Conditions: none. -/
set_option maxRecDepth 100000
namespace Go.Proofs.Ytfhjlimdakphcaa.Sx
open Go
def treeWdNet6 : M (V × St) :=
(.split (.c2 .le (.num 1048576) (.var 1))
 (.ret (.t [.c (.sn), .c (.i .i64 (.num 80))], ⟨[], [], 3, 37, []⟩))
 (.split (.c2 .lt (.num 2008) (.c1 .len (.var 36)))
  (.ret (.t [.c (.sn), .c (.i .i64 (.num 5))], ⟨[], [], 3, 37, []⟩))
  (.ret (.t [.c (.s 3 1 0 (.num 0) (.num 40)), .c (.i .i64 (.num 0))], ⟨[], [(3, some ⟨true, .row [.u8] (.cons (.c2 .fdiv (.c2 .add (.c2 .add (.num 24576) (.c2 .mul (.var 0) (.num 16))) (.c2 .fdiv (.var 1) (.num 65536))) (.num 256)) (.cons (.c2 .sub (.c2 .add (.c2 .add (.num 24576) (.c2 .mul (.var 0) (.num 16))) (.c2 .fdiv (.var 1) (.num 65536))) (.c2 .mul (.c2 .fdiv (.c2 .add (.c2 .add (.num 24576) (.c2 .mul (.var 0) (.num 16))) (.c2 .fdiv (.var 1) (.num 65536))) (.num 256)) (.num 256))) (.cons (.c2 .fdiv (.c2 .sub (.var 1) (.c2 .mul (.c2 .fdiv (.var 1) (.num 65536)) (.num 65536))) (.num 256)) (.cons (.c2 .sub (.c2 .sub (.var 1) (.c2 .mul (.c2 .fdiv (.var 1) (.num 65536)) (.num 65536))) (.c2 .mul (.c2 .fdiv (.c2 .sub (.var 1) (.c2 .mul (.c2 .fdiv (.var 1) (.num 65536)) (.num 65536))) (.num 256)) (.num 256))) (.cons (.c2 .fdiv (.c1 .len (.var 36)) (.num 256)) (.cons (.c2 .sub (.c1 .len (.var 36)) (.c2 .mul (.c2 .fdiv (.c1 .len (.var 36)) (.num 256)) (.num 256))) (.cons (.var 2) (.cons (.var 3) (.cons (.var 4) (.cons (.var 5) (.cons (.var 6) (.cons (.var 7) (.cons (.var 8) (.cons (.var 9) (.cons (.var 10) (.cons (.var 11) (.cons (.var 12) (.cons (.var 13) (.cons (.var 14) (.cons (.var 15) (.cons (.var 16) (.cons (.var 17) (.cons (.var 18) (.cons (.var 19) (.cons (.var 20) (.cons (.var 21) (.cons (.var 22) (.cons (.var 23) (.cons (.var 24) (.cons (.var 25) (.cons (.var 26) (.cons (.var 27) (.cons (.var 28) (.cons (.var 29) (.cons (.var 30) (.cons (.var 31) (.cons (.var 32) (.cons (.var 33) (.cons (.var 34) (.cons (.var 35) .nil))))))))))))))))))))))))))))))))))))))))⟩)], 4, 37, []⟩))))
theorem treeWdNet6_is : funTree (ctxN Go.Proofs.Try.prog annsHd consSum 8) annsHd 57 (tBytes 4 3 60 40 kNet6).vs (tBytes 4 3 60 40 kNet6).bs (tBytes 4 3 60 40 kNet6).n (preF (tBytes 4 3 60 40 kNet6).res) = treeWdNet6 := by kernel_rfl
end Go.Proofs.Ytfhjlimdakphcaa.Sx
/- Sx laws of headers: the writers of layer Net6. Conditions: none. -/
set_option linter.unusedVariables false
set_option linter.unusedSimpArgs false
namespace Go.Proofs.Ytfhjlimdakphcaa.Sx
open Go
set_option maxRecDepth 100000 in
theorem wdNet6_ok {Φ : Sig} (hΦ : HdSig Φ) : TmplOk Go.Proofs.Try.prog Φ 57 (tBytes 4 3 60 40 kNet6) := by
  refine tmpl_of (consSum_ok hΦ.toSumSig) treeWdNet6_is (fun ρ res hres => ⟨eqJ, ?_⟩)
  obtain ⟨hk, hres⟩ := inKs_some hres
  obtain ⟨h0, hres⟩ := short_some hres
  obtain ⟨hb, hres⟩ := bytes_some hres
  have hr := wr_res (n := 36) hΦ ⟨by decide, by decide⟩ hres
  have h0' : (ρ 36).list.length ≤ 140737488351232 := h0
  have hb' : Bytes (ρ 36).list := hb
  have a0 : (hdrOf Φ ρ 36)[0]?.getD 0 = (ρ 0).int := hdr_at 36 0 (by decide)
  have a1 : (hdrOf Φ ρ 36)[1]?.getD 0 = (ρ 1).int := hdr_at 36 1 (by decide)
  have a2 : (hdrOf Φ ρ 36)[2]?.getD 0 = (ρ 2).int := hdr_at 36 2 (by decide)
  have a3 : (hdrOf Φ ρ 36)[3]?.getD 0 = (ρ 3).int := hdr_at 36 3 (by decide)
  have a4 : (hdrOf Φ ρ 36)[4]?.getD 0 = (ρ 4).int := hdr_at 36 4 (by decide)
  have a5 : (hdrOf Φ ρ 36)[5]?.getD 0 = (ρ 5).int := hdr_at 36 5 (by decide)
  have a6 : (hdrOf Φ ρ 36)[6]?.getD 0 = (ρ 6).int := hdr_at 36 6 (by decide)
  have a7 : (hdrOf Φ ρ 36)[7]?.getD 0 = (ρ 7).int := hdr_at 36 7 (by decide)
  have a8 : (hdrOf Φ ρ 36)[8]?.getD 0 = (ρ 8).int := hdr_at 36 8 (by decide)
  have a9 : (hdrOf Φ ρ 36)[9]?.getD 0 = (ρ 9).int := hdr_at 36 9 (by decide)
  have a10 : (hdrOf Φ ρ 36)[10]?.getD 0 = (ρ 10).int := hdr_at 36 10 (by decide)
  have a11 : (hdrOf Φ ρ 36)[11]?.getD 0 = (ρ 11).int := hdr_at 36 11 (by decide)
  have a12 : (hdrOf Φ ρ 36)[12]?.getD 0 = (ρ 12).int := hdr_at 36 12 (by decide)
  have a13 : (hdrOf Φ ρ 36)[13]?.getD 0 = (ρ 13).int := hdr_at 36 13 (by decide)
  have a14 : (hdrOf Φ ρ 36)[14]?.getD 0 = (ρ 14).int := hdr_at 36 14 (by decide)
  have a15 : (hdrOf Φ ρ 36)[15]?.getD 0 = (ρ 15).int := hdr_at 36 15 (by decide)
  have a16 : (hdrOf Φ ρ 36)[16]?.getD 0 = (ρ 16).int := hdr_at 36 16 (by decide)
  have a17 : (hdrOf Φ ρ 36)[17]?.getD 0 = (ρ 17).int := hdr_at 36 17 (by decide)
  have a18 : (hdrOf Φ ρ 36)[18]?.getD 0 = (ρ 18).int := hdr_at 36 18 (by decide)
  have a19 : (hdrOf Φ ρ 36)[19]?.getD 0 = (ρ 19).int := hdr_at 36 19 (by decide)
  have a20 : (hdrOf Φ ρ 36)[20]?.getD 0 = (ρ 20).int := hdr_at 36 20 (by decide)
  have a21 : (hdrOf Φ ρ 36)[21]?.getD 0 = (ρ 21).int := hdr_at 36 21 (by decide)
  have a22 : (hdrOf Φ ρ 36)[22]?.getD 0 = (ρ 22).int := hdr_at 36 22 (by decide)
  have a23 : (hdrOf Φ ρ 36)[23]?.getD 0 = (ρ 23).int := hdr_at 36 23 (by decide)
  have a24 : (hdrOf Φ ρ 36)[24]?.getD 0 = (ρ 24).int := hdr_at 36 24 (by decide)
  have a25 : (hdrOf Φ ρ 36)[25]?.getD 0 = (ρ 25).int := hdr_at 36 25 (by decide)
  have a26 : (hdrOf Φ ρ 36)[26]?.getD 0 = (ρ 26).int := hdr_at 36 26 (by decide)
  have a27 : (hdrOf Φ ρ 36)[27]?.getD 0 = (ρ 27).int := hdr_at 36 27 (by decide)
  have a28 : (hdrOf Φ ρ 36)[28]?.getD 0 = (ρ 28).int := hdr_at 36 28 (by decide)
  have a29 : (hdrOf Φ ρ 36)[29]?.getD 0 = (ρ 29).int := hdr_at 36 29 (by decide)
  have a30 : (hdrOf Φ ρ 36)[30]?.getD 0 = (ρ 30).int := hdr_at 36 30 (by decide)
  have a31 : (hdrOf Φ ρ 36)[31]?.getD 0 = (ρ 31).int := hdr_at 36 31 (by decide)
  have a32 : (hdrOf Φ ρ 36)[32]?.getD 0 = (ρ 32).int := hdr_at 36 32 (by decide)
  have a33 : (hdrOf Φ ρ 36)[33]?.getD 0 = (ρ 33).int := hdr_at 36 33 (by decide)
  have a34 : (hdrOf Φ ρ 36)[34]?.getD 0 = (ρ 34).int := hdr_at 36 34 (by decide)
  have a35 : (hdrOf Φ ρ 36)[35]?.getD 0 = (ρ 35).int := hdr_at 36 35 (by decide)
  have b0 := hk 0 .u8 rfl
  have b1 := hk 1 .u32 rfl
  simp only [kmin, kmax, Nat.zero_add] at b0 b1
  have m1 : ∀ x : Int, x - x / 256 * 256 = x % 256 := fun x => by omega
  refine ⟨fun c1 => ?_, fun c1 => ?_⟩
  · simp [hΦ.sum, hΦ.ocs, wrap_ocs, m1] at c1
    have hz : wrFail 4 (hdrOf Φ ρ 36) (ρ 36).list = 80 := by
      simp only [wrFail, g, a0, a1, a2, a3, a4, a5, a6, a7, a8, a9, a10, a11, a12, a13, a14, a15, a16, a17, a18, a19, a20, a21, a22, a23, a24, a25, a26, a27, a28, a29, a30, a31, a32, a33, a34, a35]
      repeat' split
      all_goals first | rfl | omega
    exact leaf_wr_err hr hz (by decide) (by decide)
  · refine ⟨fun c2 => ?_, fun c2 => ?_⟩
    · simp [hΦ.sum, hΦ.ocs, wrap_ocs, m1] at c1 c2
      have hz : wrFail 4 (hdrOf Φ ρ 36) (ρ 36).list = 5 := by
        simp only [wrFail, g, a0, a1, a2, a3, a4, a5, a6, a7, a8, a9, a10, a11, a12, a13, a14, a15, a16, a17, a18, a19, a20, a21, a22, a23, a24, a25, a26, a27, a28, a29, a30, a31, a32, a33, a34, a35]
        repeat' split
        all_goals first | rfl | omega
      exact leaf_wr_err hr hz (by decide) (by decide)
    · simp [hΦ.sum, hΦ.ocs, wrap_ocs, m1] at c1 c2
      have hz : wrFail 4 (hdrOf Φ ρ 36) (ρ 36).list = 0 := by
        simp only [wrFail, g, a0, a1, a2, a3, a4, a5, a6, a7, a8, a9, a10, a11, a12, a13, a14, a15, a16, a17, a18, a19, a20, a21, a22, a23, a24, a25, a26, a27, a28, a29, a30, a31, a32, a33, a34, a35]
        repeat' split
        all_goals first | rfl | omega
      refine leaf_wr_ok hr hz ?_ rfl (by decide)
      simp only [list_cons, list_nil, int_add, int_sub, int_mul, int_fdiv, int_len, den_var, den_num, D.int_i, fdiv_lit, m1, int_wr, den_fn, hΦ.sum, hΦ.ocs, wrap_ocs, wrGood, wrBase, putF, fld, fld1, List.set_cons_succ, List.set_cons_zero, List.cons_append, List.nil_append, g, a0, a1, a2, a3, a4, a5, a6, a7, a8, a9, a10, a11, a12, a13, a14, a15, a16, a17, a18, a19, a20, a21, a22, a23, a24, a25, a26, a27, a28, a29, a30, a31, a32, a33, a34, a35]
      all_goals try simp only [List.cons.injEq, and_true, true_and]
      all_goals repeat' apply And.intro
      all_goals first | rfl | omega
end Go.Proofs.Ytfhjlimdakphcaa.Sx
/- Sx: what Go function 65 does, as a tree of conditions (printed by a tool of this claim, proved by the kernel). Conditions: none. -/
set_option maxRecDepth 100000
namespace Go.Proofs.Ytfhjlimdakphcaa.Sx
open Go
def treeWdSeg : M (V × St) :=
(.split (.c2 .le (.num 64) (.var 4))
 (.ret (.t [.c (.sn), .c (.i .i64 (.num 90))], ⟨[], [], 3, 7, []⟩))
 (.split (.c2 .lt (.num 2028) (.c1 .len (.var 6)))
  (.ret (.t [.c (.sn), .c (.i .i64 (.num 5))], ⟨[], [], 3, 7, []⟩))
  (.ret (.t [.c (.s 3 1 0 (.num 0) (.num 20)), .c (.i .i64 (.num 0))], ⟨[], [(3, some ⟨true, .row [.u8] (.cons (.c2 .fdiv (.var 0) (.num 256)) (.cons (.c2 .sub (.var 0) (.c2 .mul (.c2 .fdiv (.var 0) (.num 256)) (.num 256))) (.cons (.c2 .fdiv (.var 1) (.num 256)) (.cons (.c2 .sub (.var 1) (.c2 .mul (.c2 .fdiv (.var 1) (.num 256)) (.num 256))) (.cons (.c2 .fdiv (.c2 .fdiv (.var 2) (.num 65536)) (.num 256)) (.cons (.c2 .sub (.c2 .fdiv (.var 2) (.num 65536)) (.c2 .mul (.c2 .fdiv (.c2 .fdiv (.var 2) (.num 65536)) (.num 256)) (.num 256))) (.cons (.c2 .fdiv (.c2 .sub (.var 2) (.c2 .mul (.c2 .fdiv (.var 2) (.num 65536)) (.num 65536))) (.num 256)) (.cons (.c2 .sub (.c2 .sub (.var 2) (.c2 .mul (.c2 .fdiv (.var 2) (.num 65536)) (.num 65536))) (.c2 .mul (.c2 .fdiv (.c2 .sub (.var 2) (.c2 .mul (.c2 .fdiv (.var 2) (.num 65536)) (.num 65536))) (.num 256)) (.num 256))) (.cons (.c2 .fdiv (.c2 .fdiv (.var 3) (.num 65536)) (.num 256)) (.cons (.c2 .sub (.c2 .fdiv (.var 3) (.num 65536)) (.c2 .mul (.c2 .fdiv (.c2 .fdiv (.var 3) (.num 65536)) (.num 256)) (.num 256))) (.cons (.c2 .fdiv (.c2 .sub (.var 3) (.c2 .mul (.c2 .fdiv (.var 3) (.num 65536)) (.num 65536))) (.num 256)) (.cons (.c2 .sub (.c2 .sub (.var 3) (.c2 .mul (.c2 .fdiv (.var 3) (.num 65536)) (.num 65536))) (.c2 .mul (.c2 .fdiv (.c2 .sub (.var 3) (.c2 .mul (.c2 .fdiv (.var 3) (.num 65536)) (.num 65536))) (.num 256)) (.num 256))) (.cons (.c2 .fdiv (.c2 .add (.num 20480) (.var 4)) (.num 256)) (.cons (.c2 .sub (.c2 .add (.num 20480) (.var 4)) (.c2 .mul (.c2 .fdiv (.c2 .add (.num 20480) (.var 4)) (.num 256)) (.num 256))) (.cons (.c2 .fdiv (.var 5) (.num 256)) (.cons (.c2 .sub (.var 5) (.c2 .mul (.c2 .fdiv (.var 5) (.num 256)) (.num 256))) (.cons (.c2 .fdiv (.c2 .sub (.num 65535) (.wr .u16 (.fn 2 (.c2 .add (.wr .u16 (.fn 1 (.cons (.c2 .fdiv (.var 0) (.num 256)) (.cons (.c2 .sub (.var 0) (.c2 .mul (.c2 .fdiv (.var 0) (.num 256)) (.num 256))) (.cons (.c2 .fdiv (.var 1) (.num 256)) (.cons (.c2 .sub (.var 1) (.c2 .mul (.c2 .fdiv (.var 1) (.num 256)) (.num 256))) (.cons (.c2 .fdiv (.c2 .fdiv (.var 2) (.num 65536)) (.num 256)) (.cons (.c2 .sub (.c2 .fdiv (.var 2) (.num 65536)) (.c2 .mul (.c2 .fdiv (.c2 .fdiv (.var 2) (.num 65536)) (.num 256)) (.num 256))) (.cons (.c2 .fdiv (.c2 .sub (.var 2) (.c2 .mul (.c2 .fdiv (.var 2) (.num 65536)) (.num 65536))) (.num 256)) (.cons (.c2 .sub (.c2 .sub (.var 2) (.c2 .mul (.c2 .fdiv (.var 2) (.num 65536)) (.num 65536))) (.c2 .mul (.c2 .fdiv (.c2 .sub (.var 2) (.c2 .mul (.c2 .fdiv (.var 2) (.num 65536)) (.num 65536))) (.num 256)) (.num 256))) (.cons (.c2 .fdiv (.c2 .fdiv (.var 3) (.num 65536)) (.num 256)) (.cons (.c2 .sub (.c2 .fdiv (.var 3) (.num 65536)) (.c2 .mul (.c2 .fdiv (.c2 .fdiv (.var 3) (.num 65536)) (.num 256)) (.num 256))) (.cons (.c2 .fdiv (.c2 .sub (.var 3) (.c2 .mul (.c2 .fdiv (.var 3) (.num 65536)) (.num 65536))) (.num 256)) (.cons (.c2 .sub (.c2 .sub (.var 3) (.c2 .mul (.c2 .fdiv (.var 3) (.num 65536)) (.num 65536))) (.c2 .mul (.c2 .fdiv (.c2 .sub (.var 3) (.c2 .mul (.c2 .fdiv (.var 3) (.num 65536)) (.num 65536))) (.num 256)) (.num 256))) (.cons (.c2 .fdiv (.c2 .add (.num 20480) (.var 4)) (.num 256)) (.cons (.c2 .sub (.c2 .add (.num 20480) (.var 4)) (.c2 .mul (.c2 .fdiv (.c2 .add (.num 20480) (.var 4)) (.num 256)) (.num 256))) (.cons (.c2 .fdiv (.var 5) (.num 256)) (.cons (.c2 .sub (.var 5) (.c2 .mul (.c2 .fdiv (.var 5) (.num 256)) (.num 256))) (.cons (.num 0) (.cons (.num 0) (.cons (.num 0) (.cons (.num 0) .nil)))))))))))))))))))) .nil .nil)) (.wr .u16 (.fn 1 (.var 6) .nil .nil))) .nil .nil))) (.num 256)) (.cons (.c2 .sub (.c2 .sub (.num 65535) (.wr .u16 (.fn 2 (.c2 .add (.wr .u16 (.fn 1 (.cons (.c2 .fdiv (.var 0) (.num 256)) (.cons (.c2 .sub (.var 0) (.c2 .mul (.c2 .fdiv (.var 0) (.num 256)) (.num 256))) (.cons (.c2 .fdiv (.var 1) (.num 256)) (.cons (.c2 .sub (.var 1) (.c2 .mul (.c2 .fdiv (.var 1) (.num 256)) (.num 256))) (.cons (.c2 .fdiv (.c2 .fdiv (.var 2) (.num 65536)) (.num 256)) (.cons (.c2 .sub (.c2 .fdiv (.var 2) (.num 65536)) (.c2 .mul (.c2 .fdiv (.c2 .fdiv (.var 2) (.num 65536)) (.num 256)) (.num 256))) (.cons (.c2 .fdiv (.c2 .sub (.var 2) (.c2 .mul (.c2 .fdiv (.var 2) (.num 65536)) (.num 65536))) (.num 256)) (.cons (.c2 .sub (.c2 .sub (.var 2) (.c2 .mul (.c2 .fdiv (.var 2) (.num 65536)) (.num 65536))) (.c2 .mul (.c2 .fdiv (.c2 .sub (.var 2) (.c2 .mul (.c2 .fdiv (.var 2) (.num 65536)) (.num 65536))) (.num 256)) (.num 256))) (.cons (.c2 .fdiv (.c2 .fdiv (.var 3) (.num 65536)) (.num 256)) (.cons (.c2 .sub (.c2 .fdiv (.var 3) (.num 65536)) (.c2 .mul (.c2 .fdiv (.c2 .fdiv (.var 3) (.num 65536)) (.num 256)) (.num 256))) (.cons (.c2 .fdiv (.c2 .sub (.var 3) (.c2 .mul (.c2 .fdiv (.var 3) (.num 65536)) (.num 65536))) (.num 256)) (.cons (.c2 .sub (.c2 .sub (.var 3) (.c2 .mul (.c2 .fdiv (.var 3) (.num 65536)) (.num 65536))) (.c2 .mul (.c2 .fdiv (.c2 .sub (.var 3) (.c2 .mul (.c2 .fdiv (.var 3) (.num 65536)) (.num 65536))) (.num 256)) (.num 256))) (.cons (.c2 .fdiv (.c2 .add (.num 20480) (.var 4)) (.num 256)) (.cons (.c2 .sub (.c2 .add (.num 20480) (.var 4)) (.c2 .mul (.c2 .fdiv (.c2 .add (.num 20480) (.var 4)) (.num 256)) (.num 256))) (.cons (.c2 .fdiv (.var 5) (.num 256)) (.cons (.c2 .sub (.var 5) (.c2 .mul (.c2 .fdiv (.var 5) (.num 256)) (.num 256))) (.cons (.num 0) (.cons (.num 0) (.cons (.num 0) (.cons (.num 0) .nil)))))))))))))))))))) .nil .nil)) (.wr .u16 (.fn 1 (.var 6) .nil .nil))) .nil .nil))) (.c2 .mul (.c2 .fdiv (.c2 .sub (.num 65535) (.wr .u16 (.fn 2 (.c2 .add (.wr .u16 (.fn 1 (.cons (.c2 .fdiv (.var 0) (.num 256)) (.cons (.c2 .sub (.var 0) (.c2 .mul (.c2 .fdiv (.var 0) (.num 256)) (.num 256))) (.cons (.c2 .fdiv (.var 1) (.num 256)) (.cons (.c2 .sub (.var 1) (.c2 .mul (.c2 .fdiv (.var 1) (.num 256)) (.num 256))) (.cons (.c2 .fdiv (.c2 .fdiv (.var 2) (.num 65536)) (.num 256)) (.cons (.c2 .sub (.c2 .fdiv (.var 2) (.num 65536)) (.c2 .mul (.c2 .fdiv (.c2 .fdiv (.var 2) (.num 65536)) (.num 256)) (.num 256))) (.cons (.c2 .fdiv (.c2 .sub (.var 2) (.c2 .mul (.c2 .fdiv (.var 2) (.num 65536)) (.num 65536))) (.num 256)) (.cons (.c2 .sub (.c2 .sub (.var 2) (.c2 .mul (.c2 .fdiv (.var 2) (.num 65536)) (.num 65536))) (.c2 .mul (.c2 .fdiv (.c2 .sub (.var 2) (.c2 .mul (.c2 .fdiv (.var 2) (.num 65536)) (.num 65536))) (.num 256)) (.num 256))) (.cons (.c2 .fdiv (.c2 .fdiv (.var 3) (.num 65536)) (.num 256)) (.cons (.c2 .sub (.c2 .fdiv (.var 3) (.num 65536)) (.c2 .mul (.c2 .fdiv (.c2 .fdiv (.var 3) (.num 65536)) (.num 256)) (.num 256))) (.cons (.c2 .fdiv (.c2 .sub (.var 3) (.c2 .mul (.c2 .fdiv (.var 3) (.num 65536)) (.num 65536))) (.num 256)) (.cons (.c2 .sub (.c2 .sub (.var 3) (.c2 .mul (.c2 .fdiv (.var 3) (.num 65536)) (.num 65536))) (.c2 .mul (.c2 .fdiv (.c2 .sub (.var 3) (.c2 .mul (.c2 .fdiv (.var 3) (.num 65536)) (.num 65536))) (.num 256)) (.num 256))) (.cons (.c2 .fdiv (.c2 .add (.num 20480) (.var 4)) (.num 256)) (.cons (.c2 .sub (.c2 .add (.num 20480) (.var 4)) (.c2 .mul (.c2 .fdiv (.c2 .add (.num 20480) (.var 4)) (.num 256)) (.num 256))) (.cons (.c2 .fdiv (.var 5) (.num 256)) (.cons (.c2 .sub (.var 5) (.c2 .mul (.c2 .fdiv (.var 5) (.num 256)) (.num 256))) (.cons (.num 0) (.cons (.num 0) (.cons (.num 0) (.cons (.num 0) .nil)))))))))))))))))))) .nil .nil)) (.wr .u16 (.fn 1 (.var 6) .nil .nil))) .nil .nil))) (.num 256)) (.num 256))) (.cons (.num 0) (.cons (.num 0) .nil))))))))))))))))))))⟩)], 6, 7, []⟩))))
theorem treeWdSeg_is : funTree (ctxN Go.Proofs.Try.prog annsHd consSum 8) annsHd 65 (tBytes 5 3 60 20 kSeg).vs (tBytes 5 3 60 20 kSeg).bs (tBytes 5 3 60 20 kSeg).n (preF (tBytes 5 3 60 20 kSeg).res) = treeWdSeg := by kernel_rfl
end Go.Proofs.Ytfhjlimdakphcaa.Sx
/- Sx laws of headers: the writers of layer Seg. Conditions: none. -/
set_option linter.unusedVariables false
set_option linter.unusedSimpArgs false
namespace Go.Proofs.Ytfhjlimdakphcaa.Sx
open Go
set_option maxRecDepth 100000 in
theorem wdSeg_ok {Φ : Sig} (hΦ : HdSig Φ) : TmplOk Go.Proofs.Try.prog Φ 65 (tBytes 5 3 60 20 kSeg) := by
  refine tmpl_of (consSum_ok hΦ.toSumSig) treeWdSeg_is (fun ρ res hres => ⟨eqJ, ?_⟩)
  obtain ⟨hk, hres⟩ := inKs_some hres
  obtain ⟨h0, hres⟩ := short_some hres
  obtain ⟨hb, hres⟩ := bytes_some hres
  have hr := wr_res (n := 6) hΦ ⟨by decide, by decide⟩ hres
  have h0' : (ρ 6).list.length ≤ 140737488351232 := h0
  have hb' : Bytes (ρ 6).list := hb
  have a0 : (hdrOf Φ ρ 6)[0]?.getD 0 = (ρ 0).int := hdr_at 6 0 (by decide)
  have a1 : (hdrOf Φ ρ 6)[1]?.getD 0 = (ρ 1).int := hdr_at 6 1 (by decide)
  have a2 : (hdrOf Φ ρ 6)[2]?.getD 0 = (ρ 2).int := hdr_at 6 2 (by decide)
  have a3 : (hdrOf Φ ρ 6)[3]?.getD 0 = (ρ 3).int := hdr_at 6 3 (by decide)
  have a4 : (hdrOf Φ ρ 6)[4]?.getD 0 = (ρ 4).int := hdr_at 6 4 (by decide)
  have a5 : (hdrOf Φ ρ 6)[5]?.getD 0 = (ρ 5).int := hdr_at 6 5 (by decide)
  have b0 := hk 0 .u16 rfl
  have b1 := hk 1 .u16 rfl
  have b2 := hk 2 .u32 rfl
  have b3 := hk 3 .u32 rfl
  have b4 := hk 4 .u8 rfl
  have b5 := hk 5 .u16 rfl
  simp only [kmin, kmax, Nat.zero_add] at b0 b1 b2 b3 b4 b5
  have n1 : ∀ x : Int, x / 65536 / 256 = x / 16777216 := fun x => by omega
  have n2 : ∀ x : Int, (x - x / 65536 * 65536) / 256 = x / 256 % 256 := fun x => by omega
  have n3 : ∀ x : Int, (x - x / 65536 * 65536) % 256 = x % 256 := fun x => by omega
  have n4 : ∀ x : Int, x / 65536 - x / 16777216 * 256 = x / 65536 % 256 := fun x => by omega
  have n5 : ∀ x : Int, x - x / 65536 * 65536 - x / 256 % 256 * 256 = x % 256 := fun x => by omega
  have n6 : ∀ x : Int, x / 256 / 256 = x / 65536 := fun x => by omega
  have n7 : ∀ x : Int, x / 256 - x / 65536 * 256 = x / 256 % 256 := fun x => by omega
  have m1 : ∀ x : Int, x - x / 256 * 256 = x % 256 := fun x => by omega
  have hB : 0 ≤ wsum (wrBase 5 (hdrOf Φ ρ 6) (ρ 6).list) := by simp only [wrBase, wsum, g, a0, a1, a2, a3, a4, a5]; omega
  have hS : ocs (ocs (wsum (wrBase 5 (hdrOf Φ ρ 6) (ρ 6).list)) + ocs (wsum (ρ 6).list)) = ocs (wsum (wrBase 5 (hdrOf Φ ρ 6) (ρ 6).list ++ (ρ 6).list)) := by rw [ocs_two hB (wsum_range hb').1, wsum_app _ _ (by simp [wrBase])]
  simp only [wrBase, g, a0, a1, a2, a3, a4, a5, List.cons_append, List.nil_append] at hS
  have hR := ocs_range (wsum (wrBase 5 (hdrOf Φ ρ 6) (ρ 6).list ++ (ρ 6).list))
  simp only [wrBase, g, a0, a1, a2, a3, a4, a5, List.cons_append, List.nil_append] at hR
  refine ⟨fun c1 => ?_, fun c1 => ?_⟩
  · simp [hΦ.sum, hΦ.ocs, wrap_ocs, m1, hS] at c1
    have hz : wrFail 5 (hdrOf Φ ρ 6) (ρ 6).list = 90 := by
      simp only [wrFail, g, a0, a1, a2, a3, a4, a5]
      repeat' split
      all_goals first | rfl | omega
    exact leaf_wr_err hr hz (by decide) (by decide)
  · refine ⟨fun c2 => ?_, fun c2 => ?_⟩
    · simp [hΦ.sum, hΦ.ocs, wrap_ocs, m1, hS] at c1 c2
      have hz : wrFail 5 (hdrOf Φ ρ 6) (ρ 6).list = 5 := by
        simp only [wrFail, g, a0, a1, a2, a3, a4, a5]
        repeat' split
        all_goals first | rfl | omega
      exact leaf_wr_err hr hz (by decide) (by decide)
    · simp [hΦ.sum, hΦ.ocs, wrap_ocs, m1, hS] at c1 c2
      have hz : wrFail 5 (hdrOf Φ ρ 6) (ρ 6).list = 0 := by
        simp only [wrFail, g, a0, a1, a2, a3, a4, a5]
        repeat' split
        all_goals first | rfl | omega
      have q1 : (20480 + (ρ 4).int) / 256 = 80 := by omega
      have q2 : (20480 + (ρ 4).int) % 256 = (ρ 4).int := by omega
      have q3 : 20480 + (ρ 4).int - 80 * 256 = (ρ 4).int := by omega
      refine leaf_wr_ok hr hz ?_ rfl (by decide)
      simp only [list_cons, list_nil, int_add, int_sub, int_mul, int_fdiv, int_len, den_var, den_num, D.int_i, fdiv_lit, m1, n1, n2, n3, n4, n5, q1, q2, q3, int_wr, den_fn, hΦ.sum, hΦ.ocs, wrap_ocs, hS, wrGood, wrBase, putF, fld, fld1, List.set_cons_succ, List.set_cons_zero, List.cons_append, List.nil_append, g, a0, a1, a2, a3, a4, a5]
      all_goals try simp only [List.cons.injEq, and_true, true_and]
      all_goals repeat' apply And.intro
      all_goals first | rfl | omega
end Go.Proofs.Ytfhjlimdakphcaa.Sx
/- Sx: what Go function 73 does, as a tree of conditions (printed by a tool of this claim, proved by the kernel). Conditions: none. -/
set_option maxRecDepth 100000
namespace Go.Proofs.Ytfhjlimdakphcaa.Sx
open Go
def treeWdDgram : M (V × St) :=
(.split (.c2 .lt (.num 2040) (.c1 .len (.var 2)))
 (.ret (.t [.c (.sn), .c (.i .i64 (.num 5))], ⟨[], [], 3, 3, []⟩))
 (.split (.c1 .not (.c2 .eq (.c2 .sub (.num 65535) (.wr .u16 (.fn 2 (.c2 .add (.wr .u16 (.fn 1 (.cons (.c2 .fdiv (.var 0) (.num 256)) (.cons (.c2 .sub (.var 0) (.c2 .mul (.c2 .fdiv (.var 0) (.num 256)) (.num 256))) (.cons (.c2 .fdiv (.var 1) (.num 256)) (.cons (.c2 .sub (.var 1) (.c2 .mul (.c2 .fdiv (.var 1) (.num 256)) (.num 256))) (.cons (.c2 .fdiv (.c2 .add (.num 8) (.c1 .len (.var 2))) (.num 256)) (.cons (.c2 .sub (.c2 .add (.num 8) (.c1 .len (.var 2))) (.c2 .mul (.c2 .fdiv (.c2 .add (.num 8) (.c1 .len (.var 2))) (.num 256)) (.num 256))) (.cons (.num 0) (.cons (.num 0) .nil)))))))) .nil .nil)) (.wr .u16 (.fn 1 (.var 2) .nil .nil))) .nil .nil))) (.num 0)))
  (.ret (.t [.c (.s 3 1 0 (.num 0) (.num 8)), .c (.i .i64 (.num 0))], ⟨[], [(3, some ⟨true, .row [.u8] (.cons (.c2 .fdiv (.var 0) (.num 256)) (.cons (.c2 .sub (.var 0) (.c2 .mul (.c2 .fdiv (.var 0) (.num 256)) (.num 256))) (.cons (.c2 .fdiv (.var 1) (.num 256)) (.cons (.c2 .sub (.var 1) (.c2 .mul (.c2 .fdiv (.var 1) (.num 256)) (.num 256))) (.cons (.c2 .fdiv (.c2 .add (.num 8) (.c1 .len (.var 2))) (.num 256)) (.cons (.c2 .sub (.c2 .add (.num 8) (.c1 .len (.var 2))) (.c2 .mul (.c2 .fdiv (.c2 .add (.num 8) (.c1 .len (.var 2))) (.num 256)) (.num 256))) (.cons (.c2 .fdiv (.c2 .sub (.num 65535) (.wr .u16 (.fn 2 (.c2 .add (.wr .u16 (.fn 1 (.cons (.c2 .fdiv (.var 0) (.num 256)) (.cons (.c2 .sub (.var 0) (.c2 .mul (.c2 .fdiv (.var 0) (.num 256)) (.num 256))) (.cons (.c2 .fdiv (.var 1) (.num 256)) (.cons (.c2 .sub (.var 1) (.c2 .mul (.c2 .fdiv (.var 1) (.num 256)) (.num 256))) (.cons (.c2 .fdiv (.c2 .add (.num 8) (.c1 .len (.var 2))) (.num 256)) (.cons (.c2 .sub (.c2 .add (.num 8) (.c1 .len (.var 2))) (.c2 .mul (.c2 .fdiv (.c2 .add (.num 8) (.c1 .len (.var 2))) (.num 256)) (.num 256))) (.cons (.num 0) (.cons (.num 0) .nil)))))))) .nil .nil)) (.wr .u16 (.fn 1 (.var 2) .nil .nil))) .nil .nil))) (.num 256)) (.cons (.c2 .sub (.c2 .sub (.num 65535) (.wr .u16 (.fn 2 (.c2 .add (.wr .u16 (.fn 1 (.cons (.c2 .fdiv (.var 0) (.num 256)) (.cons (.c2 .sub (.var 0) (.c2 .mul (.c2 .fdiv (.var 0) (.num 256)) (.num 256))) (.cons (.c2 .fdiv (.var 1) (.num 256)) (.cons (.c2 .sub (.var 1) (.c2 .mul (.c2 .fdiv (.var 1) (.num 256)) (.num 256))) (.cons (.c2 .fdiv (.c2 .add (.num 8) (.c1 .len (.var 2))) (.num 256)) (.cons (.c2 .sub (.c2 .add (.num 8) (.c1 .len (.var 2))) (.c2 .mul (.c2 .fdiv (.c2 .add (.num 8) (.c1 .len (.var 2))) (.num 256)) (.num 256))) (.cons (.num 0) (.cons (.num 0) .nil)))))))) .nil .nil)) (.wr .u16 (.fn 1 (.var 2) .nil .nil))) .nil .nil))) (.c2 .mul (.c2 .fdiv (.c2 .sub (.num 65535) (.wr .u16 (.fn 2 (.c2 .add (.wr .u16 (.fn 1 (.cons (.c2 .fdiv (.var 0) (.num 256)) (.cons (.c2 .sub (.var 0) (.c2 .mul (.c2 .fdiv (.var 0) (.num 256)) (.num 256))) (.cons (.c2 .fdiv (.var 1) (.num 256)) (.cons (.c2 .sub (.var 1) (.c2 .mul (.c2 .fdiv (.var 1) (.num 256)) (.num 256))) (.cons (.c2 .fdiv (.c2 .add (.num 8) (.c1 .len (.var 2))) (.num 256)) (.cons (.c2 .sub (.c2 .add (.num 8) (.c1 .len (.var 2))) (.c2 .mul (.c2 .fdiv (.c2 .add (.num 8) (.c1 .len (.var 2))) (.num 256)) (.num 256))) (.cons (.num 0) (.cons (.num 0) .nil)))))))) .nil .nil)) (.wr .u16 (.fn 1 (.var 2) .nil .nil))) .nil .nil))) (.num 256)) (.num 256))) .nil))))))))⟩)], 6, 3, []⟩))
  (.ret (.t [.c (.s 3 1 0 (.num 0) (.num 8)), .c (.i .i64 (.num 0))], ⟨[], [(3, some ⟨true, .row [.u8] (.cons (.c2 .fdiv (.var 0) (.num 256)) (.cons (.c2 .sub (.var 0) (.c2 .mul (.c2 .fdiv (.var 0) (.num 256)) (.num 256))) (.cons (.c2 .fdiv (.var 1) (.num 256)) (.cons (.c2 .sub (.var 1) (.c2 .mul (.c2 .fdiv (.var 1) (.num 256)) (.num 256))) (.cons (.c2 .fdiv (.c2 .add (.num 8) (.c1 .len (.var 2))) (.num 256)) (.cons (.c2 .sub (.c2 .add (.num 8) (.c1 .len (.var 2))) (.c2 .mul (.c2 .fdiv (.c2 .add (.num 8) (.c1 .len (.var 2))) (.num 256)) (.num 256))) (.cons (.num 255) (.cons (.num 255) .nil))))))))⟩)], 6, 3, []⟩))))
theorem treeWdDgram_is : funTree (ctxN Go.Proofs.Try.prog annsHd consSum 8) annsHd 73 (tBytes 6 3 60 8 kDgram).vs (tBytes 6 3 60 8 kDgram).bs (tBytes 6 3 60 8 kDgram).n (preF (tBytes 6 3 60 8 kDgram).res) = treeWdDgram := by kernel_rfl
end Go.Proofs.Ytfhjlimdakphcaa.Sx
/- Sx laws of headers: the writers of layer Dgram. Conditions: none. -/
set_option linter.unusedVariables false
set_option linter.unusedSimpArgs false
namespace Go.Proofs.Ytfhjlimdakphcaa.Sx
open Go
set_option maxRecDepth 100000 in
theorem wdDgram_ok {Φ : Sig} (hΦ : HdSig Φ) : TmplOk Go.Proofs.Try.prog Φ 73 (tBytes 6 3 60 8 kDgram) := by
  refine tmpl_of (consSum_ok hΦ.toSumSig) treeWdDgram_is (fun ρ res hres => ⟨eqJ, ?_⟩)
  obtain ⟨hk, hres⟩ := inKs_some hres
  obtain ⟨h0, hres⟩ := short_some hres
  obtain ⟨hb, hres⟩ := bytes_some hres
  have hr := wr_res (n := 2) hΦ ⟨by decide, by decide⟩ hres
  have h0' : (ρ 2).list.length ≤ 140737488351232 := h0
  have hb' : Bytes (ρ 2).list := hb
  have a0 : (hdrOf Φ ρ 2)[0]?.getD 0 = (ρ 0).int := hdr_at 2 0 (by decide)
  have a1 : (hdrOf Φ ρ 2)[1]?.getD 0 = (ρ 1).int := hdr_at 2 1 (by decide)
  have b0 := hk 0 .u16 rfl
  have b1 := hk 1 .u16 rfl
  simp only [kmin, kmax, Nat.zero_add] at b0 b1
  have m1 : ∀ x : Int, x - x / 256 * 256 = x % 256 := fun x => by omega
  have hB : 0 ≤ wsum (wrBase 6 (hdrOf Φ ρ 2) (ρ 2).list) := by simp only [wrBase, wsum, g, a0, a1]; omega
  have hS : ocs (ocs (wsum (wrBase 6 (hdrOf Φ ρ 2) (ρ 2).list)) + ocs (wsum (ρ 2).list)) = ocs (wsum (wrBase 6 (hdrOf Φ ρ 2) (ρ 2).list ++ (ρ 2).list)) := by rw [ocs_two hB (wsum_range hb').1, wsum_app _ _ (by simp [wrBase])]
  simp only [wrBase, g, a0, a1, List.cons_append, List.nil_append] at hS
  have hR := ocs_range (wsum (wrBase 6 (hdrOf Φ ρ 2) (ρ 2).list ++ (ρ 2).list))
  simp only [wrBase, g, a0, a1, List.cons_append, List.nil_append] at hR
  refine ⟨fun c1 => ?_, fun c1 => ?_⟩
  · simp [hΦ.sum, hΦ.ocs, wrap_ocs, m1, hS] at c1
    have hz : wrFail 6 (hdrOf Φ ρ 2) (ρ 2).list = 5 := by
      simp only [wrFail, g, a0, a1]
      repeat' split
      all_goals first | rfl | omega
    exact leaf_wr_err hr hz (by decide) (by decide)
  · refine ⟨fun c2 => ?_, fun c2 => ?_⟩
    · simp [hΦ.sum, hΦ.ocs, wrap_ocs, m1, hS] at c1 c2
      have hz : wrFail 6 (hdrOf Φ ρ 2) (ρ 2).list = 0 := by
        simp only [wrFail, g, a0, a1]
        repeat' split
        all_goals first | rfl | omega
      refine leaf_wr_ok hr hz ?_ rfl (by decide)
      simp only [list_cons, list_nil, int_add, int_sub, int_mul, int_fdiv, int_len, den_var, den_num, D.int_i, fdiv_lit, m1, int_wr, den_fn, hΦ.sum, hΦ.ocs, wrap_ocs, hS, wrGood, wrBase, putF, fld, fld1, List.set_cons_succ, List.set_cons_zero, List.cons_append, List.nil_append, g, a0, a1]
      all_goals try simp only [List.cons.injEq, and_true, true_and]
      all_goals repeat' apply And.intro
      all_goals first | rfl | omega
    · simp [hΦ.sum, hΦ.ocs, wrap_ocs, m1, hS] at c1 c2
      have hz : wrFail 6 (hdrOf Φ ρ 2) (ρ 2).list = 0 := by
        simp only [wrFail, g, a0, a1]
        repeat' split
        all_goals first | rfl | omega
      refine leaf_wr_ok hr hz ?_ rfl (by decide)
      simp only [list_cons, list_nil, int_add, int_sub, int_mul, int_fdiv, int_len, den_var, den_num, D.int_i, fdiv_lit, m1, int_wr, den_fn, hΦ.sum, hΦ.ocs, wrap_ocs, hS, wrGood, wrBase, putF, fld, fld1, List.set_cons_succ, List.set_cons_zero, List.cons_append, List.nil_append, g, a0, a1]
      all_goals try simp only [List.cons.injEq, and_true, true_and]
      all_goals repeat' apply And.intro
      all_goals first | rfl | omega
end Go.Proofs.Ytfhjlimdakphcaa.Sx
/- Sx laws of wrapping: the contracts of what is put on and taken off. Conditions: none. -/
set_option linter.unusedVariables false
set_option linter.unusedSimpArgs false
set_option maxRecDepth 100000
namespace Go.Proofs.Ytfhjlimdakphcaa.Sx
open Go
theorem consRdApp {Φ : Sig} {a b : List (Nat × Con)} (ha : ConsOk Go.Proofs.Try.prog Φ a) (hb : ConsOk Go.Proofs.Try.prog Φ b) : ConsOk Go.Proofs.Try.prog Φ (a ++ b) := by
  intro f c h
  induction a with
  | nil => exact hb f c h
  | cons x a ih =>
    obtain ⟨k, d⟩ := x
    simp only [List.cons_append, findCon] at h
    split at h
    · rename_i e
      exact ha f c (by simp only [findCon]; rw [if_pos e]; exact h)
    · rename_i e
      by_cases hk : findCon a f = none
      · have : ConsOk Go.Proofs.Try.prog Φ b := hb
        have hab : ∀ (l : List (Nat × Con)), findCon l f = none → findCon (l ++ b) f = findCon b f := by
          intro l
          induction l with
          | nil => intro _; rfl
          | cons y l ih2 =>
            intro hl
            obtain ⟨k2, d2⟩ := y
            simp only [findCon] at hl
            split at hl
            · cases hl
            · rename_i e2; simp only [List.cons_append, findCon]; rw [if_neg e2]; exact ih2 hl
        rw [hab a hk] at h
        exact hb f c h
      · obtain ⟨c2, hc2⟩ := Option.ne_none_iff_exists'.mp hk
        have hab : ∀ (l : List (Nat × Con)), findCon l f = some c2 → findCon (l ++ b) f = some c2 := by
          intro l
          induction l with
          | nil => intro h; cases h
          | cons y l ih2 =>
            intro hl
            obtain ⟨k2, d2⟩ := y
            simp only [findCon] at hl
            simp only [List.cons_append, findCon]
            split at hl
            · rename_i e2; rw [if_pos e2]; exact hl
            · rename_i e2; rw [if_neg e2]; exact ih2 hl
        rw [hab a hc2] at h
        injection h with h
        subst h
        exact ha f c2 (by simp only [findCon]; rw [if_neg e]; exact hc2)
theorem consWd_ok' {Φ : Sig} (hΦ : HdSig Φ) : ConsOk Go.Proofs.Try.prog Φ consWd := (moreCons (con_ok (wdLink_ok hΦ)) (moreCons (con_ok (wdTag_ok hΦ)) (moreCons (con_ok (wdNet4_ok hΦ)) (moreCons (con_ok (wdNet6_ok hΦ)) (moreCons (con_ok (wdSeg_ok hΦ)) (moreCons (con_ok (wdDgram_ok hΦ)) noCons))))))
theorem consW1_ok {Φ : Sig} (hΦ : HdSig Φ) : ConsOk Go.Proofs.Try.prog Φ consW1 := moreCons (con_ok clone_ok) (consRdApp (consWd_ok' hΦ) (consRd_ok hΦ))
theorem wck_ok {Φ : Sig} (hΦ : WrSig Φ) : TmplOk Go.Proofs.Try.prog Φ 14 tCheck := by
  refine tmpl_of noCons treeWcChk_is (fun ρ res hres => ⟨eqJ, ?_⟩)
  obtain ⟨hlo, hhi, hres⟩ := inR_some hres
  obtain ⟨hh, hres⟩ := kinH_some hres
  obtain rfl := ret_some hres
  refine ⟨fun c1 => ?_, fun c1 => ?_⟩
  · rw [lt_t, den_var, den_num] at c1
    have c1 : (ρ 0).int < 1 := c1
    exact leaf_ck hΦ (by rw [ckErr, if_neg (not_head_vars (by omega))]) (by decide)
  refine ⟨fun c2 => ?_, fun c2 => ?_⟩
  · rw [lt_t, den_var, den_num] at c2
    have c2 : 6 < (ρ 0).int := c2
    exact leaf_ck hΦ (by rw [ckErr, if_neg (not_head_vars (by omega))]) (by decide)
  rw [lt_f, den_var, den_num] at c1 c2
  have c1 : 1 ≤ (ρ 0).int := c1
  have c2 : (ρ 0).int ≤ 6 := c2
  refine ⟨fun q => ?_, fun m1 => ?_⟩
  · rw [eq_t, den_var] at q
    have hk0 : (ρ 0).int = (1 : Nat) := q
    exact ck_kind (B := fun _ _ => False) hΦ (k := 1) (n2 := 1) (by decide) hk0 (by decide)
  refine ⟨fun q => ?_, fun m2 => ?_⟩
  · rw [eq_t, den_var] at q
    have hk0 : (ρ 0).int = (2 : Nat) := q
    exact ck_kind (B := fun _ _ => False) hΦ (k := 2) (by decide) hk0 (by decide)
  refine ⟨fun q => ?_, fun m3 => ?_⟩
  · rw [eq_t, den_var] at q
    have hk0 : (ρ 0).int = (3 : Nat) := q
    exact ck_kind (B := fun _ _ => False) hΦ (k := 3) (n2 := 1) (by decide) hk0 (by decide)
  refine ⟨fun q => ?_, fun m4 => ?_⟩
  · rw [eq_t, den_var] at q
    have hk0 : (ρ 0).int = (4 : Nat) := q
    exact ck_kind (B := fun _ _ => False) hΦ (k := 4) (by decide) hk0 (by decide)
  refine ⟨fun q => ?_, fun m5 => ?_⟩
  · rw [eq_t, den_var] at q
    have hk0 : (ρ 0).int = (5 : Nat) := q
    exact ck_kind (B := fun _ _ => False) hΦ (k := 5) (by decide) hk0 (by decide)
  refine ⟨fun q => ?_, fun m6 => ?_⟩
  · rw [eq_t, den_var] at q
    have hk0 : (ρ 0).int = (6 : Nat) := q
    exact ck_kind (B := fun _ _ => False) hΦ (k := 6) (n2 := 1) (by decide) hk0 (by decide)
  exfalso
  rw [eq_f, den_var] at m1
  rw [eq_f, den_var] at m2
  rw [eq_f, den_var] at m3
  rw [eq_f, den_var] at m4
  rw [eq_f, den_var] at m5
  rw [eq_f, den_var] at m6
  have h6 : ¬ (ρ 0).int = 1 ∧ ¬ (ρ 0).int = 2 ∧ ¬ (ρ 0).int = 3 ∧ ¬ (ρ 0).int = 4 ∧ ¬ (ρ 0).int = 5 ∧ ¬ (ρ 0).int = 6 := ⟨m1, m2, m3, m4, m5, m6⟩
  omega
theorem wpu_ok {Φ : Sig} (hΦ : WrSig Φ) : TmplOk Go.Proofs.Try.prog Φ 12 (tPush 74) := by
  refine tmpl_of (consW1_ok hΦ.toHdSig) treeWuPush_is (fun ρ res hres => ⟨eqJ, ?_⟩)
  obtain ⟨hlo, hhi, hres⟩ := inR_some hres
  obtain ⟨h0, hres⟩ := short_some hres
  obtain ⟨hb, hres⟩ := bytes_some hres
  obtain ⟨hh, hres⟩ := kinH_some hres
  have hr := pu_res hΦ hres
  refine ⟨fun c1 => ?_, fun c1 => ?_⟩
  · rw [lt_t, den_var, den_num] at c1
    have c1 : (ρ 0).int < 1 := c1
    exact leaf_pu_err (e := 120) hr (by rw [pushErr, if_neg (not_head_vars (by omega))]) (by decide) rfl (by decide)
  refine ⟨fun c2 => ?_, fun c2 => ?_⟩
  · rw [lt_t, den_var, den_num] at c2
    have c2 : 6 < (ρ 0).int := c2
    exact leaf_pu_err (e := 120) hr (by rw [pushErr, if_neg (not_head_vars (by omega))]) (by decide) rfl (by decide)
  rw [lt_f, den_var, den_num] at c1 c2
  have c1 : 1 ≤ (ρ 0).int := c1
  have c2 : (ρ 0).int ≤ 6 := c2
  refine ⟨fun q => ?_, fun m1 => ?_⟩
  · rw [eq_t, den_var] at q
    have hk0 : (ρ 0).int = (1 : Nat) := q
    exact pu_kind (B := fun _ _ => False) (j := 74) (j' := 74) (Lf := Leaf Φ ρ ρ res) (F := (varsT 1 13)) hr (k := 1) (n2 := 1) (by decide) hk0 (good_fields (by decide) hh) (fields_vars (k := 1) (by decide)).symm (fun _ _ h => h) (fun h => h) (by decide) (bl := [(1, false), (1, true), (2, false), (2, true), (3, false), (3, true), (4, false), (4, true), (5, false), (5, true), (6, false), (6, true), (7, false), (7, true), (8, false), (8, true), (9, false), (9, true), (10, false), (10, true), (11, false), (11, true), (12, false), (12, true), (13, false), (13, true)]) hh (by decide)
  refine ⟨fun q => ?_, fun m2 => ?_⟩
  · rw [eq_t, den_var] at q
    have hk0 : (ρ 0).int = (2 : Nat) := q
    exact pu_kind (B := fun _ _ => False) (j := 74) (j' := 74) (Lf := Leaf Φ ρ ρ res) (F := (varsT 14 3)) hr (k := 2) (by decide) hk0 (good_fields (by decide) hh) (fields_vars (k := 2) (by decide)).symm (fun _ _ h => h) (fun h => h) (by decide) (bl := [(14, false), (15, false), (16, false), (16, true)]) hh (by decide)
  refine ⟨fun q => ?_, fun m3 => ?_⟩
  · rw [eq_t, den_var] at q
    have hk0 : (ρ 0).int = (3 : Nat) := q
    exact pu_kind (B := fun _ _ => False) (j := 74) (j' := 74) (Lf := Leaf Φ ρ ρ res) (F := (varsT 17 12)) hr (k := 3) (n2 := 1) (by decide) hk0 (good_fields (by decide) hh) (fields_vars (k := 3) (by decide)).symm (fun _ _ h => h) (fun h => h) (by decide) (bl := [(17, false), (17, true), (18, false), (18, true), (19, false), (19, true), (20, false), (20, true), (21, false), (21, true), (22, false), (22, true), (23, false), (23, true), (24, false), (24, true), (25, false), (25, true), (26, false), (26, true), (27, false), (27, true), (28, false), (28, true)]) hh (by decide)
  refine ⟨fun q => ?_, fun m4 => ?_⟩
  · rw [eq_t, den_var] at q
    have hk0 : (ρ 0).int = (4 : Nat) := q
    exact pu_kind (B := fun _ _ => False) (j := 74) (j' := 74) (Lf := Leaf Φ ρ ρ res) (F := (varsT 29 36)) hr (k := 4) (by decide) hk0 (good_fields (by decide) hh) (fields_vars (k := 4) (by decide)).symm (fun _ _ h => h) (fun h => h) (by decide) (bl := [(29, false), (29, true), (30, false), (31, false), (31, true), (32, false), (32, true), (33, false), (33, true), (34, false), (34, true), (35, false), (35, true), (36, false), (36, true), (37, false), (37, true), (38, false), (38, true), (39, false), (39, true), (40, false), (40, true), (41, false), (41, true), (42, false), (42, true), (43, false), (43, true), (44, false), (44, true), (45, false), (45, true), (46, false), (46, true), (47, false), (47, true), (48, false), (48, true), (49, false), (49, true), (50, false), (50, true), (51, false), (51, true), (52, false), (52, true), (53, false), (53, true), (54, false), (54, true), (55, false), (55, true), (56, false), (56, true), (57, false), (57, true), (58, false), (58, true), (59, false), (59, true), (60, false), (60, true), (61, false), (61, true), (62, false), (62, true), (63, false), (63, true), (64, false), (64, true)]) hh (by decide)
  refine ⟨fun q => ?_, fun m5 => ?_⟩
  · rw [eq_t, den_var] at q
    have hk0 : (ρ 0).int = (5 : Nat) := q
    exact pu_kind (B := fun _ _ => False) (j := 74) (j' := 74) (Lf := Leaf Φ ρ ρ res) (F := (varsT 65 6)) hr (k := 5) (by decide) hk0 (good_fields (by decide) hh) (fields_vars (k := 5) (by decide)).symm (fun _ _ h => h) (fun h => h) (by decide) (bl := [(65, false), (65, true), (66, false), (66, true), (67, false), (67, true), (68, false), (68, true), (69, false), (70, false), (70, true)]) hh (by decide)
  refine ⟨fun q => ?_, fun m6 => ?_⟩
  · rw [eq_t, den_var] at q
    have hk0 : (ρ 0).int = (6 : Nat) := q
    exact pu_kind (B := fun _ _ => False) (j := 74) (j' := 74) (Lf := Leaf Φ ρ ρ res) (F := (varsT 71 2)) hr (k := 6) (n2 := 1) (by decide) hk0 (good_fields (by decide) hh) (fields_vars (k := 6) (by decide)).symm (fun _ _ h => h) (fun h => h) (by decide) (bl := [(71, false), (71, true), (72, false), (72, true)]) hh (by decide)
  exfalso
  rw [eq_f, den_var] at m1
  rw [eq_f, den_var] at m2
  rw [eq_f, den_var] at m3
  rw [eq_f, den_var] at m4
  rw [eq_f, den_var] at m5
  rw [eq_f, den_var] at m6
  have h6 : ¬ (ρ 0).int = 1 ∧ ¬ (ρ 0).int = 2 ∧ ¬ (ρ 0).int = 3 ∧ ¬ (ρ 0).int = 4 ∧ ¬ (ρ 0).int = 5 ∧ ¬ (ρ 0).int = 6 := ⟨m1, m2, m3, m4, m5, m6⟩
  omega
theorem wpo_ok {Φ : Sig} (hΦ : WrSig Φ) : TmplOk Go.Proofs.Try.prog Φ 13 (tPop 70) := by
  refine tmpl_of (consW1_ok hΦ.toHdSig) treeWoPop_is (fun ρ res hres => ⟨eqJ, ?_⟩)
  obtain ⟨hlo, hhi, hres⟩ := inR_some hres
  obtain ⟨h0, hres⟩ := short_some hres
  obtain ⟨hb, hres⟩ := bytes_some hres
  have hr := po_res hΦ hres
  refine ⟨fun c1 => ?_, fun c1 => ?_⟩
  · rw [lt_t, den_var, den_num] at c1
    have c1 : (ρ 1).int < 1 := c1
    exact leaf_po_err (e := 120) hr (by rw [popErr, if_neg (by omega)]) (by decide) rfl (by decide)
  refine ⟨fun c2 => ?_, fun c2 => ?_⟩
  · rw [lt_t, den_var, den_num] at c2
    have c2 : 6 < (ρ 1).int := c2
    exact leaf_po_err (e := 120) hr (by rw [popErr, if_neg (by omega)]) (by decide) rfl (by decide)
  rw [lt_f, den_var, den_num] at c1 c2
  have c1 : 1 ≤ (ρ 1).int := c1
  have c2 : (ρ 1).int ≤ 6 := c2
  refine ⟨fun q => ?_, fun m1 => ?_⟩
  · rw [eq_t, den_var] at q
    have hk0 : (ρ 1).int = (1 : Nat) := q
    have hE : (T.den Φ ρ (.fn 21 (.var 0) .nil .nil)).int = rdErr 1 (ρ 0).list := by rw [den_fn, hΦ.rdErr 1 _ _ _ (by decide) (by decide)]; rfl
    have hP : popErr (ρ 0).list (ρ 1).int = rdErr 1 (ρ 0).list := by rw [popErr, hk0, if_pos (by decide)]; rfl
    refine ⟨fun er => ?_, fun er => ?_⟩
    · rw [not_t, eq_f, hE] at er
      exact leaf_po_err hr hP er hE (by decide)
    · rw [not_f, eq_t, hE] at er
      have hsz : 14 ≤ (ρ 0).list.length := rd_size (k := 1) er
      refine ⟨by rw [le_t, int_len, den_num, den_var]; show (14 : Int) ≤ _; omega, leaf_po_ok (x := .var 1) hr (k := 1) (by decide) hk0 hk0 er ?_ ?_ (by decide)⟩
      · show (T.den Φ ρ (.c2 .sub (.c1 .len (.var 0)) (.num 14))).int = _
        rw [int_sub, int_len, den_var, den_num, List.length_drop]; show _ - (14 : Int) = _; show _ - (14 : Int) = (((ρ 0).list.length - 14 : Nat) : Int); omega
      · rfl
  refine ⟨fun q => ?_, fun m2 => ?_⟩
  · rw [eq_t, den_var] at q
    have hk0 : (ρ 1).int = (2 : Nat) := q
    have hE : (T.den Φ ρ (.fn 22 (.var 0) .nil .nil)).int = rdErr 2 (ρ 0).list := by rw [den_fn, hΦ.rdErr 2 _ _ _ (by decide) (by decide)]; rfl
    have hP : popErr (ρ 0).list (ρ 1).int = rdErr 2 (ρ 0).list := by rw [popErr, hk0, if_pos (by decide)]; rfl
    refine ⟨fun er => ?_, fun er => ?_⟩
    · rw [not_t, eq_f, hE] at er
      exact leaf_po_err hr hP er hE (by decide)
    · rw [not_f, eq_t, hE] at er
      have hsz : 4 ≤ (ρ 0).list.length := rd_size (k := 2) er
      refine ⟨by rw [le_t, int_len, den_num, den_var]; show (4 : Int) ≤ _; omega, leaf_po_ok (x := .var 1) hr (k := 2) (by decide) hk0 hk0 er ?_ ?_ (by decide)⟩
      · show (T.den Φ ρ (.c2 .sub (.c1 .len (.var 0)) (.num 4))).int = _
        rw [int_sub, int_len, den_var, den_num, List.length_drop]; show _ - (4 : Int) = _; show _ - (4 : Int) = (((ρ 0).list.length - 4 : Nat) : Int); omega
      · rfl
  refine ⟨fun q => ?_, fun m3 => ?_⟩
  · rw [eq_t, den_var] at q
    have hk0 : (ρ 1).int = (3 : Nat) := q
    have hE : (T.den Φ ρ (.fn 23 (.var 0) .nil .nil)).int = rdErr 3 (ρ 0).list := by rw [den_fn, hΦ.rdErr 3 _ _ _ (by decide) (by decide)]; rfl
    have hP : popErr (ρ 0).list (ρ 1).int = rdErr 3 (ρ 0).list := by rw [popErr, hk0, if_pos (by decide)]; rfl
    refine ⟨fun er => ?_, fun er => ?_⟩
    · rw [not_t, eq_f, hE] at er
      exact leaf_po_err hr hP er hE (by decide)
    · rw [not_f, eq_t, hE] at er
      have hsz : 20 ≤ (ρ 0).list.length := rd_size (k := 3) er
      refine ⟨by rw [le_t, int_len, den_num, den_var]; show (20 : Int) ≤ _; omega, leaf_po_ok (x := .var 1) hr (k := 3) (by decide) hk0 hk0 er ?_ ?_ (by decide)⟩
      · show (T.den Φ ρ (.c2 .sub (.c1 .len (.var 0)) (.num 20))).int = _
        rw [int_sub, int_len, den_var, den_num, List.length_drop]; show _ - (20 : Int) = _; show _ - (20 : Int) = (((ρ 0).list.length - 20 : Nat) : Int); omega
      · rfl
  refine ⟨fun q => ?_, fun m4 => ?_⟩
  · rw [eq_t, den_var] at q
    have hk0 : (ρ 1).int = (4 : Nat) := q
    have hE : (T.den Φ ρ (.fn 24 (.var 0) .nil .nil)).int = rdErr 4 (ρ 0).list := by rw [den_fn, hΦ.rdErr 4 _ _ _ (by decide) (by decide)]; rfl
    have hP : popErr (ρ 0).list (ρ 1).int = rdErr 4 (ρ 0).list := by rw [popErr, hk0, if_pos (by decide)]; rfl
    refine ⟨fun er => ?_, fun er => ?_⟩
    · rw [not_t, eq_f, hE] at er
      exact leaf_po_err hr hP er hE (by decide)
    · rw [not_f, eq_t, hE] at er
      have hsz : 40 ≤ (ρ 0).list.length := rd_size (k := 4) er
      refine ⟨by rw [le_t, int_len, den_num, den_var]; show (40 : Int) ≤ _; omega, leaf_po_ok (x := .var 1) hr (k := 4) (by decide) hk0 hk0 er ?_ ?_ (by decide)⟩
      · show (T.den Φ ρ (.c2 .sub (.c1 .len (.var 0)) (.num 40))).int = _
        rw [int_sub, int_len, den_var, den_num, List.length_drop]; show _ - (40 : Int) = _; show _ - (40 : Int) = (((ρ 0).list.length - 40 : Nat) : Int); omega
      · rfl
  refine ⟨fun q => ?_, fun m5 => ?_⟩
  · rw [eq_t, den_var] at q
    have hk0 : (ρ 1).int = (5 : Nat) := q
    have hE : (T.den Φ ρ (.fn 25 (.var 0) .nil .nil)).int = rdErr 5 (ρ 0).list := by rw [den_fn, hΦ.rdErr 5 _ _ _ (by decide) (by decide)]; rfl
    have hP : popErr (ρ 0).list (ρ 1).int = rdErr 5 (ρ 0).list := by rw [popErr, hk0, if_pos (by decide)]; rfl
    refine ⟨fun er => ?_, fun er => ?_⟩
    · rw [not_t, eq_f, hE] at er
      exact leaf_po_err hr hP er hE (by decide)
    · rw [not_f, eq_t, hE] at er
      have hsz : 20 ≤ (ρ 0).list.length := rd_size (k := 5) er
      refine ⟨by rw [le_t, int_len, den_num, den_var]; show (20 : Int) ≤ _; omega, leaf_po_ok (x := .var 1) hr (k := 5) (by decide) hk0 hk0 er ?_ ?_ (by decide)⟩
      · show (T.den Φ ρ (.c2 .sub (.c1 .len (.var 0)) (.num 20))).int = _
        rw [int_sub, int_len, den_var, den_num, List.length_drop]; show _ - (20 : Int) = _; show _ - (20 : Int) = (((ρ 0).list.length - 20 : Nat) : Int); omega
      · rfl
  refine ⟨fun q => ?_, fun m6 => ?_⟩
  · rw [eq_t, den_var] at q
    have hk0 : (ρ 1).int = (6 : Nat) := q
    have hE : (T.den Φ ρ (.fn 26 (.var 0) .nil .nil)).int = rdErr 6 (ρ 0).list := by rw [den_fn, hΦ.rdErr 6 _ _ _ (by decide) (by decide)]; rfl
    have hP : popErr (ρ 0).list (ρ 1).int = rdErr 6 (ρ 0).list := by rw [popErr, hk0, if_pos (by decide)]; rfl
    refine ⟨fun er => ?_, fun er => ?_⟩
    · rw [not_t, eq_f, hE] at er
      exact leaf_po_err hr hP er hE (by decide)
    · rw [not_f, eq_t, hE] at er
      have hsz : 8 ≤ (ρ 0).list.length := rd_size (k := 6) er
      refine ⟨by rw [le_t, int_len, den_num, den_var]; show (8 : Int) ≤ _; omega, leaf_po_ok (x := .var 1) hr (k := 6) (by decide) hk0 hk0 er ?_ ?_ (by decide)⟩
      · show (T.den Φ ρ (.c2 .sub (.c1 .len (.var 0)) (.num 8))).int = _
        rw [int_sub, int_len, den_var, den_num, List.length_drop]; show _ - (8 : Int) = _; show _ - (8 : Int) = (((ρ 0).list.length - 8 : Nat) : Int); omega
      · rfl
  exfalso
  rw [eq_f, den_var] at m1
  rw [eq_f, den_var] at m2
  rw [eq_f, den_var] at m3
  rw [eq_f, den_var] at m4
  rw [eq_f, den_var] at m5
  rw [eq_f, den_var] at m6
  have h6 : ¬ (ρ 1).int = 1 ∧ ¬ (ρ 1).int = 2 ∧ ¬ (ρ 1).int = 3 ∧ ¬ (ρ 1).int = 4 ∧ ¬ (ρ 1).int = 5 ∧ ¬ (ρ 1).int = 6 := ⟨m1, m2, m3, m4, m5, m6⟩
  omega
end Go.Proofs.Ytfhjlimdakphcaa.Sx
/- Sx: what Go function 16 does, as a tree of conditions (printed by a tool of this claim, proved by the kernel). Conditions: none. -/
set_option maxRecDepth 100000
namespace Go.Proofs.Ytfhjlimdakphcaa.Sx
open Go
def treePkThere : M (V × St) :=
(.split (.c2 .lt (.c2 .sub (.var 2) (.var 1)) (.num 1))
 (.ret (.w (.c (.i .i64 (.num 0))), ⟨[], [], 2, 4, []⟩))
 (.chk (.c2 .le (.c2 .add (.var 1) (.num 1)) (.c1 .len (.var 0)))
 (.ret (.w (.c (.i .i64 (.num 0))), ⟨[], [], 2, 4, []⟩))))
theorem treePkThere_is : funTree (ctxN Go.Proofs.Try.prog annsPk [] 8) annsPk 16 tThere.vs tThere.bs tThere.n (preF tThere.res) = treePkThere := by kernel_rfl
end Go.Proofs.Ytfhjlimdakphcaa.Sx
/- Sx: what Go function 5 does, as a tree of conditions (printed by a tool of this claim, proved by the kernel). Conditions: none. -/
set_option maxRecDepth 100000
namespace Go.Proofs.Ytfhjlimdakphcaa.Sx
open Go
def treePkNew : M (V × St) :=
(.ret (.t [.c (.p 1 (.num 0) 0 0), .c (.i .i64 (.num 0))], ⟨[], [(1, some ⟨true, .cells [.b (.bol true), .s 2 1 0 (.num 0) (.c2 .add (.c2 .add (.var 1) (.c1 .len (.var 0))) (.var 2)), .i .i64 (.var 1), .i .i64 (.c2 .sub (.c2 .add (.c2 .add (.var 1) (.c1 .len (.var 0))) (.var 2)) (.var 2)), .i .i64 (.num 0)]⟩), (2, some ⟨true, .row [.u8] (.spl (.c2 .rep (.c2 .add (.c2 .add (.var 1) (.c1 .len (.var 0))) (.var 2)) (.cons (.num 0) .nil)) (.var 1) (.var 0))⟩)], 3, 3, []⟩))
theorem treePkNew_is : funTree (ctxN Go.Proofs.Try.prog annsPk [] 8) annsPk 5 (tNew 1 2).vs (tNew 1 2).bs (tNew 1 2).n (preF (tNew 1 2).res) = treePkNew := by kernel_rfl
end Go.Proofs.Ytfhjlimdakphcaa.Sx
/- Sx: what Go function 7 does, as a tree of conditions (printed by a tool of this claim, proved by the kernel). Conditions: none. -/
set_option maxRecDepth 100000
namespace Go.Proofs.Ytfhjlimdakphcaa.Sx
open Go
def treePkOff : M (V × St) :=
(.split (.c2 .lt (.var 4) (.num 1))
 (.ret (.t [.g [.i .u8 (.num 0), .i .u8 (.num 0), .i .u8 (.num 0), .i .u8 (.num 0), .i .u8 (.num 0), .i .u8 (.num 0), .i .u8 (.num 0), .i .u8 (.num 0), .i .u8 (.num 0), .i .u8 (.num 0), .i .u8 (.num 0), .i .u8 (.num 0), .i .u8 (.num 0), .i .u16 (.num 0), .i .u8 (.num 0), .i .u16 (.num 0), .i .u16 (.num 0), .i .u8 (.num 0), .i .u8 (.num 0), .i .u8 (.num 0), .i .u16 (.num 0), .i .u8 (.num 0), .i .u8 (.num 0), .i .u8 (.num 0), .i .u8 (.num 0), .i .u8 (.num 0), .i .u8 (.num 0), .i .u8 (.num 0), .i .u8 (.num 0), .i .u8 (.num 0), .i .u32 (.num 0), .i .u8 (.num 0), .i .u8 (.num 0), .i .u8 (.num 0), .i .u8 (.num 0), .i .u8 (.num 0), .i .u8 (.num 0), .i .u8 (.num 0), .i .u8 (.num 0), .i .u8 (.num 0), .i .u8 (.num 0), .i .u8 (.num 0), .i .u8 (.num 0), .i .u8 (.num 0), .i .u8 (.num 0), .i .u8 (.num 0), .i .u8 (.num 0), .i .u8 (.num 0), .i .u8 (.num 0), .i .u8 (.num 0), .i .u8 (.num 0), .i .u8 (.num 0), .i .u8 (.num 0), .i .u8 (.num 0), .i .u8 (.num 0), .i .u8 (.num 0), .i .u8 (.num 0), .i .u8 (.num 0), .i .u8 (.num 0), .i .u8 (.num 0), .i .u8 (.num 0), .i .u8 (.num 0), .i .u8 (.num 0), .i .u8 (.num 0), .i .u8 (.num 0), .i .u16 (.num 0), .i .u16 (.num 0), .i .u32 (.num 0), .i .u32 (.num 0), .i .u8 (.num 0), .i .u16 (.num 0), .i .u16 (.num 0), .i .u16 (.num 0)], .c (.i .i64 (.num 120))], ⟨[], [], 15, 5, []⟩))
 (.split (.c2 .lt (.num 6) (.var 4))
  (.ret (.t [.g [.i .u8 (.num 0), .i .u8 (.num 0), .i .u8 (.num 0), .i .u8 (.num 0), .i .u8 (.num 0), .i .u8 (.num 0), .i .u8 (.num 0), .i .u8 (.num 0), .i .u8 (.num 0), .i .u8 (.num 0), .i .u8 (.num 0), .i .u8 (.num 0), .i .u8 (.num 0), .i .u16 (.num 0), .i .u8 (.num 0), .i .u16 (.num 0), .i .u16 (.num 0), .i .u8 (.num 0), .i .u8 (.num 0), .i .u8 (.num 0), .i .u16 (.num 0), .i .u8 (.num 0), .i .u8 (.num 0), .i .u8 (.num 0), .i .u8 (.num 0), .i .u8 (.num 0), .i .u8 (.num 0), .i .u8 (.num 0), .i .u8 (.num 0), .i .u8 (.num 0), .i .u32 (.num 0), .i .u8 (.num 0), .i .u8 (.num 0), .i .u8 (.num 0), .i .u8 (.num 0), .i .u8 (.num 0), .i .u8 (.num 0), .i .u8 (.num 0), .i .u8 (.num 0), .i .u8 (.num 0), .i .u8 (.num 0), .i .u8 (.num 0), .i .u8 (.num 0), .i .u8 (.num 0), .i .u8 (.num 0), .i .u8 (.num 0), .i .u8 (.num 0), .i .u8 (.num 0), .i .u8 (.num 0), .i .u8 (.num 0), .i .u8 (.num 0), .i .u8 (.num 0), .i .u8 (.num 0), .i .u8 (.num 0), .i .u8 (.num 0), .i .u8 (.num 0), .i .u8 (.num 0), .i .u8 (.num 0), .i .u8 (.num 0), .i .u8 (.num 0), .i .u8 (.num 0), .i .u8 (.num 0), .i .u8 (.num 0), .i .u8 (.num 0), .i .u8 (.num 0), .i .u16 (.num 0), .i .u16 (.num 0), .i .u32 (.num 0), .i .u32 (.num 0), .i .u8 (.num 0), .i .u16 (.num 0), .i .u16 (.num 0), .i .u16 (.num 0)], .c (.i .i64 (.num 120))], ⟨[], [], 15, 5, []⟩))
  (.split (.c2 .eq (.var 4) (.num 1))
   (.chk (.c2 .eq (.c2 .sub (.var 2) (.var 1)) (.c1 .len (.c2 .take (.c2 .sub (.var 2) (.var 1)) (.c2 .drop (.var 1) (.var 0)))))
   (.chk (.c1 (.kin [.u8]) (.c2 .take (.c2 .sub (.var 2) (.var 1)) (.c2 .drop (.var 1) (.var 0))))
   (.split (.c1 .not (.c2 .eq (.fn 21 (.c2 .take (.c2 .sub (.var 2) (.var 1)) (.c2 .drop (.var 1) (.var 0))) .nil .nil) (.num 0)))
    (.ret (.t [.g [.i .u8 (.num 0), .i .u8 (.num 0), .i .u8 (.num 0), .i .u8 (.num 0), .i .u8 (.num 0), .i .u8 (.num 0), .i .u8 (.num 0), .i .u8 (.num 0), .i .u8 (.num 0), .i .u8 (.num 0), .i .u8 (.num 0), .i .u8 (.num 0), .i .u8 (.num 0), .i .u16 (.num 0), .i .u8 (.num 0), .i .u16 (.num 0), .i .u16 (.num 0), .i .u8 (.num 0), .i .u8 (.num 0), .i .u8 (.num 0), .i .u16 (.num 0), .i .u8 (.num 0), .i .u8 (.num 0), .i .u8 (.num 0), .i .u8 (.num 0), .i .u8 (.num 0), .i .u8 (.num 0), .i .u8 (.num 0), .i .u8 (.num 0), .i .u8 (.num 0), .i .u32 (.num 0), .i .u8 (.num 0), .i .u8 (.num 0), .i .u8 (.num 0), .i .u8 (.num 0), .i .u8 (.num 0), .i .u8 (.num 0), .i .u8 (.num 0), .i .u8 (.num 0), .i .u8 (.num 0), .i .u8 (.num 0), .i .u8 (.num 0), .i .u8 (.num 0), .i .u8 (.num 0), .i .u8 (.num 0), .i .u8 (.num 0), .i .u8 (.num 0), .i .u8 (.num 0), .i .u8 (.num 0), .i .u8 (.num 0), .i .u8 (.num 0), .i .u8 (.num 0), .i .u8 (.num 0), .i .u8 (.num 0), .i .u8 (.num 0), .i .u8 (.num 0), .i .u8 (.num 0), .i .u8 (.num 0), .i .u8 (.num 0), .i .u8 (.num 0), .i .u8 (.num 0), .i .u8 (.num 0), .i .u8 (.num 0), .i .u8 (.num 0), .i .u8 (.num 0), .i .u16 (.num 0), .i .u16 (.num 0), .i .u32 (.num 0), .i .u32 (.num 0), .i .u8 (.num 0), .i .u16 (.num 0), .i .u16 (.num 0), .i .u16 (.num 0)], .c (.i .i64 (.fn 21 (.c2 .take (.c2 .sub (.var 2) (.var 1)) (.c2 .drop (.var 1) (.var 0))) .nil .nil))], ⟨[], [], 78, 5, []⟩))
    (.split (.c2 .lt (.num (-14)) (.c2 .sub (.num 0) (.c2 .sub (.var 2) (.var 1))))
     (.ret (.t [.g [.i .u8 (.var 4), .i .u8 (.wr .u8 (.c2 .rd (.fn 11 (.c2 .take (.c2 .sub (.var 2) (.var 1)) (.c2 .drop (.var 1) (.var 0))) .nil .nil) (.num 0))), .i .u8 (.wr .u8 (.c2 .rd (.fn 11 (.c2 .take (.c2 .sub (.var 2) (.var 1)) (.c2 .drop (.var 1) (.var 0))) .nil .nil) (.num 1))), .i .u8 (.wr .u8 (.c2 .rd (.fn 11 (.c2 .take (.c2 .sub (.var 2) (.var 1)) (.c2 .drop (.var 1) (.var 0))) .nil .nil) (.num 2))), .i .u8 (.wr .u8 (.c2 .rd (.fn 11 (.c2 .take (.c2 .sub (.var 2) (.var 1)) (.c2 .drop (.var 1) (.var 0))) .nil .nil) (.num 3))), .i .u8 (.wr .u8 (.c2 .rd (.fn 11 (.c2 .take (.c2 .sub (.var 2) (.var 1)) (.c2 .drop (.var 1) (.var 0))) .nil .nil) (.num 4))), .i .u8 (.wr .u8 (.c2 .rd (.fn 11 (.c2 .take (.c2 .sub (.var 2) (.var 1)) (.c2 .drop (.var 1) (.var 0))) .nil .nil) (.num 5))), .i .u8 (.wr .u8 (.c2 .rd (.fn 11 (.c2 .take (.c2 .sub (.var 2) (.var 1)) (.c2 .drop (.var 1) (.var 0))) .nil .nil) (.num 6))), .i .u8 (.wr .u8 (.c2 .rd (.fn 11 (.c2 .take (.c2 .sub (.var 2) (.var 1)) (.c2 .drop (.var 1) (.var 0))) .nil .nil) (.num 7))), .i .u8 (.wr .u8 (.c2 .rd (.fn 11 (.c2 .take (.c2 .sub (.var 2) (.var 1)) (.c2 .drop (.var 1) (.var 0))) .nil .nil) (.num 8))), .i .u8 (.wr .u8 (.c2 .rd (.fn 11 (.c2 .take (.c2 .sub (.var 2) (.var 1)) (.c2 .drop (.var 1) (.var 0))) .nil .nil) (.num 9))), .i .u8 (.wr .u8 (.c2 .rd (.fn 11 (.c2 .take (.c2 .sub (.var 2) (.var 1)) (.c2 .drop (.var 1) (.var 0))) .nil .nil) (.num 10))), .i .u8 (.wr .u8 (.c2 .rd (.fn 11 (.c2 .take (.c2 .sub (.var 2) (.var 1)) (.c2 .drop (.var 1) (.var 0))) .nil .nil) (.num 11))), .i .u16 (.wr .u16 (.c2 .rd (.fn 11 (.c2 .take (.c2 .sub (.var 2) (.var 1)) (.c2 .drop (.var 1) (.var 0))) .nil .nil) (.num 12))), .i .u8 (.num 0), .i .u16 (.num 0), .i .u16 (.num 0), .i .u8 (.num 0), .i .u8 (.num 0), .i .u8 (.num 0), .i .u16 (.num 0), .i .u8 (.num 0), .i .u8 (.num 0), .i .u8 (.num 0), .i .u8 (.num 0), .i .u8 (.num 0), .i .u8 (.num 0), .i .u8 (.num 0), .i .u8 (.num 0), .i .u8 (.num 0), .i .u32 (.num 0), .i .u8 (.num 0), .i .u8 (.num 0), .i .u8 (.num 0), .i .u8 (.num 0), .i .u8 (.num 0), .i .u8 (.num 0), .i .u8 (.num 0), .i .u8 (.num 0), .i .u8 (.num 0), .i .u8 (.num 0), .i .u8 (.num 0), .i .u8 (.num 0), .i .u8 (.num 0), .i .u8 (.num 0), .i .u8 (.num 0), .i .u8 (.num 0), .i .u8 (.num 0), .i .u8 (.num 0), .i .u8 (.num 0), .i .u8 (.num 0), .i .u8 (.num 0), .i .u8 (.num 0), .i .u8 (.num 0), .i .u8 (.num 0), .i .u8 (.num 0), .i .u8 (.num 0), .i .u8 (.num 0), .i .u8 (.num 0), .i .u8 (.num 0), .i .u8 (.num 0), .i .u8 (.num 0), .i .u8 (.num 0), .i .u8 (.num 0), .i .u8 (.num 0), .i .u16 (.num 0), .i .u16 (.num 0), .i .u32 (.num 0), .i .u32 (.num 0), .i .u8 (.num 0), .i .u16 (.num 0), .i .u16 (.num 0), .i .u16 (.num 0)], .c (.i .i64 (.num 6))], ⟨[], [], 78, 5, []⟩))
     (.chk (.c2 .le (.c2 .sub (.var 1) (.num (-14))) (.wr .i64 (.c2 .add (.c2 .sub (.var 1) (.num (-14))) (.c2 .mx (.num (-14)) (.num 0)))))
     (.chk (.c2 .le (.wr .i64 (.c2 .add (.c2 .sub (.var 1) (.num (-14))) (.c2 .mx (.num (-14)) (.num 0)))) (.c1 .len (.var 0)))
     (.ret (.t [.g [.i .u8 (.var 4), .i .u8 (.wr .u8 (.c2 .rd (.fn 11 (.c2 .take (.c2 .sub (.var 2) (.var 1)) (.c2 .drop (.var 1) (.var 0))) .nil .nil) (.num 0))), .i .u8 (.wr .u8 (.c2 .rd (.fn 11 (.c2 .take (.c2 .sub (.var 2) (.var 1)) (.c2 .drop (.var 1) (.var 0))) .nil .nil) (.num 1))), .i .u8 (.wr .u8 (.c2 .rd (.fn 11 (.c2 .take (.c2 .sub (.var 2) (.var 1)) (.c2 .drop (.var 1) (.var 0))) .nil .nil) (.num 2))), .i .u8 (.wr .u8 (.c2 .rd (.fn 11 (.c2 .take (.c2 .sub (.var 2) (.var 1)) (.c2 .drop (.var 1) (.var 0))) .nil .nil) (.num 3))), .i .u8 (.wr .u8 (.c2 .rd (.fn 11 (.c2 .take (.c2 .sub (.var 2) (.var 1)) (.c2 .drop (.var 1) (.var 0))) .nil .nil) (.num 4))), .i .u8 (.wr .u8 (.c2 .rd (.fn 11 (.c2 .take (.c2 .sub (.var 2) (.var 1)) (.c2 .drop (.var 1) (.var 0))) .nil .nil) (.num 5))), .i .u8 (.wr .u8 (.c2 .rd (.fn 11 (.c2 .take (.c2 .sub (.var 2) (.var 1)) (.c2 .drop (.var 1) (.var 0))) .nil .nil) (.num 6))), .i .u8 (.wr .u8 (.c2 .rd (.fn 11 (.c2 .take (.c2 .sub (.var 2) (.var 1)) (.c2 .drop (.var 1) (.var 0))) .nil .nil) (.num 7))), .i .u8 (.wr .u8 (.c2 .rd (.fn 11 (.c2 .take (.c2 .sub (.var 2) (.var 1)) (.c2 .drop (.var 1) (.var 0))) .nil .nil) (.num 8))), .i .u8 (.wr .u8 (.c2 .rd (.fn 11 (.c2 .take (.c2 .sub (.var 2) (.var 1)) (.c2 .drop (.var 1) (.var 0))) .nil .nil) (.num 9))), .i .u8 (.wr .u8 (.c2 .rd (.fn 11 (.c2 .take (.c2 .sub (.var 2) (.var 1)) (.c2 .drop (.var 1) (.var 0))) .nil .nil) (.num 10))), .i .u8 (.wr .u8 (.c2 .rd (.fn 11 (.c2 .take (.c2 .sub (.var 2) (.var 1)) (.c2 .drop (.var 1) (.var 0))) .nil .nil) (.num 11))), .i .u16 (.wr .u16 (.c2 .rd (.fn 11 (.c2 .take (.c2 .sub (.var 2) (.var 1)) (.c2 .drop (.var 1) (.var 0))) .nil .nil) (.num 12))), .i .u8 (.num 0), .i .u16 (.num 0), .i .u16 (.num 0), .i .u8 (.num 0), .i .u8 (.num 0), .i .u8 (.num 0), .i .u16 (.num 0), .i .u8 (.num 0), .i .u8 (.num 0), .i .u8 (.num 0), .i .u8 (.num 0), .i .u8 (.num 0), .i .u8 (.num 0), .i .u8 (.num 0), .i .u8 (.num 0), .i .u8 (.num 0), .i .u32 (.num 0), .i .u8 (.num 0), .i .u8 (.num 0), .i .u8 (.num 0), .i .u8 (.num 0), .i .u8 (.num 0), .i .u8 (.num 0), .i .u8 (.num 0), .i .u8 (.num 0), .i .u8 (.num 0), .i .u8 (.num 0), .i .u8 (.num 0), .i .u8 (.num 0), .i .u8 (.num 0), .i .u8 (.num 0), .i .u8 (.num 0), .i .u8 (.num 0), .i .u8 (.num 0), .i .u8 (.num 0), .i .u8 (.num 0), .i .u8 (.num 0), .i .u8 (.num 0), .i .u8 (.num 0), .i .u8 (.num 0), .i .u8 (.num 0), .i .u8 (.num 0), .i .u8 (.num 0), .i .u8 (.num 0), .i .u8 (.num 0), .i .u8 (.num 0), .i .u8 (.num 0), .i .u8 (.num 0), .i .u8 (.num 0), .i .u8 (.num 0), .i .u8 (.num 0), .i .u16 (.num 0), .i .u16 (.num 0), .i .u32 (.num 0), .i .u32 (.num 0), .i .u8 (.num 0), .i .u16 (.num 0), .i .u16 (.num 0), .i .u16 (.num 0)], .c (.i .i64 (.num 0))], ⟨[], [(0, some ⟨true, .cells [.b (.bol true), .s 1 1 0 (.num 0) (.c1 .len (.var 0)), .i .i64 (.c2 .sub (.var 1) (.num (-14))), .i .i64 (.var 2), .i .i64 (.c2 .add (.var 3) (.num 1))]⟩), (1, some ⟨true, .row [.u8] (.spl (.var 0) (.c2 .sub (.var 1) (.num (-14))) (.c2 .rep (.c2 .sub (.wr .i64 (.c2 .add (.c2 .sub (.var 1) (.num (-14))) (.c2 .mx (.num (-14)) (.num 0)))) (.c2 .sub (.var 1) (.num (-14)))) (.cons (.num 0) .nil)))⟩)], 78, 5, []⟩))))))))
   (.split (.c2 .eq (.var 4) (.num 2))
    (.chk (.c2 .eq (.c2 .sub (.var 2) (.var 1)) (.c1 .len (.c2 .take (.c2 .sub (.var 2) (.var 1)) (.c2 .drop (.var 1) (.var 0)))))
    (.chk (.c1 (.kin [.u8]) (.c2 .take (.c2 .sub (.var 2) (.var 1)) (.c2 .drop (.var 1) (.var 0))))
    (.split (.c1 .not (.c2 .eq (.fn 22 (.c2 .take (.c2 .sub (.var 2) (.var 1)) (.c2 .drop (.var 1) (.var 0))) .nil .nil) (.num 0)))
     (.ret (.t [.g [.i .u8 (.num 0), .i .u8 (.num 0), .i .u8 (.num 0), .i .u8 (.num 0), .i .u8 (.num 0), .i .u8 (.num 0), .i .u8 (.num 0), .i .u8 (.num 0), .i .u8 (.num 0), .i .u8 (.num 0), .i .u8 (.num 0), .i .u8 (.num 0), .i .u8 (.num 0), .i .u16 (.num 0), .i .u8 (.num 0), .i .u16 (.num 0), .i .u16 (.num 0), .i .u8 (.num 0), .i .u8 (.num 0), .i .u8 (.num 0), .i .u16 (.num 0), .i .u8 (.num 0), .i .u8 (.num 0), .i .u8 (.num 0), .i .u8 (.num 0), .i .u8 (.num 0), .i .u8 (.num 0), .i .u8 (.num 0), .i .u8 (.num 0), .i .u8 (.num 0), .i .u32 (.num 0), .i .u8 (.num 0), .i .u8 (.num 0), .i .u8 (.num 0), .i .u8 (.num 0), .i .u8 (.num 0), .i .u8 (.num 0), .i .u8 (.num 0), .i .u8 (.num 0), .i .u8 (.num 0), .i .u8 (.num 0), .i .u8 (.num 0), .i .u8 (.num 0), .i .u8 (.num 0), .i .u8 (.num 0), .i .u8 (.num 0), .i .u8 (.num 0), .i .u8 (.num 0), .i .u8 (.num 0), .i .u8 (.num 0), .i .u8 (.num 0), .i .u8 (.num 0), .i .u8 (.num 0), .i .u8 (.num 0), .i .u8 (.num 0), .i .u8 (.num 0), .i .u8 (.num 0), .i .u8 (.num 0), .i .u8 (.num 0), .i .u8 (.num 0), .i .u8 (.num 0), .i .u8 (.num 0), .i .u8 (.num 0), .i .u8 (.num 0), .i .u8 (.num 0), .i .u16 (.num 0), .i .u16 (.num 0), .i .u32 (.num 0), .i .u32 (.num 0), .i .u8 (.num 0), .i .u16 (.num 0), .i .u16 (.num 0), .i .u16 (.num 0)], .c (.i .i64 (.fn 22 (.c2 .take (.c2 .sub (.var 2) (.var 1)) (.c2 .drop (.var 1) (.var 0))) .nil .nil))], ⟨[], [], 78, 5, []⟩))
     (.split (.c2 .lt (.num (-4)) (.c2 .sub (.num 0) (.c2 .sub (.var 2) (.var 1))))
      (.ret (.t [.g [.i .u8 (.var 4), .i .u8 (.num 0), .i .u8 (.num 0), .i .u8 (.num 0), .i .u8 (.num 0), .i .u8 (.num 0), .i .u8 (.num 0), .i .u8 (.num 0), .i .u8 (.num 0), .i .u8 (.num 0), .i .u8 (.num 0), .i .u8 (.num 0), .i .u8 (.num 0), .i .u16 (.num 0), .i .u8 (.wr .u8 (.c2 .rd (.fn 12 (.c2 .take (.c2 .sub (.var 2) (.var 1)) (.c2 .drop (.var 1) (.var 0))) .nil .nil) (.num 0))), .i .u16 (.wr .u16 (.c2 .rd (.fn 12 (.c2 .take (.c2 .sub (.var 2) (.var 1)) (.c2 .drop (.var 1) (.var 0))) .nil .nil) (.num 1))), .i .u16 (.wr .u16 (.c2 .rd (.fn 12 (.c2 .take (.c2 .sub (.var 2) (.var 1)) (.c2 .drop (.var 1) (.var 0))) .nil .nil) (.num 2))), .i .u8 (.num 0), .i .u8 (.num 0), .i .u8 (.num 0), .i .u16 (.num 0), .i .u8 (.num 0), .i .u8 (.num 0), .i .u8 (.num 0), .i .u8 (.num 0), .i .u8 (.num 0), .i .u8 (.num 0), .i .u8 (.num 0), .i .u8 (.num 0), .i .u8 (.num 0), .i .u32 (.num 0), .i .u8 (.num 0), .i .u8 (.num 0), .i .u8 (.num 0), .i .u8 (.num 0), .i .u8 (.num 0), .i .u8 (.num 0), .i .u8 (.num 0), .i .u8 (.num 0), .i .u8 (.num 0), .i .u8 (.num 0), .i .u8 (.num 0), .i .u8 (.num 0), .i .u8 (.num 0), .i .u8 (.num 0), .i .u8 (.num 0), .i .u8 (.num 0), .i .u8 (.num 0), .i .u8 (.num 0), .i .u8 (.num 0), .i .u8 (.num 0), .i .u8 (.num 0), .i .u8 (.num 0), .i .u8 (.num 0), .i .u8 (.num 0), .i .u8 (.num 0), .i .u8 (.num 0), .i .u8 (.num 0), .i .u8 (.num 0), .i .u8 (.num 0), .i .u8 (.num 0), .i .u8 (.num 0), .i .u8 (.num 0), .i .u8 (.num 0), .i .u8 (.num 0), .i .u16 (.num 0), .i .u16 (.num 0), .i .u32 (.num 0), .i .u32 (.num 0), .i .u8 (.num 0), .i .u16 (.num 0), .i .u16 (.num 0), .i .u16 (.num 0)], .c (.i .i64 (.num 6))], ⟨[], [], 78, 5, []⟩))
      (.chk (.c2 .le (.c2 .sub (.var 1) (.num (-4))) (.wr .i64 (.c2 .add (.c2 .sub (.var 1) (.num (-4))) (.c2 .mx (.num (-4)) (.num 0)))))
      (.chk (.c2 .le (.wr .i64 (.c2 .add (.c2 .sub (.var 1) (.num (-4))) (.c2 .mx (.num (-4)) (.num 0)))) (.c1 .len (.var 0)))
      (.ret (.t [.g [.i .u8 (.var 4), .i .u8 (.num 0), .i .u8 (.num 0), .i .u8 (.num 0), .i .u8 (.num 0), .i .u8 (.num 0), .i .u8 (.num 0), .i .u8 (.num 0), .i .u8 (.num 0), .i .u8 (.num 0), .i .u8 (.num 0), .i .u8 (.num 0), .i .u8 (.num 0), .i .u16 (.num 0), .i .u8 (.wr .u8 (.c2 .rd (.fn 12 (.c2 .take (.c2 .sub (.var 2) (.var 1)) (.c2 .drop (.var 1) (.var 0))) .nil .nil) (.num 0))), .i .u16 (.wr .u16 (.c2 .rd (.fn 12 (.c2 .take (.c2 .sub (.var 2) (.var 1)) (.c2 .drop (.var 1) (.var 0))) .nil .nil) (.num 1))), .i .u16 (.wr .u16 (.c2 .rd (.fn 12 (.c2 .take (.c2 .sub (.var 2) (.var 1)) (.c2 .drop (.var 1) (.var 0))) .nil .nil) (.num 2))), .i .u8 (.num 0), .i .u8 (.num 0), .i .u8 (.num 0), .i .u16 (.num 0), .i .u8 (.num 0), .i .u8 (.num 0), .i .u8 (.num 0), .i .u8 (.num 0), .i .u8 (.num 0), .i .u8 (.num 0), .i .u8 (.num 0), .i .u8 (.num 0), .i .u8 (.num 0), .i .u32 (.num 0), .i .u8 (.num 0), .i .u8 (.num 0), .i .u8 (.num 0), .i .u8 (.num 0), .i .u8 (.num 0), .i .u8 (.num 0), .i .u8 (.num 0), .i .u8 (.num 0), .i .u8 (.num 0), .i .u8 (.num 0), .i .u8 (.num 0), .i .u8 (.num 0), .i .u8 (.num 0), .i .u8 (.num 0), .i .u8 (.num 0), .i .u8 (.num 0), .i .u8 (.num 0), .i .u8 (.num 0), .i .u8 (.num 0), .i .u8 (.num 0), .i .u8 (.num 0), .i .u8 (.num 0), .i .u8 (.num 0), .i .u8 (.num 0), .i .u8 (.num 0), .i .u8 (.num 0), .i .u8 (.num 0), .i .u8 (.num 0), .i .u8 (.num 0), .i .u8 (.num 0), .i .u8 (.num 0), .i .u8 (.num 0), .i .u8 (.num 0), .i .u8 (.num 0), .i .u16 (.num 0), .i .u16 (.num 0), .i .u32 (.num 0), .i .u32 (.num 0), .i .u8 (.num 0), .i .u16 (.num 0), .i .u16 (.num 0), .i .u16 (.num 0)], .c (.i .i64 (.num 0))], ⟨[], [(0, some ⟨true, .cells [.b (.bol true), .s 1 1 0 (.num 0) (.c1 .len (.var 0)), .i .i64 (.c2 .sub (.var 1) (.num (-4))), .i .i64 (.var 2), .i .i64 (.c2 .add (.var 3) (.num 1))]⟩), (1, some ⟨true, .row [.u8] (.spl (.var 0) (.c2 .sub (.var 1) (.num (-4))) (.c2 .rep (.c2 .sub (.wr .i64 (.c2 .add (.c2 .sub (.var 1) (.num (-4))) (.c2 .mx (.num (-4)) (.num 0)))) (.c2 .sub (.var 1) (.num (-4)))) (.cons (.num 0) .nil)))⟩)], 78, 5, []⟩))))))))
    (.split (.c2 .eq (.var 4) (.num 3))
     (.chk (.c2 .eq (.c2 .sub (.var 2) (.var 1)) (.c1 .len (.c2 .take (.c2 .sub (.var 2) (.var 1)) (.c2 .drop (.var 1) (.var 0)))))
     (.chk (.c1 (.kin [.u8]) (.c2 .take (.c2 .sub (.var 2) (.var 1)) (.c2 .drop (.var 1) (.var 0))))
     (.split (.c1 .not (.c2 .eq (.fn 23 (.c2 .take (.c2 .sub (.var 2) (.var 1)) (.c2 .drop (.var 1) (.var 0))) .nil .nil) (.num 0)))
      (.ret (.t [.g [.i .u8 (.num 0), .i .u8 (.num 0), .i .u8 (.num 0), .i .u8 (.num 0), .i .u8 (.num 0), .i .u8 (.num 0), .i .u8 (.num 0), .i .u8 (.num 0), .i .u8 (.num 0), .i .u8 (.num 0), .i .u8 (.num 0), .i .u8 (.num 0), .i .u8 (.num 0), .i .u16 (.num 0), .i .u8 (.num 0), .i .u16 (.num 0), .i .u16 (.num 0), .i .u8 (.num 0), .i .u8 (.num 0), .i .u8 (.num 0), .i .u16 (.num 0), .i .u8 (.num 0), .i .u8 (.num 0), .i .u8 (.num 0), .i .u8 (.num 0), .i .u8 (.num 0), .i .u8 (.num 0), .i .u8 (.num 0), .i .u8 (.num 0), .i .u8 (.num 0), .i .u32 (.num 0), .i .u8 (.num 0), .i .u8 (.num 0), .i .u8 (.num 0), .i .u8 (.num 0), .i .u8 (.num 0), .i .u8 (.num 0), .i .u8 (.num 0), .i .u8 (.num 0), .i .u8 (.num 0), .i .u8 (.num 0), .i .u8 (.num 0), .i .u8 (.num 0), .i .u8 (.num 0), .i .u8 (.num 0), .i .u8 (.num 0), .i .u8 (.num 0), .i .u8 (.num 0), .i .u8 (.num 0), .i .u8 (.num 0), .i .u8 (.num 0), .i .u8 (.num 0), .i .u8 (.num 0), .i .u8 (.num 0), .i .u8 (.num 0), .i .u8 (.num 0), .i .u8 (.num 0), .i .u8 (.num 0), .i .u8 (.num 0), .i .u8 (.num 0), .i .u8 (.num 0), .i .u8 (.num 0), .i .u8 (.num 0), .i .u8 (.num 0), .i .u8 (.num 0), .i .u16 (.num 0), .i .u16 (.num 0), .i .u32 (.num 0), .i .u32 (.num 0), .i .u8 (.num 0), .i .u16 (.num 0), .i .u16 (.num 0), .i .u16 (.num 0)], .c (.i .i64 (.fn 23 (.c2 .take (.c2 .sub (.var 2) (.var 1)) (.c2 .drop (.var 1) (.var 0))) .nil .nil))], ⟨[], [], 78, 5, []⟩))
      (.split (.c2 .lt (.num (-20)) (.c2 .sub (.num 0) (.c2 .sub (.var 2) (.var 1))))
       (.ret (.t [.g [.i .u8 (.var 4), .i .u8 (.num 0), .i .u8 (.num 0), .i .u8 (.num 0), .i .u8 (.num 0), .i .u8 (.num 0), .i .u8 (.num 0), .i .u8 (.num 0), .i .u8 (.num 0), .i .u8 (.num 0), .i .u8 (.num 0), .i .u8 (.num 0), .i .u8 (.num 0), .i .u16 (.num 0), .i .u8 (.num 0), .i .u16 (.num 0), .i .u16 (.num 0), .i .u8 (.wr .u8 (.c2 .rd (.fn 13 (.c2 .take (.c2 .sub (.var 2) (.var 1)) (.c2 .drop (.var 1) (.var 0))) .nil .nil) (.num 0))), .i .u8 (.wr .u8 (.c2 .rd (.fn 13 (.c2 .take (.c2 .sub (.var 2) (.var 1)) (.c2 .drop (.var 1) (.var 0))) .nil .nil) (.num 1))), .i .u8 (.wr .u8 (.c2 .rd (.fn 13 (.c2 .take (.c2 .sub (.var 2) (.var 1)) (.c2 .drop (.var 1) (.var 0))) .nil .nil) (.num 2))), .i .u16 (.wr .u16 (.c2 .rd (.fn 13 (.c2 .take (.c2 .sub (.var 2) (.var 1)) (.c2 .drop (.var 1) (.var 0))) .nil .nil) (.num 3))), .i .u8 (.wr .u8 (.c2 .rd (.fn 13 (.c2 .take (.c2 .sub (.var 2) (.var 1)) (.c2 .drop (.var 1) (.var 0))) .nil .nil) (.num 4))), .i .u8 (.wr .u8 (.c2 .rd (.fn 13 (.c2 .take (.c2 .sub (.var 2) (.var 1)) (.c2 .drop (.var 1) (.var 0))) .nil .nil) (.num 5))), .i .u8 (.wr .u8 (.c2 .rd (.fn 13 (.c2 .take (.c2 .sub (.var 2) (.var 1)) (.c2 .drop (.var 1) (.var 0))) .nil .nil) (.num 6))), .i .u8 (.wr .u8 (.c2 .rd (.fn 13 (.c2 .take (.c2 .sub (.var 2) (.var 1)) (.c2 .drop (.var 1) (.var 0))) .nil .nil) (.num 7))), .i .u8 (.wr .u8 (.c2 .rd (.fn 13 (.c2 .take (.c2 .sub (.var 2) (.var 1)) (.c2 .drop (.var 1) (.var 0))) .nil .nil) (.num 8))), .i .u8 (.wr .u8 (.c2 .rd (.fn 13 (.c2 .take (.c2 .sub (.var 2) (.var 1)) (.c2 .drop (.var 1) (.var 0))) .nil .nil) (.num 9))), .i .u8 (.wr .u8 (.c2 .rd (.fn 13 (.c2 .take (.c2 .sub (.var 2) (.var 1)) (.c2 .drop (.var 1) (.var 0))) .nil .nil) (.num 10))), .i .u8 (.wr .u8 (.c2 .rd (.fn 13 (.c2 .take (.c2 .sub (.var 2) (.var 1)) (.c2 .drop (.var 1) (.var 0))) .nil .nil) (.num 11))), .i .u8 (.num 0), .i .u32 (.num 0), .i .u8 (.num 0), .i .u8 (.num 0), .i .u8 (.num 0), .i .u8 (.num 0), .i .u8 (.num 0), .i .u8 (.num 0), .i .u8 (.num 0), .i .u8 (.num 0), .i .u8 (.num 0), .i .u8 (.num 0), .i .u8 (.num 0), .i .u8 (.num 0), .i .u8 (.num 0), .i .u8 (.num 0), .i .u8 (.num 0), .i .u8 (.num 0), .i .u8 (.num 0), .i .u8 (.num 0), .i .u8 (.num 0), .i .u8 (.num 0), .i .u8 (.num 0), .i .u8 (.num 0), .i .u8 (.num 0), .i .u8 (.num 0), .i .u8 (.num 0), .i .u8 (.num 0), .i .u8 (.num 0), .i .u8 (.num 0), .i .u8 (.num 0), .i .u8 (.num 0), .i .u8 (.num 0), .i .u8 (.num 0), .i .u8 (.num 0), .i .u8 (.num 0), .i .u16 (.num 0), .i .u16 (.num 0), .i .u32 (.num 0), .i .u32 (.num 0), .i .u8 (.num 0), .i .u16 (.num 0), .i .u16 (.num 0), .i .u16 (.num 0)], .c (.i .i64 (.num 6))], ⟨[], [], 78, 5, []⟩))
       (.chk (.c2 .le (.c2 .sub (.var 1) (.num (-20))) (.wr .i64 (.c2 .add (.c2 .sub (.var 1) (.num (-20))) (.c2 .mx (.num (-20)) (.num 0)))))
       (.chk (.c2 .le (.wr .i64 (.c2 .add (.c2 .sub (.var 1) (.num (-20))) (.c2 .mx (.num (-20)) (.num 0)))) (.c1 .len (.var 0)))
       (.ret (.t [.g [.i .u8 (.var 4), .i .u8 (.num 0), .i .u8 (.num 0), .i .u8 (.num 0), .i .u8 (.num 0), .i .u8 (.num 0), .i .u8 (.num 0), .i .u8 (.num 0), .i .u8 (.num 0), .i .u8 (.num 0), .i .u8 (.num 0), .i .u8 (.num 0), .i .u8 (.num 0), .i .u16 (.num 0), .i .u8 (.num 0), .i .u16 (.num 0), .i .u16 (.num 0), .i .u8 (.wr .u8 (.c2 .rd (.fn 13 (.c2 .take (.c2 .sub (.var 2) (.var 1)) (.c2 .drop (.var 1) (.var 0))) .nil .nil) (.num 0))), .i .u8 (.wr .u8 (.c2 .rd (.fn 13 (.c2 .take (.c2 .sub (.var 2) (.var 1)) (.c2 .drop (.var 1) (.var 0))) .nil .nil) (.num 1))), .i .u8 (.wr .u8 (.c2 .rd (.fn 13 (.c2 .take (.c2 .sub (.var 2) (.var 1)) (.c2 .drop (.var 1) (.var 0))) .nil .nil) (.num 2))), .i .u16 (.wr .u16 (.c2 .rd (.fn 13 (.c2 .take (.c2 .sub (.var 2) (.var 1)) (.c2 .drop (.var 1) (.var 0))) .nil .nil) (.num 3))), .i .u8 (.wr .u8 (.c2 .rd (.fn 13 (.c2 .take (.c2 .sub (.var 2) (.var 1)) (.c2 .drop (.var 1) (.var 0))) .nil .nil) (.num 4))), .i .u8 (.wr .u8 (.c2 .rd (.fn 13 (.c2 .take (.c2 .sub (.var 2) (.var 1)) (.c2 .drop (.var 1) (.var 0))) .nil .nil) (.num 5))), .i .u8 (.wr .u8 (.c2 .rd (.fn 13 (.c2 .take (.c2 .sub (.var 2) (.var 1)) (.c2 .drop (.var 1) (.var 0))) .nil .nil) (.num 6))), .i .u8 (.wr .u8 (.c2 .rd (.fn 13 (.c2 .take (.c2 .sub (.var 2) (.var 1)) (.c2 .drop (.var 1) (.var 0))) .nil .nil) (.num 7))), .i .u8 (.wr .u8 (.c2 .rd (.fn 13 (.c2 .take (.c2 .sub (.var 2) (.var 1)) (.c2 .drop (.var 1) (.var 0))) .nil .nil) (.num 8))), .i .u8 (.wr .u8 (.c2 .rd (.fn 13 (.c2 .take (.c2 .sub (.var 2) (.var 1)) (.c2 .drop (.var 1) (.var 0))) .nil .nil) (.num 9))), .i .u8 (.wr .u8 (.c2 .rd (.fn 13 (.c2 .take (.c2 .sub (.var 2) (.var 1)) (.c2 .drop (.var 1) (.var 0))) .nil .nil) (.num 10))), .i .u8 (.wr .u8 (.c2 .rd (.fn 13 (.c2 .take (.c2 .sub (.var 2) (.var 1)) (.c2 .drop (.var 1) (.var 0))) .nil .nil) (.num 11))), .i .u8 (.num 0), .i .u32 (.num 0), .i .u8 (.num 0), .i .u8 (.num 0), .i .u8 (.num 0), .i .u8 (.num 0), .i .u8 (.num 0), .i .u8 (.num 0), .i .u8 (.num 0), .i .u8 (.num 0), .i .u8 (.num 0), .i .u8 (.num 0), .i .u8 (.num 0), .i .u8 (.num 0), .i .u8 (.num 0), .i .u8 (.num 0), .i .u8 (.num 0), .i .u8 (.num 0), .i .u8 (.num 0), .i .u8 (.num 0), .i .u8 (.num 0), .i .u8 (.num 0), .i .u8 (.num 0), .i .u8 (.num 0), .i .u8 (.num 0), .i .u8 (.num 0), .i .u8 (.num 0), .i .u8 (.num 0), .i .u8 (.num 0), .i .u8 (.num 0), .i .u8 (.num 0), .i .u8 (.num 0), .i .u8 (.num 0), .i .u8 (.num 0), .i .u8 (.num 0), .i .u8 (.num 0), .i .u16 (.num 0), .i .u16 (.num 0), .i .u32 (.num 0), .i .u32 (.num 0), .i .u8 (.num 0), .i .u16 (.num 0), .i .u16 (.num 0), .i .u16 (.num 0)], .c (.i .i64 (.num 0))], ⟨[], [(0, some ⟨true, .cells [.b (.bol true), .s 1 1 0 (.num 0) (.c1 .len (.var 0)), .i .i64 (.c2 .sub (.var 1) (.num (-20))), .i .i64 (.var 2), .i .i64 (.c2 .add (.var 3) (.num 1))]⟩), (1, some ⟨true, .row [.u8] (.spl (.var 0) (.c2 .sub (.var 1) (.num (-20))) (.c2 .rep (.c2 .sub (.wr .i64 (.c2 .add (.c2 .sub (.var 1) (.num (-20))) (.c2 .mx (.num (-20)) (.num 0)))) (.c2 .sub (.var 1) (.num (-20)))) (.cons (.num 0) .nil)))⟩)], 78, 5, []⟩))))))))
     (.split (.c2 .eq (.var 4) (.num 4))
      (.chk (.c2 .eq (.c2 .sub (.var 2) (.var 1)) (.c1 .len (.c2 .take (.c2 .sub (.var 2) (.var 1)) (.c2 .drop (.var 1) (.var 0)))))
      (.chk (.c1 (.kin [.u8]) (.c2 .take (.c2 .sub (.var 2) (.var 1)) (.c2 .drop (.var 1) (.var 0))))
      (.split (.c1 .not (.c2 .eq (.fn 24 (.c2 .take (.c2 .sub (.var 2) (.var 1)) (.c2 .drop (.var 1) (.var 0))) .nil .nil) (.num 0)))
       (.ret (.t [.g [.i .u8 (.num 0), .i .u8 (.num 0), .i .u8 (.num 0), .i .u8 (.num 0), .i .u8 (.num 0), .i .u8 (.num 0), .i .u8 (.num 0), .i .u8 (.num 0), .i .u8 (.num 0), .i .u8 (.num 0), .i .u8 (.num 0), .i .u8 (.num 0), .i .u8 (.num 0), .i .u16 (.num 0), .i .u8 (.num 0), .i .u16 (.num 0), .i .u16 (.num 0), .i .u8 (.num 0), .i .u8 (.num 0), .i .u8 (.num 0), .i .u16 (.num 0), .i .u8 (.num 0), .i .u8 (.num 0), .i .u8 (.num 0), .i .u8 (.num 0), .i .u8 (.num 0), .i .u8 (.num 0), .i .u8 (.num 0), .i .u8 (.num 0), .i .u8 (.num 0), .i .u32 (.num 0), .i .u8 (.num 0), .i .u8 (.num 0), .i .u8 (.num 0), .i .u8 (.num 0), .i .u8 (.num 0), .i .u8 (.num 0), .i .u8 (.num 0), .i .u8 (.num 0), .i .u8 (.num 0), .i .u8 (.num 0), .i .u8 (.num 0), .i .u8 (.num 0), .i .u8 (.num 0), .i .u8 (.num 0), .i .u8 (.num 0), .i .u8 (.num 0), .i .u8 (.num 0), .i .u8 (.num 0), .i .u8 (.num 0), .i .u8 (.num 0), .i .u8 (.num 0), .i .u8 (.num 0), .i .u8 (.num 0), .i .u8 (.num 0), .i .u8 (.num 0), .i .u8 (.num 0), .i .u8 (.num 0), .i .u8 (.num 0), .i .u8 (.num 0), .i .u8 (.num 0), .i .u8 (.num 0), .i .u8 (.num 0), .i .u8 (.num 0), .i .u8 (.num 0), .i .u16 (.num 0), .i .u16 (.num 0), .i .u32 (.num 0), .i .u32 (.num 0), .i .u8 (.num 0), .i .u16 (.num 0), .i .u16 (.num 0), .i .u16 (.num 0)], .c (.i .i64 (.fn 24 (.c2 .take (.c2 .sub (.var 2) (.var 1)) (.c2 .drop (.var 1) (.var 0))) .nil .nil))], ⟨[], [], 78, 5, []⟩))
       (.split (.c2 .lt (.num (-40)) (.c2 .sub (.num 0) (.c2 .sub (.var 2) (.var 1))))
        (.ret (.t [.g [.i .u8 (.var 4), .i .u8 (.num 0), .i .u8 (.num 0), .i .u8 (.num 0), .i .u8 (.num 0), .i .u8 (.num 0), .i .u8 (.num 0), .i .u8 (.num 0), .i .u8 (.num 0), .i .u8 (.num 0), .i .u8 (.num 0), .i .u8 (.num 0), .i .u8 (.num 0), .i .u16 (.num 0), .i .u8 (.num 0), .i .u16 (.num 0), .i .u16 (.num 0), .i .u8 (.num 0), .i .u8 (.num 0), .i .u8 (.num 0), .i .u16 (.num 0), .i .u8 (.num 0), .i .u8 (.num 0), .i .u8 (.num 0), .i .u8 (.num 0), .i .u8 (.num 0), .i .u8 (.num 0), .i .u8 (.num 0), .i .u8 (.num 0), .i .u8 (.wr .u8 (.c2 .rd (.fn 14 (.c2 .take (.c2 .sub (.var 2) (.var 1)) (.c2 .drop (.var 1) (.var 0))) .nil .nil) (.num 0))), .i .u32 (.wr .u32 (.c2 .rd (.fn 14 (.c2 .take (.c2 .sub (.var 2) (.var 1)) (.c2 .drop (.var 1) (.var 0))) .nil .nil) (.num 1))), .i .u8 (.wr .u8 (.c2 .rd (.fn 14 (.c2 .take (.c2 .sub (.var 2) (.var 1)) (.c2 .drop (.var 1) (.var 0))) .nil .nil) (.num 2))), .i .u8 (.wr .u8 (.c2 .rd (.fn 14 (.c2 .take (.c2 .sub (.var 2) (.var 1)) (.c2 .drop (.var 1) (.var 0))) .nil .nil) (.num 3))), .i .u8 (.wr .u8 (.c2 .rd (.fn 14 (.c2 .take (.c2 .sub (.var 2) (.var 1)) (.c2 .drop (.var 1) (.var 0))) .nil .nil) (.num 4))), .i .u8 (.wr .u8 (.c2 .rd (.fn 14 (.c2 .take (.c2 .sub (.var 2) (.var 1)) (.c2 .drop (.var 1) (.var 0))) .nil .nil) (.num 5))), .i .u8 (.wr .u8 (.c2 .rd (.fn 14 (.c2 .take (.c2 .sub (.var 2) (.var 1)) (.c2 .drop (.var 1) (.var 0))) .nil .nil) (.num 6))), .i .u8 (.wr .u8 (.c2 .rd (.fn 14 (.c2 .take (.c2 .sub (.var 2) (.var 1)) (.c2 .drop (.var 1) (.var 0))) .nil .nil) (.num 7))), .i .u8 (.wr .u8 (.c2 .rd (.fn 14 (.c2 .take (.c2 .sub (.var 2) (.var 1)) (.c2 .drop (.var 1) (.var 0))) .nil .nil) (.num 8))), .i .u8 (.wr .u8 (.c2 .rd (.fn 14 (.c2 .take (.c2 .sub (.var 2) (.var 1)) (.c2 .drop (.var 1) (.var 0))) .nil .nil) (.num 9))), .i .u8 (.wr .u8 (.c2 .rd (.fn 14 (.c2 .take (.c2 .sub (.var 2) (.var 1)) (.c2 .drop (.var 1) (.var 0))) .nil .nil) (.num 10))), .i .u8 (.wr .u8 (.c2 .rd (.fn 14 (.c2 .take (.c2 .sub (.var 2) (.var 1)) (.c2 .drop (.var 1) (.var 0))) .nil .nil) (.num 11))), .i .u8 (.wr .u8 (.c2 .rd (.fn 14 (.c2 .take (.c2 .sub (.var 2) (.var 1)) (.c2 .drop (.var 1) (.var 0))) .nil .nil) (.num 12))), .i .u8 (.wr .u8 (.c2 .rd (.fn 14 (.c2 .take (.c2 .sub (.var 2) (.var 1)) (.c2 .drop (.var 1) (.var 0))) .nil .nil) (.num 13))), .i .u8 (.wr .u8 (.c2 .rd (.fn 14 (.c2 .take (.c2 .sub (.var 2) (.var 1)) (.c2 .drop (.var 1) (.var 0))) .nil .nil) (.num 14))), .i .u8 (.wr .u8 (.c2 .rd (.fn 14 (.c2 .take (.c2 .sub (.var 2) (.var 1)) (.c2 .drop (.var 1) (.var 0))) .nil .nil) (.num 15))), .i .u8 (.wr .u8 (.c2 .rd (.fn 14 (.c2 .take (.c2 .sub (.var 2) (.var 1)) (.c2 .drop (.var 1) (.var 0))) .nil .nil) (.num 16))), .i .u8 (.wr .u8 (.c2 .rd (.fn 14 (.c2 .take (.c2 .sub (.var 2) (.var 1)) (.c2 .drop (.var 1) (.var 0))) .nil .nil) (.num 17))), .i .u8 (.wr .u8 (.c2 .rd (.fn 14 (.c2 .take (.c2 .sub (.var 2) (.var 1)) (.c2 .drop (.var 1) (.var 0))) .nil .nil) (.num 18))), .i .u8 (.wr .u8 (.c2 .rd (.fn 14 (.c2 .take (.c2 .sub (.var 2) (.var 1)) (.c2 .drop (.var 1) (.var 0))) .nil .nil) (.num 19))), .i .u8 (.wr .u8 (.c2 .rd (.fn 14 (.c2 .take (.c2 .sub (.var 2) (.var 1)) (.c2 .drop (.var 1) (.var 0))) .nil .nil) (.num 20))), .i .u8 (.wr .u8 (.c2 .rd (.fn 14 (.c2 .take (.c2 .sub (.var 2) (.var 1)) (.c2 .drop (.var 1) (.var 0))) .nil .nil) (.num 21))), .i .u8 (.wr .u8 (.c2 .rd (.fn 14 (.c2 .take (.c2 .sub (.var 2) (.var 1)) (.c2 .drop (.var 1) (.var 0))) .nil .nil) (.num 22))), .i .u8 (.wr .u8 (.c2 .rd (.fn 14 (.c2 .take (.c2 .sub (.var 2) (.var 1)) (.c2 .drop (.var 1) (.var 0))) .nil .nil) (.num 23))), .i .u8 (.wr .u8 (.c2 .rd (.fn 14 (.c2 .take (.c2 .sub (.var 2) (.var 1)) (.c2 .drop (.var 1) (.var 0))) .nil .nil) (.num 24))), .i .u8 (.wr .u8 (.c2 .rd (.fn 14 (.c2 .take (.c2 .sub (.var 2) (.var 1)) (.c2 .drop (.var 1) (.var 0))) .nil .nil) (.num 25))), .i .u8 (.wr .u8 (.c2 .rd (.fn 14 (.c2 .take (.c2 .sub (.var 2) (.var 1)) (.c2 .drop (.var 1) (.var 0))) .nil .nil) (.num 26))), .i .u8 (.wr .u8 (.c2 .rd (.fn 14 (.c2 .take (.c2 .sub (.var 2) (.var 1)) (.c2 .drop (.var 1) (.var 0))) .nil .nil) (.num 27))), .i .u8 (.wr .u8 (.c2 .rd (.fn 14 (.c2 .take (.c2 .sub (.var 2) (.var 1)) (.c2 .drop (.var 1) (.var 0))) .nil .nil) (.num 28))), .i .u8 (.wr .u8 (.c2 .rd (.fn 14 (.c2 .take (.c2 .sub (.var 2) (.var 1)) (.c2 .drop (.var 1) (.var 0))) .nil .nil) (.num 29))), .i .u8 (.wr .u8 (.c2 .rd (.fn 14 (.c2 .take (.c2 .sub (.var 2) (.var 1)) (.c2 .drop (.var 1) (.var 0))) .nil .nil) (.num 30))), .i .u8 (.wr .u8 (.c2 .rd (.fn 14 (.c2 .take (.c2 .sub (.var 2) (.var 1)) (.c2 .drop (.var 1) (.var 0))) .nil .nil) (.num 31))), .i .u8 (.wr .u8 (.c2 .rd (.fn 14 (.c2 .take (.c2 .sub (.var 2) (.var 1)) (.c2 .drop (.var 1) (.var 0))) .nil .nil) (.num 32))), .i .u8 (.wr .u8 (.c2 .rd (.fn 14 (.c2 .take (.c2 .sub (.var 2) (.var 1)) (.c2 .drop (.var 1) (.var 0))) .nil .nil) (.num 33))), .i .u8 (.wr .u8 (.c2 .rd (.fn 14 (.c2 .take (.c2 .sub (.var 2) (.var 1)) (.c2 .drop (.var 1) (.var 0))) .nil .nil) (.num 34))), .i .u8 (.wr .u8 (.c2 .rd (.fn 14 (.c2 .take (.c2 .sub (.var 2) (.var 1)) (.c2 .drop (.var 1) (.var 0))) .nil .nil) (.num 35))), .i .u16 (.num 0), .i .u16 (.num 0), .i .u32 (.num 0), .i .u32 (.num 0), .i .u8 (.num 0), .i .u16 (.num 0), .i .u16 (.num 0), .i .u16 (.num 0)], .c (.i .i64 (.num 6))], ⟨[], [], 78, 5, []⟩))
        (.chk (.c2 .le (.c2 .sub (.var 1) (.num (-40))) (.wr .i64 (.c2 .add (.c2 .sub (.var 1) (.num (-40))) (.c2 .mx (.num (-40)) (.num 0)))))
        (.chk (.c2 .le (.wr .i64 (.c2 .add (.c2 .sub (.var 1) (.num (-40))) (.c2 .mx (.num (-40)) (.num 0)))) (.c1 .len (.var 0)))
        (.ret (.t [.g [.i .u8 (.var 4), .i .u8 (.num 0), .i .u8 (.num 0), .i .u8 (.num 0), .i .u8 (.num 0), .i .u8 (.num 0), .i .u8 (.num 0), .i .u8 (.num 0), .i .u8 (.num 0), .i .u8 (.num 0), .i .u8 (.num 0), .i .u8 (.num 0), .i .u8 (.num 0), .i .u16 (.num 0), .i .u8 (.num 0), .i .u16 (.num 0), .i .u16 (.num 0), .i .u8 (.num 0), .i .u8 (.num 0), .i .u8 (.num 0), .i .u16 (.num 0), .i .u8 (.num 0), .i .u8 (.num 0), .i .u8 (.num 0), .i .u8 (.num 0), .i .u8 (.num 0), .i .u8 (.num 0), .i .u8 (.num 0), .i .u8 (.num 0), .i .u8 (.wr .u8 (.c2 .rd (.fn 14 (.c2 .take (.c2 .sub (.var 2) (.var 1)) (.c2 .drop (.var 1) (.var 0))) .nil .nil) (.num 0))), .i .u32 (.wr .u32 (.c2 .rd (.fn 14 (.c2 .take (.c2 .sub (.var 2) (.var 1)) (.c2 .drop (.var 1) (.var 0))) .nil .nil) (.num 1))), .i .u8 (.wr .u8 (.c2 .rd (.fn 14 (.c2 .take (.c2 .sub (.var 2) (.var 1)) (.c2 .drop (.var 1) (.var 0))) .nil .nil) (.num 2))), .i .u8 (.wr .u8 (.c2 .rd (.fn 14 (.c2 .take (.c2 .sub (.var 2) (.var 1)) (.c2 .drop (.var 1) (.var 0))) .nil .nil) (.num 3))), .i .u8 (.wr .u8 (.c2 .rd (.fn 14 (.c2 .take (.c2 .sub (.var 2) (.var 1)) (.c2 .drop (.var 1) (.var 0))) .nil .nil) (.num 4))), .i .u8 (.wr .u8 (.c2 .rd (.fn 14 (.c2 .take (.c2 .sub (.var 2) (.var 1)) (.c2 .drop (.var 1) (.var 0))) .nil .nil) (.num 5))), .i .u8 (.wr .u8 (.c2 .rd (.fn 14 (.c2 .take (.c2 .sub (.var 2) (.var 1)) (.c2 .drop (.var 1) (.var 0))) .nil .nil) (.num 6))), .i .u8 (.wr .u8 (.c2 .rd (.fn 14 (.c2 .take (.c2 .sub (.var 2) (.var 1)) (.c2 .drop (.var 1) (.var 0))) .nil .nil) (.num 7))), .i .u8 (.wr .u8 (.c2 .rd (.fn 14 (.c2 .take (.c2 .sub (.var 2) (.var 1)) (.c2 .drop (.var 1) (.var 0))) .nil .nil) (.num 8))), .i .u8 (.wr .u8 (.c2 .rd (.fn 14 (.c2 .take (.c2 .sub (.var 2) (.var 1)) (.c2 .drop (.var 1) (.var 0))) .nil .nil) (.num 9))), .i .u8 (.wr .u8 (.c2 .rd (.fn 14 (.c2 .take (.c2 .sub (.var 2) (.var 1)) (.c2 .drop (.var 1) (.var 0))) .nil .nil) (.num 10))), .i .u8 (.wr .u8 (.c2 .rd (.fn 14 (.c2 .take (.c2 .sub (.var 2) (.var 1)) (.c2 .drop (.var 1) (.var 0))) .nil .nil) (.num 11))), .i .u8 (.wr .u8 (.c2 .rd (.fn 14 (.c2 .take (.c2 .sub (.var 2) (.var 1)) (.c2 .drop (.var 1) (.var 0))) .nil .nil) (.num 12))), .i .u8 (.wr .u8 (.c2 .rd (.fn 14 (.c2 .take (.c2 .sub (.var 2) (.var 1)) (.c2 .drop (.var 1) (.var 0))) .nil .nil) (.num 13))), .i .u8 (.wr .u8 (.c2 .rd (.fn 14 (.c2 .take (.c2 .sub (.var 2) (.var 1)) (.c2 .drop (.var 1) (.var 0))) .nil .nil) (.num 14))), .i .u8 (.wr .u8 (.c2 .rd (.fn 14 (.c2 .take (.c2 .sub (.var 2) (.var 1)) (.c2 .drop (.var 1) (.var 0))) .nil .nil) (.num 15))), .i .u8 (.wr .u8 (.c2 .rd (.fn 14 (.c2 .take (.c2 .sub (.var 2) (.var 1)) (.c2 .drop (.var 1) (.var 0))) .nil .nil) (.num 16))), .i .u8 (.wr .u8 (.c2 .rd (.fn 14 (.c2 .take (.c2 .sub (.var 2) (.var 1)) (.c2 .drop (.var 1) (.var 0))) .nil .nil) (.num 17))), .i .u8 (.wr .u8 (.c2 .rd (.fn 14 (.c2 .take (.c2 .sub (.var 2) (.var 1)) (.c2 .drop (.var 1) (.var 0))) .nil .nil) (.num 18))), .i .u8 (.wr .u8 (.c2 .rd (.fn 14 (.c2 .take (.c2 .sub (.var 2) (.var 1)) (.c2 .drop (.var 1) (.var 0))) .nil .nil) (.num 19))), .i .u8 (.wr .u8 (.c2 .rd (.fn 14 (.c2 .take (.c2 .sub (.var 2) (.var 1)) (.c2 .drop (.var 1) (.var 0))) .nil .nil) (.num 20))), .i .u8 (.wr .u8 (.c2 .rd (.fn 14 (.c2 .take (.c2 .sub (.var 2) (.var 1)) (.c2 .drop (.var 1) (.var 0))) .nil .nil) (.num 21))), .i .u8 (.wr .u8 (.c2 .rd (.fn 14 (.c2 .take (.c2 .sub (.var 2) (.var 1)) (.c2 .drop (.var 1) (.var 0))) .nil .nil) (.num 22))), .i .u8 (.wr .u8 (.c2 .rd (.fn 14 (.c2 .take (.c2 .sub (.var 2) (.var 1)) (.c2 .drop (.var 1) (.var 0))) .nil .nil) (.num 23))), .i .u8 (.wr .u8 (.c2 .rd (.fn 14 (.c2 .take (.c2 .sub (.var 2) (.var 1)) (.c2 .drop (.var 1) (.var 0))) .nil .nil) (.num 24))), .i .u8 (.wr .u8 (.c2 .rd (.fn 14 (.c2 .take (.c2 .sub (.var 2) (.var 1)) (.c2 .drop (.var 1) (.var 0))) .nil .nil) (.num 25))), .i .u8 (.wr .u8 (.c2 .rd (.fn 14 (.c2 .take (.c2 .sub (.var 2) (.var 1)) (.c2 .drop (.var 1) (.var 0))) .nil .nil) (.num 26))), .i .u8 (.wr .u8 (.c2 .rd (.fn 14 (.c2 .take (.c2 .sub (.var 2) (.var 1)) (.c2 .drop (.var 1) (.var 0))) .nil .nil) (.num 27))), .i .u8 (.wr .u8 (.c2 .rd (.fn 14 (.c2 .take (.c2 .sub (.var 2) (.var 1)) (.c2 .drop (.var 1) (.var 0))) .nil .nil) (.num 28))), .i .u8 (.wr .u8 (.c2 .rd (.fn 14 (.c2 .take (.c2 .sub (.var 2) (.var 1)) (.c2 .drop (.var 1) (.var 0))) .nil .nil) (.num 29))), .i .u8 (.wr .u8 (.c2 .rd (.fn 14 (.c2 .take (.c2 .sub (.var 2) (.var 1)) (.c2 .drop (.var 1) (.var 0))) .nil .nil) (.num 30))), .i .u8 (.wr .u8 (.c2 .rd (.fn 14 (.c2 .take (.c2 .sub (.var 2) (.var 1)) (.c2 .drop (.var 1) (.var 0))) .nil .nil) (.num 31))), .i .u8 (.wr .u8 (.c2 .rd (.fn 14 (.c2 .take (.c2 .sub (.var 2) (.var 1)) (.c2 .drop (.var 1) (.var 0))) .nil .nil) (.num 32))), .i .u8 (.wr .u8 (.c2 .rd (.fn 14 (.c2 .take (.c2 .sub (.var 2) (.var 1)) (.c2 .drop (.var 1) (.var 0))) .nil .nil) (.num 33))), .i .u8 (.wr .u8 (.c2 .rd (.fn 14 (.c2 .take (.c2 .sub (.var 2) (.var 1)) (.c2 .drop (.var 1) (.var 0))) .nil .nil) (.num 34))), .i .u8 (.wr .u8 (.c2 .rd (.fn 14 (.c2 .take (.c2 .sub (.var 2) (.var 1)) (.c2 .drop (.var 1) (.var 0))) .nil .nil) (.num 35))), .i .u16 (.num 0), .i .u16 (.num 0), .i .u32 (.num 0), .i .u32 (.num 0), .i .u8 (.num 0), .i .u16 (.num 0), .i .u16 (.num 0), .i .u16 (.num 0)], .c (.i .i64 (.num 0))], ⟨[], [(0, some ⟨true, .cells [.b (.bol true), .s 1 1 0 (.num 0) (.c1 .len (.var 0)), .i .i64 (.c2 .sub (.var 1) (.num (-40))), .i .i64 (.var 2), .i .i64 (.c2 .add (.var 3) (.num 1))]⟩), (1, some ⟨true, .row [.u8] (.spl (.var 0) (.c2 .sub (.var 1) (.num (-40))) (.c2 .rep (.c2 .sub (.wr .i64 (.c2 .add (.c2 .sub (.var 1) (.num (-40))) (.c2 .mx (.num (-40)) (.num 0)))) (.c2 .sub (.var 1) (.num (-40)))) (.cons (.num 0) .nil)))⟩)], 78, 5, []⟩))))))))
      (.split (.c2 .eq (.var 4) (.num 5))
       (.chk (.c2 .eq (.c2 .sub (.var 2) (.var 1)) (.c1 .len (.c2 .take (.c2 .sub (.var 2) (.var 1)) (.c2 .drop (.var 1) (.var 0)))))
       (.chk (.c1 (.kin [.u8]) (.c2 .take (.c2 .sub (.var 2) (.var 1)) (.c2 .drop (.var 1) (.var 0))))
       (.split (.c1 .not (.c2 .eq (.fn 25 (.c2 .take (.c2 .sub (.var 2) (.var 1)) (.c2 .drop (.var 1) (.var 0))) .nil .nil) (.num 0)))
        (.ret (.t [.g [.i .u8 (.num 0), .i .u8 (.num 0), .i .u8 (.num 0), .i .u8 (.num 0), .i .u8 (.num 0), .i .u8 (.num 0), .i .u8 (.num 0), .i .u8 (.num 0), .i .u8 (.num 0), .i .u8 (.num 0), .i .u8 (.num 0), .i .u8 (.num 0), .i .u8 (.num 0), .i .u16 (.num 0), .i .u8 (.num 0), .i .u16 (.num 0), .i .u16 (.num 0), .i .u8 (.num 0), .i .u8 (.num 0), .i .u8 (.num 0), .i .u16 (.num 0), .i .u8 (.num 0), .i .u8 (.num 0), .i .u8 (.num 0), .i .u8 (.num 0), .i .u8 (.num 0), .i .u8 (.num 0), .i .u8 (.num 0), .i .u8 (.num 0), .i .u8 (.num 0), .i .u32 (.num 0), .i .u8 (.num 0), .i .u8 (.num 0), .i .u8 (.num 0), .i .u8 (.num 0), .i .u8 (.num 0), .i .u8 (.num 0), .i .u8 (.num 0), .i .u8 (.num 0), .i .u8 (.num 0), .i .u8 (.num 0), .i .u8 (.num 0), .i .u8 (.num 0), .i .u8 (.num 0), .i .u8 (.num 0), .i .u8 (.num 0), .i .u8 (.num 0), .i .u8 (.num 0), .i .u8 (.num 0), .i .u8 (.num 0), .i .u8 (.num 0), .i .u8 (.num 0), .i .u8 (.num 0), .i .u8 (.num 0), .i .u8 (.num 0), .i .u8 (.num 0), .i .u8 (.num 0), .i .u8 (.num 0), .i .u8 (.num 0), .i .u8 (.num 0), .i .u8 (.num 0), .i .u8 (.num 0), .i .u8 (.num 0), .i .u8 (.num 0), .i .u8 (.num 0), .i .u16 (.num 0), .i .u16 (.num 0), .i .u32 (.num 0), .i .u32 (.num 0), .i .u8 (.num 0), .i .u16 (.num 0), .i .u16 (.num 0), .i .u16 (.num 0)], .c (.i .i64 (.fn 25 (.c2 .take (.c2 .sub (.var 2) (.var 1)) (.c2 .drop (.var 1) (.var 0))) .nil .nil))], ⟨[], [], 78, 5, []⟩))
        (.split (.c2 .lt (.num (-20)) (.c2 .sub (.num 0) (.c2 .sub (.var 2) (.var 1))))
         (.ret (.t [.g [.i .u8 (.var 4), .i .u8 (.num 0), .i .u8 (.num 0), .i .u8 (.num 0), .i .u8 (.num 0), .i .u8 (.num 0), .i .u8 (.num 0), .i .u8 (.num 0), .i .u8 (.num 0), .i .u8 (.num 0), .i .u8 (.num 0), .i .u8 (.num 0), .i .u8 (.num 0), .i .u16 (.num 0), .i .u8 (.num 0), .i .u16 (.num 0), .i .u16 (.num 0), .i .u8 (.num 0), .i .u8 (.num 0), .i .u8 (.num 0), .i .u16 (.num 0), .i .u8 (.num 0), .i .u8 (.num 0), .i .u8 (.num 0), .i .u8 (.num 0), .i .u8 (.num 0), .i .u8 (.num 0), .i .u8 (.num 0), .i .u8 (.num 0), .i .u8 (.num 0), .i .u32 (.num 0), .i .u8 (.num 0), .i .u8 (.num 0), .i .u8 (.num 0), .i .u8 (.num 0), .i .u8 (.num 0), .i .u8 (.num 0), .i .u8 (.num 0), .i .u8 (.num 0), .i .u8 (.num 0), .i .u8 (.num 0), .i .u8 (.num 0), .i .u8 (.num 0), .i .u8 (.num 0), .i .u8 (.num 0), .i .u8 (.num 0), .i .u8 (.num 0), .i .u8 (.num 0), .i .u8 (.num 0), .i .u8 (.num 0), .i .u8 (.num 0), .i .u8 (.num 0), .i .u8 (.num 0), .i .u8 (.num 0), .i .u8 (.num 0), .i .u8 (.num 0), .i .u8 (.num 0), .i .u8 (.num 0), .i .u8 (.num 0), .i .u8 (.num 0), .i .u8 (.num 0), .i .u8 (.num 0), .i .u8 (.num 0), .i .u8 (.num 0), .i .u8 (.num 0), .i .u16 (.wr .u16 (.c2 .rd (.fn 15 (.c2 .take (.c2 .sub (.var 2) (.var 1)) (.c2 .drop (.var 1) (.var 0))) .nil .nil) (.num 0))), .i .u16 (.wr .u16 (.c2 .rd (.fn 15 (.c2 .take (.c2 .sub (.var 2) (.var 1)) (.c2 .drop (.var 1) (.var 0))) .nil .nil) (.num 1))), .i .u32 (.wr .u32 (.c2 .rd (.fn 15 (.c2 .take (.c2 .sub (.var 2) (.var 1)) (.c2 .drop (.var 1) (.var 0))) .nil .nil) (.num 2))), .i .u32 (.wr .u32 (.c2 .rd (.fn 15 (.c2 .take (.c2 .sub (.var 2) (.var 1)) (.c2 .drop (.var 1) (.var 0))) .nil .nil) (.num 3))), .i .u8 (.wr .u8 (.c2 .rd (.fn 15 (.c2 .take (.c2 .sub (.var 2) (.var 1)) (.c2 .drop (.var 1) (.var 0))) .nil .nil) (.num 4))), .i .u16 (.wr .u16 (.c2 .rd (.fn 15 (.c2 .take (.c2 .sub (.var 2) (.var 1)) (.c2 .drop (.var 1) (.var 0))) .nil .nil) (.num 5))), .i .u16 (.num 0), .i .u16 (.num 0)], .c (.i .i64 (.num 6))], ⟨[], [], 78, 5, []⟩))
         (.chk (.c2 .le (.c2 .sub (.var 1) (.num (-20))) (.wr .i64 (.c2 .add (.c2 .sub (.var 1) (.num (-20))) (.c2 .mx (.num (-20)) (.num 0)))))
         (.chk (.c2 .le (.wr .i64 (.c2 .add (.c2 .sub (.var 1) (.num (-20))) (.c2 .mx (.num (-20)) (.num 0)))) (.c1 .len (.var 0)))
         (.ret (.t [.g [.i .u8 (.var 4), .i .u8 (.num 0), .i .u8 (.num 0), .i .u8 (.num 0), .i .u8 (.num 0), .i .u8 (.num 0), .i .u8 (.num 0), .i .u8 (.num 0), .i .u8 (.num 0), .i .u8 (.num 0), .i .u8 (.num 0), .i .u8 (.num 0), .i .u8 (.num 0), .i .u16 (.num 0), .i .u8 (.num 0), .i .u16 (.num 0), .i .u16 (.num 0), .i .u8 (.num 0), .i .u8 (.num 0), .i .u8 (.num 0), .i .u16 (.num 0), .i .u8 (.num 0), .i .u8 (.num 0), .i .u8 (.num 0), .i .u8 (.num 0), .i .u8 (.num 0), .i .u8 (.num 0), .i .u8 (.num 0), .i .u8 (.num 0), .i .u8 (.num 0), .i .u32 (.num 0), .i .u8 (.num 0), .i .u8 (.num 0), .i .u8 (.num 0), .i .u8 (.num 0), .i .u8 (.num 0), .i .u8 (.num 0), .i .u8 (.num 0), .i .u8 (.num 0), .i .u8 (.num 0), .i .u8 (.num 0), .i .u8 (.num 0), .i .u8 (.num 0), .i .u8 (.num 0), .i .u8 (.num 0), .i .u8 (.num 0), .i .u8 (.num 0), .i .u8 (.num 0), .i .u8 (.num 0), .i .u8 (.num 0), .i .u8 (.num 0), .i .u8 (.num 0), .i .u8 (.num 0), .i .u8 (.num 0), .i .u8 (.num 0), .i .u8 (.num 0), .i .u8 (.num 0), .i .u8 (.num 0), .i .u8 (.num 0), .i .u8 (.num 0), .i .u8 (.num 0), .i .u8 (.num 0), .i .u8 (.num 0), .i .u8 (.num 0), .i .u8 (.num 0), .i .u16 (.wr .u16 (.c2 .rd (.fn 15 (.c2 .take (.c2 .sub (.var 2) (.var 1)) (.c2 .drop (.var 1) (.var 0))) .nil .nil) (.num 0))), .i .u16 (.wr .u16 (.c2 .rd (.fn 15 (.c2 .take (.c2 .sub (.var 2) (.var 1)) (.c2 .drop (.var 1) (.var 0))) .nil .nil) (.num 1))), .i .u32 (.wr .u32 (.c2 .rd (.fn 15 (.c2 .take (.c2 .sub (.var 2) (.var 1)) (.c2 .drop (.var 1) (.var 0))) .nil .nil) (.num 2))), .i .u32 (.wr .u32 (.c2 .rd (.fn 15 (.c2 .take (.c2 .sub (.var 2) (.var 1)) (.c2 .drop (.var 1) (.var 0))) .nil .nil) (.num 3))), .i .u8 (.wr .u8 (.c2 .rd (.fn 15 (.c2 .take (.c2 .sub (.var 2) (.var 1)) (.c2 .drop (.var 1) (.var 0))) .nil .nil) (.num 4))), .i .u16 (.wr .u16 (.c2 .rd (.fn 15 (.c2 .take (.c2 .sub (.var 2) (.var 1)) (.c2 .drop (.var 1) (.var 0))) .nil .nil) (.num 5))), .i .u16 (.num 0), .i .u16 (.num 0)], .c (.i .i64 (.num 0))], ⟨[], [(0, some ⟨true, .cells [.b (.bol true), .s 1 1 0 (.num 0) (.c1 .len (.var 0)), .i .i64 (.c2 .sub (.var 1) (.num (-20))), .i .i64 (.var 2), .i .i64 (.c2 .add (.var 3) (.num 1))]⟩), (1, some ⟨true, .row [.u8] (.spl (.var 0) (.c2 .sub (.var 1) (.num (-20))) (.c2 .rep (.c2 .sub (.wr .i64 (.c2 .add (.c2 .sub (.var 1) (.num (-20))) (.c2 .mx (.num (-20)) (.num 0)))) (.c2 .sub (.var 1) (.num (-20)))) (.cons (.num 0) .nil)))⟩)], 78, 5, []⟩))))))))
       (.split (.c2 .eq (.var 4) (.num 6))
        (.chk (.c2 .eq (.c2 .sub (.var 2) (.var 1)) (.c1 .len (.c2 .take (.c2 .sub (.var 2) (.var 1)) (.c2 .drop (.var 1) (.var 0)))))
        (.chk (.c1 (.kin [.u8]) (.c2 .take (.c2 .sub (.var 2) (.var 1)) (.c2 .drop (.var 1) (.var 0))))
        (.split (.c1 .not (.c2 .eq (.fn 26 (.c2 .take (.c2 .sub (.var 2) (.var 1)) (.c2 .drop (.var 1) (.var 0))) .nil .nil) (.num 0)))
         (.ret (.t [.g [.i .u8 (.num 0), .i .u8 (.num 0), .i .u8 (.num 0), .i .u8 (.num 0), .i .u8 (.num 0), .i .u8 (.num 0), .i .u8 (.num 0), .i .u8 (.num 0), .i .u8 (.num 0), .i .u8 (.num 0), .i .u8 (.num 0), .i .u8 (.num 0), .i .u8 (.num 0), .i .u16 (.num 0), .i .u8 (.num 0), .i .u16 (.num 0), .i .u16 (.num 0), .i .u8 (.num 0), .i .u8 (.num 0), .i .u8 (.num 0), .i .u16 (.num 0), .i .u8 (.num 0), .i .u8 (.num 0), .i .u8 (.num 0), .i .u8 (.num 0), .i .u8 (.num 0), .i .u8 (.num 0), .i .u8 (.num 0), .i .u8 (.num 0), .i .u8 (.num 0), .i .u32 (.num 0), .i .u8 (.num 0), .i .u8 (.num 0), .i .u8 (.num 0), .i .u8 (.num 0), .i .u8 (.num 0), .i .u8 (.num 0), .i .u8 (.num 0), .i .u8 (.num 0), .i .u8 (.num 0), .i .u8 (.num 0), .i .u8 (.num 0), .i .u8 (.num 0), .i .u8 (.num 0), .i .u8 (.num 0), .i .u8 (.num 0), .i .u8 (.num 0), .i .u8 (.num 0), .i .u8 (.num 0), .i .u8 (.num 0), .i .u8 (.num 0), .i .u8 (.num 0), .i .u8 (.num 0), .i .u8 (.num 0), .i .u8 (.num 0), .i .u8 (.num 0), .i .u8 (.num 0), .i .u8 (.num 0), .i .u8 (.num 0), .i .u8 (.num 0), .i .u8 (.num 0), .i .u8 (.num 0), .i .u8 (.num 0), .i .u8 (.num 0), .i .u8 (.num 0), .i .u16 (.num 0), .i .u16 (.num 0), .i .u32 (.num 0), .i .u32 (.num 0), .i .u8 (.num 0), .i .u16 (.num 0), .i .u16 (.num 0), .i .u16 (.num 0)], .c (.i .i64 (.fn 26 (.c2 .take (.c2 .sub (.var 2) (.var 1)) (.c2 .drop (.var 1) (.var 0))) .nil .nil))], ⟨[], [], 78, 5, []⟩))
         (.split (.c2 .lt (.num (-8)) (.c2 .sub (.num 0) (.c2 .sub (.var 2) (.var 1))))
          (.ret (.t [.g [.i .u8 (.var 4), .i .u8 (.num 0), .i .u8 (.num 0), .i .u8 (.num 0), .i .u8 (.num 0), .i .u8 (.num 0), .i .u8 (.num 0), .i .u8 (.num 0), .i .u8 (.num 0), .i .u8 (.num 0), .i .u8 (.num 0), .i .u8 (.num 0), .i .u8 (.num 0), .i .u16 (.num 0), .i .u8 (.num 0), .i .u16 (.num 0), .i .u16 (.num 0), .i .u8 (.num 0), .i .u8 (.num 0), .i .u8 (.num 0), .i .u16 (.num 0), .i .u8 (.num 0), .i .u8 (.num 0), .i .u8 (.num 0), .i .u8 (.num 0), .i .u8 (.num 0), .i .u8 (.num 0), .i .u8 (.num 0), .i .u8 (.num 0), .i .u8 (.num 0), .i .u32 (.num 0), .i .u8 (.num 0), .i .u8 (.num 0), .i .u8 (.num 0), .i .u8 (.num 0), .i .u8 (.num 0), .i .u8 (.num 0), .i .u8 (.num 0), .i .u8 (.num 0), .i .u8 (.num 0), .i .u8 (.num 0), .i .u8 (.num 0), .i .u8 (.num 0), .i .u8 (.num 0), .i .u8 (.num 0), .i .u8 (.num 0), .i .u8 (.num 0), .i .u8 (.num 0), .i .u8 (.num 0), .i .u8 (.num 0), .i .u8 (.num 0), .i .u8 (.num 0), .i .u8 (.num 0), .i .u8 (.num 0), .i .u8 (.num 0), .i .u8 (.num 0), .i .u8 (.num 0), .i .u8 (.num 0), .i .u8 (.num 0), .i .u8 (.num 0), .i .u8 (.num 0), .i .u8 (.num 0), .i .u8 (.num 0), .i .u8 (.num 0), .i .u8 (.num 0), .i .u16 (.num 0), .i .u16 (.num 0), .i .u32 (.num 0), .i .u32 (.num 0), .i .u8 (.num 0), .i .u16 (.num 0), .i .u16 (.wr .u16 (.c2 .rd (.fn 16 (.c2 .take (.c2 .sub (.var 2) (.var 1)) (.c2 .drop (.var 1) (.var 0))) .nil .nil) (.num 0))), .i .u16 (.wr .u16 (.c2 .rd (.fn 16 (.c2 .take (.c2 .sub (.var 2) (.var 1)) (.c2 .drop (.var 1) (.var 0))) .nil .nil) (.num 1)))], .c (.i .i64 (.num 6))], ⟨[], [], 78, 5, []⟩))
          (.chk (.c2 .le (.c2 .sub (.var 1) (.num (-8))) (.wr .i64 (.c2 .add (.c2 .sub (.var 1) (.num (-8))) (.c2 .mx (.num (-8)) (.num 0)))))
          (.chk (.c2 .le (.wr .i64 (.c2 .add (.c2 .sub (.var 1) (.num (-8))) (.c2 .mx (.num (-8)) (.num 0)))) (.c1 .len (.var 0)))
          (.ret (.t [.g [.i .u8 (.var 4), .i .u8 (.num 0), .i .u8 (.num 0), .i .u8 (.num 0), .i .u8 (.num 0), .i .u8 (.num 0), .i .u8 (.num 0), .i .u8 (.num 0), .i .u8 (.num 0), .i .u8 (.num 0), .i .u8 (.num 0), .i .u8 (.num 0), .i .u8 (.num 0), .i .u16 (.num 0), .i .u8 (.num 0), .i .u16 (.num 0), .i .u16 (.num 0), .i .u8 (.num 0), .i .u8 (.num 0), .i .u8 (.num 0), .i .u16 (.num 0), .i .u8 (.num 0), .i .u8 (.num 0), .i .u8 (.num 0), .i .u8 (.num 0), .i .u8 (.num 0), .i .u8 (.num 0), .i .u8 (.num 0), .i .u8 (.num 0), .i .u8 (.num 0), .i .u32 (.num 0), .i .u8 (.num 0), .i .u8 (.num 0), .i .u8 (.num 0), .i .u8 (.num 0), .i .u8 (.num 0), .i .u8 (.num 0), .i .u8 (.num 0), .i .u8 (.num 0), .i .u8 (.num 0), .i .u8 (.num 0), .i .u8 (.num 0), .i .u8 (.num 0), .i .u8 (.num 0), .i .u8 (.num 0), .i .u8 (.num 0), .i .u8 (.num 0), .i .u8 (.num 0), .i .u8 (.num 0), .i .u8 (.num 0), .i .u8 (.num 0), .i .u8 (.num 0), .i .u8 (.num 0), .i .u8 (.num 0), .i .u8 (.num 0), .i .u8 (.num 0), .i .u8 (.num 0), .i .u8 (.num 0), .i .u8 (.num 0), .i .u8 (.num 0), .i .u8 (.num 0), .i .u8 (.num 0), .i .u8 (.num 0), .i .u8 (.num 0), .i .u8 (.num 0), .i .u16 (.num 0), .i .u16 (.num 0), .i .u32 (.num 0), .i .u32 (.num 0), .i .u8 (.num 0), .i .u16 (.num 0), .i .u16 (.wr .u16 (.c2 .rd (.fn 16 (.c2 .take (.c2 .sub (.var 2) (.var 1)) (.c2 .drop (.var 1) (.var 0))) .nil .nil) (.num 0))), .i .u16 (.wr .u16 (.c2 .rd (.fn 16 (.c2 .take (.c2 .sub (.var 2) (.var 1)) (.c2 .drop (.var 1) (.var 0))) .nil .nil) (.num 1)))], .c (.i .i64 (.num 0))], ⟨[], [(0, some ⟨true, .cells [.b (.bol true), .s 1 1 0 (.num 0) (.c1 .len (.var 0)), .i .i64 (.c2 .sub (.var 1) (.num (-8))), .i .i64 (.var 2), .i .i64 (.c2 .add (.var 3) (.num 1))]⟩), (1, some ⟨true, .row [.u8] (.spl (.var 0) (.c2 .sub (.var 1) (.num (-8))) (.c2 .rep (.c2 .sub (.wr .i64 (.c2 .add (.c2 .sub (.var 1) (.num (-8))) (.c2 .mx (.num (-8)) (.num 0)))) (.c2 .sub (.var 1) (.num (-8)))) (.cons (.num 0) .nil)))⟩)], 78, 5, []⟩))))))))
        (.fail 11)))))))))
theorem treePkOff_is : funTree (ctxN Go.Proofs.Try.prog annsPk consOn 8) annsPk 7 tOff.vs tOff.bs tOff.n (preF tOff.res) = treePkOff := by kernel_rfl
end Go.Proofs.Ytfhjlimdakphcaa.Sx
/- Sx: what Go function 8 does, as a tree of conditions (printed by a tool of this claim, proved by the kernel). Conditions: none. -/
set_option maxRecDepth 100000
namespace Go.Proofs.Ytfhjlimdakphcaa.Sx
open Go
def treePkOn : M (V × St) :=
(.split (.c2 .lt (.var 4) (.num 1))
 (.ret (.w (.c (.i .i64 (.num 120))), ⟨[], [], 16, 77, []⟩))
 (.split (.c2 .lt (.num 6) (.var 4))
  (.ret (.w (.c (.i .i64 (.num 120))), ⟨[], [], 16, 77, []⟩))
  (.split (.c2 .eq (.var 4) (.num 1))
   (.split (.c1 .not (.c2 .and (.c2 .eq (.num 0) (.var 18)) (.c2 .and (.c2 .eq (.num 0) (.var 19)) (.c2 .and (.c2 .eq (.num 0) (.var 20)) (.c2 .and (.c2 .eq (.num 0) (.var 21)) (.c2 .and (.c2 .eq (.num 0) (.var 22)) (.c2 .and (.c2 .eq (.num 0) (.var 23)) (.c2 .and (.c2 .eq (.num 0) (.var 24)) (.c2 .and (.c2 .eq (.num 0) (.var 25)) (.c2 .and (.c2 .eq (.num 0) (.var 26)) (.c2 .and (.c2 .eq (.num 0) (.var 27)) (.c2 .and (.c2 .eq (.num 0) (.var 28)) (.c2 .and (.c2 .eq (.num 0) (.var 29)) (.c2 .and (.c2 .eq (.num 0) (.var 30)) (.c2 .and (.c2 .eq (.num 0) (.var 31)) (.c2 .and (.c2 .eq (.num 0) (.var 32)) (.c2 .and (.c2 .eq (.num 0) (.var 33)) (.c2 .and (.c2 .eq (.num 0) (.var 34)) (.c2 .and (.c2 .eq (.num 0) (.var 35)) (.c2 .and (.c2 .eq (.num 0) (.var 36)) (.c2 .and (.c2 .eq (.num 0) (.var 37)) (.c2 .and (.c2 .eq (.num 0) (.var 38)) (.c2 .and (.c2 .eq (.num 0) (.var 39)) (.c2 .and (.c2 .eq (.num 0) (.var 40)) (.c2 .and (.c2 .eq (.num 0) (.var 41)) (.c2 .and (.c2 .eq (.num 0) (.var 42)) (.c2 .and (.c2 .eq (.num 0) (.var 43)) (.c2 .and (.c2 .eq (.num 0) (.var 44)) (.c2 .and (.c2 .eq (.num 0) (.var 45)) (.c2 .and (.c2 .eq (.num 0) (.var 46)) (.c2 .and (.c2 .eq (.num 0) (.var 47)) (.c2 .and (.c2 .eq (.num 0) (.var 48)) (.c2 .and (.c2 .eq (.num 0) (.var 49)) (.c2 .and (.c2 .eq (.num 0) (.var 50)) (.c2 .and (.c2 .eq (.num 0) (.var 51)) (.c2 .and (.c2 .eq (.num 0) (.var 52)) (.c2 .and (.c2 .eq (.num 0) (.var 53)) (.c2 .and (.c2 .eq (.num 0) (.var 54)) (.c2 .and (.c2 .eq (.num 0) (.var 55)) (.c2 .and (.c2 .eq (.num 0) (.var 56)) (.c2 .and (.c2 .eq (.num 0) (.var 57)) (.c2 .and (.c2 .eq (.num 0) (.var 58)) (.c2 .and (.c2 .eq (.num 0) (.var 59)) (.c2 .and (.c2 .eq (.num 0) (.var 60)) (.c2 .and (.c2 .eq (.num 0) (.var 61)) (.c2 .and (.c2 .eq (.num 0) (.var 62)) (.c2 .and (.c2 .eq (.num 0) (.var 63)) (.c2 .and (.c2 .eq (.num 0) (.var 64)) (.c2 .and (.c2 .eq (.num 0) (.var 65)) (.c2 .and (.c2 .eq (.num 0) (.var 66)) (.c2 .and (.c2 .eq (.num 0) (.var 67)) (.c2 .and (.c2 .eq (.num 0) (.var 68)) (.c2 .and (.c2 .eq (.num 0) (.var 69)) (.c2 .and (.c2 .eq (.num 0) (.var 70)) (.c2 .and (.c2 .eq (.num 0) (.var 71)) (.c2 .and (.c2 .eq (.num 0) (.var 72)) (.c2 .and (.c2 .eq (.num 0) (.var 73)) (.c2 .and (.c2 .eq (.num 0) (.var 74)) (.c2 .and (.c2 .eq (.num 0) (.var 75)) (.c2 .eq (.num 0) (.var 76)))))))))))))))))))))))))))))))))))))))))))))))))))))))))))))
    (.ret (.w (.c (.i .i64 (.num 120))), ⟨[], [], 20, 77, []⟩))
    (.chk (.c2 .eq (.c2 .sub (.var 2) (.var 1)) (.c1 .len (.c2 .take (.c2 .sub (.var 2) (.var 1)) (.c2 .drop (.var 1) (.var 0)))))
    (.chk (.c2 .le (.num 0) (.var 5))
    (.chk (.c2 .le (.var 5) (.num 255))
    (.chk (.c2 .le (.num 0) (.var 6))
    (.chk (.c2 .le (.var 6) (.num 255))
    (.chk (.c2 .le (.num 0) (.var 7))
    (.chk (.c2 .le (.var 7) (.num 255))
    (.chk (.c2 .le (.num 0) (.var 8))
    (.chk (.c2 .le (.var 8) (.num 255))
    (.chk (.c2 .le (.num 0) (.var 9))
    (.chk (.c2 .le (.var 9) (.num 255))
    (.chk (.c2 .le (.num 0) (.var 10))
    (.chk (.c2 .le (.var 10) (.num 255))
    (.chk (.c2 .le (.num 0) (.var 11))
    (.chk (.c2 .le (.var 11) (.num 255))
    (.chk (.c2 .le (.num 0) (.var 12))
    (.chk (.c2 .le (.var 12) (.num 255))
    (.chk (.c2 .le (.num 0) (.var 13))
    (.chk (.c2 .le (.var 13) (.num 255))
    (.chk (.c2 .le (.num 0) (.var 14))
    (.chk (.c2 .le (.var 14) (.num 255))
    (.chk (.c2 .le (.num 0) (.var 15))
    (.chk (.c2 .le (.var 15) (.num 255))
    (.chk (.c2 .le (.num 0) (.var 16))
    (.chk (.c2 .le (.var 16) (.num 255))
    (.chk (.c2 .le (.num 0) (.var 17))
    (.chk (.c2 .le (.var 17) (.num 65535))
    (.chk (.c1 (.kin [.u8]) (.c2 .take (.c2 .sub (.var 2) (.var 1)) (.c2 .drop (.var 1) (.var 0))))
    (.split (.c2 .eq (.fn 41 (.cons (.var 5) (.cons (.var 6) (.cons (.var 7) (.cons (.var 8) (.cons (.var 9) (.cons (.var 10) (.cons (.var 11) (.cons (.var 12) (.cons (.var 13) (.cons (.var 14) (.cons (.var 15) (.cons (.var 16) (.cons (.var 17) .nil))))))))))))) (.c2 .take (.c2 .sub (.var 2) (.var 1)) (.c2 .drop (.var 1) (.var 0))) .nil) (.num 0))
     (.chk (.c1 (.kin [.u8]) (.fn 31 (.cons (.var 5) (.cons (.var 6) (.cons (.var 7) (.cons (.var 8) (.cons (.var 9) (.cons (.var 10) (.cons (.var 11) (.cons (.var 12) (.cons (.var 13) (.cons (.var 14) (.cons (.var 15) (.cons (.var 16) (.cons (.var 17) .nil))))))))))))) (.c2 .take (.c2 .sub (.var 2) (.var 1)) (.c2 .drop (.var 1) (.var 0))) .nil))
     (.chk (.c2 .eq (.c1 .len (.fn 31 (.cons (.var 5) (.cons (.var 6) (.cons (.var 7) (.cons (.var 8) (.cons (.var 9) (.cons (.var 10) (.cons (.var 11) (.cons (.var 12) (.cons (.var 13) (.cons (.var 14) (.cons (.var 15) (.cons (.var 16) (.cons (.var 17) .nil))))))))))))) (.c2 .take (.c2 .sub (.var 2) (.var 1)) (.c2 .drop (.var 1) (.var 0))) .nil)) (.num 14))
     (.split (.c2 .lt (.c2 .sub (.num 2048) (.c2 .sub (.var 2) (.var 1))) (.num 14))
      (.ret (.w (.c (.i .i64 (.num 5))), ⟨[], [], 83, 77, []⟩))
      (.split (.c2 .lt (.var 1) (.num 14))
       (.ret (.w (.c (.i .i64 (.num 0))), ⟨[], [(83, some ⟨true, .row [.u8] (.spl (.spl (.c2 .rep (.c2 .add (.c2 .add (.num 78) (.c2 .sub (.var 2) (.var 1))) (.num 64)) (.cons (.num 0) .nil)) (.num 78) (.c2 .take (.c2 .sub (.var 2) (.var 1)) (.c2 .drop (.var 1) (.var 0)))) (.num 64) (.c2 .take (.num 14) (.fn 31 (.cons (.var 5) (.cons (.var 6) (.cons (.var 7) (.cons (.var 8) (.cons (.var 9) (.cons (.var 10) (.cons (.var 11) (.cons (.var 12) (.cons (.var 13) (.cons (.var 14) (.cons (.var 15) (.cons (.var 16) (.cons (.var 17) .nil))))))))))))) (.c2 .take (.c2 .sub (.var 2) (.var 1)) (.c2 .drop (.var 1) (.var 0))) .nil)))⟩), (0, some ⟨true, .cells [.b (.bol true), .s 83 1 0 (.num 0) (.c2 .add (.c2 .add (.num 78) (.c2 .sub (.var 2) (.var 1))) (.num 64)), .i .i64 (.num 64), .i .i64 (.c2 .sub (.c2 .add (.c2 .add (.num 78) (.c2 .sub (.var 2) (.var 1))) (.num 64)) (.num 64)), .i .i64 (.c2 .add (.var 3) (.num 1))]⟩)], 84, 77, []⟩))
       (.chk (.c2 .le (.c2 .sub (.var 1) (.num 14)) (.wr .i64 (.c2 .add (.c2 .sub (.var 1) (.num 14)) (.c2 .mx (.num 14) (.num 0)))))
       (.chk (.c2 .le (.wr .i64 (.c2 .add (.c2 .sub (.var 1) (.num 14)) (.c2 .mx (.num 14) (.num 0)))) (.c1 .len (.var 0)))
       (.chk (.c2 .le (.c2 .add (.c2 .sub (.var 1) (.num 14)) (.num 14)) (.c1 .len (.var 0)))
       (.ret (.w (.c (.i .i64 (.num 0))), ⟨[], [(1, some ⟨true, .row [.u8] (.spl (.spl (.var 0) (.c2 .sub (.var 1) (.num 14)) (.c2 .rep (.c2 .sub (.wr .i64 (.c2 .add (.c2 .sub (.var 1) (.num 14)) (.c2 .mx (.num 14) (.num 0)))) (.c2 .sub (.var 1) (.num 14))) (.cons (.num 0) .nil))) (.c2 .sub (.var 1) (.num 14)) (.c2 .take (.num 14) (.fn 31 (.cons (.var 5) (.cons (.var 6) (.cons (.var 7) (.cons (.var 8) (.cons (.var 9) (.cons (.var 10) (.cons (.var 11) (.cons (.var 12) (.cons (.var 13) (.cons (.var 14) (.cons (.var 15) (.cons (.var 16) (.cons (.var 17) .nil))))))))))))) (.c2 .take (.c2 .sub (.var 2) (.var 1)) (.c2 .drop (.var 1) (.var 0))) .nil)))⟩), (0, some ⟨true, .cells [.b (.bol true), .s 1 1 0 (.num 0) (.c1 .len (.var 0)), .i .i64 (.c2 .sub (.var 1) (.num 14)), .i .i64 (.var 2), .i .i64 (.c2 .add (.var 3) (.num 1))]⟩)], 83, 77, []⟩)))))))))
     (.ret (.w (.c (.i .i64 (.fn 41 (.cons (.var 5) (.cons (.var 6) (.cons (.var 7) (.cons (.var 8) (.cons (.var 9) (.cons (.var 10) (.cons (.var 11) (.cons (.var 12) (.cons (.var 13) (.cons (.var 14) (.cons (.var 15) (.cons (.var 16) (.cons (.var 17) .nil))))))))))))) (.c2 .take (.c2 .sub (.var 2) (.var 1)) (.c2 .drop (.var 1) (.var 0))) .nil))), ⟨[], [], 83, 77, []⟩))))))))))))))))))))))))))))))))
   (.split (.c2 .eq (.var 4) (.num 2))
    (.split (.c1 .not (.c2 .and (.c2 .eq (.num 0) (.var 5)) (.c2 .and (.c2 .eq (.num 0) (.var 6)) (.c2 .and (.c2 .eq (.num 0) (.var 7)) (.c2 .and (.c2 .eq (.num 0) (.var 8)) (.c2 .and (.c2 .eq (.num 0) (.var 9)) (.c2 .and (.c2 .eq (.num 0) (.var 10)) (.c2 .and (.c2 .eq (.num 0) (.var 11)) (.c2 .and (.c2 .eq (.num 0) (.var 12)) (.c2 .and (.c2 .eq (.num 0) (.var 13)) (.c2 .and (.c2 .eq (.num 0) (.var 14)) (.c2 .and (.c2 .eq (.num 0) (.var 15)) (.c2 .and (.c2 .eq (.num 0) (.var 16)) (.c2 .and (.c2 .eq (.num 0) (.var 17)) (.c2 .and (.c2 .eq (.num 0) (.var 21)) (.c2 .and (.c2 .eq (.num 0) (.var 22)) (.c2 .and (.c2 .eq (.num 0) (.var 23)) (.c2 .and (.c2 .eq (.num 0) (.var 24)) (.c2 .and (.c2 .eq (.num 0) (.var 25)) (.c2 .and (.c2 .eq (.num 0) (.var 26)) (.c2 .and (.c2 .eq (.num 0) (.var 27)) (.c2 .and (.c2 .eq (.num 0) (.var 28)) (.c2 .and (.c2 .eq (.num 0) (.var 29)) (.c2 .and (.c2 .eq (.num 0) (.var 30)) (.c2 .and (.c2 .eq (.num 0) (.var 31)) (.c2 .and (.c2 .eq (.num 0) (.var 32)) (.c2 .and (.c2 .eq (.num 0) (.var 33)) (.c2 .and (.c2 .eq (.num 0) (.var 34)) (.c2 .and (.c2 .eq (.num 0) (.var 35)) (.c2 .and (.c2 .eq (.num 0) (.var 36)) (.c2 .and (.c2 .eq (.num 0) (.var 37)) (.c2 .and (.c2 .eq (.num 0) (.var 38)) (.c2 .and (.c2 .eq (.num 0) (.var 39)) (.c2 .and (.c2 .eq (.num 0) (.var 40)) (.c2 .and (.c2 .eq (.num 0) (.var 41)) (.c2 .and (.c2 .eq (.num 0) (.var 42)) (.c2 .and (.c2 .eq (.num 0) (.var 43)) (.c2 .and (.c2 .eq (.num 0) (.var 44)) (.c2 .and (.c2 .eq (.num 0) (.var 45)) (.c2 .and (.c2 .eq (.num 0) (.var 46)) (.c2 .and (.c2 .eq (.num 0) (.var 47)) (.c2 .and (.c2 .eq (.num 0) (.var 48)) (.c2 .and (.c2 .eq (.num 0) (.var 49)) (.c2 .and (.c2 .eq (.num 0) (.var 50)) (.c2 .and (.c2 .eq (.num 0) (.var 51)) (.c2 .and (.c2 .eq (.num 0) (.var 52)) (.c2 .and (.c2 .eq (.num 0) (.var 53)) (.c2 .and (.c2 .eq (.num 0) (.var 54)) (.c2 .and (.c2 .eq (.num 0) (.var 55)) (.c2 .and (.c2 .eq (.num 0) (.var 56)) (.c2 .and (.c2 .eq (.num 0) (.var 57)) (.c2 .and (.c2 .eq (.num 0) (.var 58)) (.c2 .and (.c2 .eq (.num 0) (.var 59)) (.c2 .and (.c2 .eq (.num 0) (.var 60)) (.c2 .and (.c2 .eq (.num 0) (.var 61)) (.c2 .and (.c2 .eq (.num 0) (.var 62)) (.c2 .and (.c2 .eq (.num 0) (.var 63)) (.c2 .and (.c2 .eq (.num 0) (.var 64)) (.c2 .and (.c2 .eq (.num 0) (.var 65)) (.c2 .and (.c2 .eq (.num 0) (.var 66)) (.c2 .and (.c2 .eq (.num 0) (.var 67)) (.c2 .and (.c2 .eq (.num 0) (.var 68)) (.c2 .and (.c2 .eq (.num 0) (.var 69)) (.c2 .and (.c2 .eq (.num 0) (.var 70)) (.c2 .and (.c2 .eq (.num 0) (.var 71)) (.c2 .and (.c2 .eq (.num 0) (.var 72)) (.c2 .and (.c2 .eq (.num 0) (.var 73)) (.c2 .and (.c2 .eq (.num 0) (.var 74)) (.c2 .and (.c2 .eq (.num 0) (.var 75)) (.c2 .eq (.num 0) (.var 76)))))))))))))))))))))))))))))))))))))))))))))))))))))))))))))))))))))))
     (.ret (.w (.c (.i .i64 (.num 120))), ⟨[], [], 20, 77, []⟩))
     (.split (.c2 .lt (.num 7) (.var 18))
      (.ret (.w (.c (.i .i64 (.num 60))), ⟨[], [], 22, 77, []⟩))
      (.split (.c2 .lt (.num 4095) (.var 19))
       (.ret (.w (.c (.i .i64 (.num 60))), ⟨[], [], 22, 77, []⟩))
       (.chk (.c2 .eq (.c2 .sub (.var 2) (.var 1)) (.c1 .len (.c2 .take (.c2 .sub (.var 2) (.var 1)) (.c2 .drop (.var 1) (.var 0)))))
       (.chk (.c2 .le (.num 0) (.var 18))
       (.chk (.c2 .le (.num 0) (.var 19))
       (.chk (.c2 .le (.num 0) (.var 20))
       (.chk (.c2 .le (.var 20) (.num 65535))
       (.chk (.c1 (.kin [.u8]) (.c2 .take (.c2 .sub (.var 2) (.var 1)) (.c2 .drop (.var 1) (.var 0))))
       (.split (.c2 .eq (.fn 42 (.cons (.var 18) (.cons (.var 19) (.cons (.var 20) .nil))) (.c2 .take (.c2 .sub (.var 2) (.var 1)) (.c2 .drop (.var 1) (.var 0))) .nil) (.num 0))
        (.chk (.c1 (.kin [.u8]) (.fn 32 (.cons (.var 18) (.cons (.var 19) (.cons (.var 20) .nil))) (.c2 .take (.c2 .sub (.var 2) (.var 1)) (.c2 .drop (.var 1) (.var 0))) .nil))
        (.chk (.c2 .eq (.c1 .len (.fn 32 (.cons (.var 18) (.cons (.var 19) (.cons (.var 20) .nil))) (.c2 .take (.c2 .sub (.var 2) (.var 1)) (.c2 .drop (.var 1) (.var 0))) .nil)) (.num 4))
        (.split (.c2 .lt (.c2 .sub (.num 2048) (.c2 .sub (.var 2) (.var 1))) (.num 4))
         (.ret (.w (.c (.i .i64 (.num 5))), ⟨[], [], 83, 77, []⟩))
         (.split (.c2 .lt (.var 1) (.num 4))
          (.ret (.w (.c (.i .i64 (.num 0))), ⟨[], [(83, some ⟨true, .row [.u8] (.spl (.spl (.c2 .rep (.c2 .add (.c2 .add (.num 68) (.c2 .sub (.var 2) (.var 1))) (.num 64)) (.cons (.num 0) .nil)) (.num 68) (.c2 .take (.c2 .sub (.var 2) (.var 1)) (.c2 .drop (.var 1) (.var 0)))) (.num 64) (.c2 .take (.num 4) (.fn 32 (.cons (.var 18) (.cons (.var 19) (.cons (.var 20) .nil))) (.c2 .take (.c2 .sub (.var 2) (.var 1)) (.c2 .drop (.var 1) (.var 0))) .nil)))⟩), (0, some ⟨true, .cells [.b (.bol true), .s 83 1 0 (.num 0) (.c2 .add (.c2 .add (.num 68) (.c2 .sub (.var 2) (.var 1))) (.num 64)), .i .i64 (.num 64), .i .i64 (.c2 .sub (.c2 .add (.c2 .add (.num 68) (.c2 .sub (.var 2) (.var 1))) (.num 64)) (.num 64)), .i .i64 (.c2 .add (.var 3) (.num 1))]⟩)], 84, 77, []⟩))
          (.chk (.c2 .le (.c2 .sub (.var 1) (.num 4)) (.wr .i64 (.c2 .add (.c2 .sub (.var 1) (.num 4)) (.c2 .mx (.num 4) (.num 0)))))
          (.chk (.c2 .le (.wr .i64 (.c2 .add (.c2 .sub (.var 1) (.num 4)) (.c2 .mx (.num 4) (.num 0)))) (.c1 .len (.var 0)))
          (.chk (.c2 .le (.c2 .add (.c2 .sub (.var 1) (.num 4)) (.num 4)) (.c1 .len (.var 0)))
          (.ret (.w (.c (.i .i64 (.num 0))), ⟨[], [(1, some ⟨true, .row [.u8] (.spl (.spl (.var 0) (.c2 .sub (.var 1) (.num 4)) (.c2 .rep (.c2 .sub (.wr .i64 (.c2 .add (.c2 .sub (.var 1) (.num 4)) (.c2 .mx (.num 4) (.num 0)))) (.c2 .sub (.var 1) (.num 4))) (.cons (.num 0) .nil))) (.c2 .sub (.var 1) (.num 4)) (.c2 .take (.num 4) (.fn 32 (.cons (.var 18) (.cons (.var 19) (.cons (.var 20) .nil))) (.c2 .take (.c2 .sub (.var 2) (.var 1)) (.c2 .drop (.var 1) (.var 0))) .nil)))⟩), (0, some ⟨true, .cells [.b (.bol true), .s 1 1 0 (.num 0) (.c1 .len (.var 0)), .i .i64 (.c2 .sub (.var 1) (.num 4)), .i .i64 (.var 2), .i .i64 (.c2 .add (.var 3) (.num 1))]⟩)], 83, 77, []⟩)))))))))
        (.ret (.w (.c (.i .i64 (.fn 42 (.cons (.var 18) (.cons (.var 19) (.cons (.var 20) .nil))) (.c2 .take (.c2 .sub (.var 2) (.var 1)) (.c2 .drop (.var 1) (.var 0))) .nil))), ⟨[], [], 83, 77, []⟩))))))))))))
    (.split (.c2 .eq (.var 4) (.num 3))
     (.split (.c1 .not (.c2 .and (.c2 .eq (.num 0) (.var 5)) (.c2 .and (.c2 .eq (.num 0) (.var 6)) (.c2 .and (.c2 .eq (.num 0) (.var 7)) (.c2 .and (.c2 .eq (.num 0) (.var 8)) (.c2 .and (.c2 .eq (.num 0) (.var 9)) (.c2 .and (.c2 .eq (.num 0) (.var 10)) (.c2 .and (.c2 .eq (.num 0) (.var 11)) (.c2 .and (.c2 .eq (.num 0) (.var 12)) (.c2 .and (.c2 .eq (.num 0) (.var 13)) (.c2 .and (.c2 .eq (.num 0) (.var 14)) (.c2 .and (.c2 .eq (.num 0) (.var 15)) (.c2 .and (.c2 .eq (.num 0) (.var 16)) (.c2 .and (.c2 .eq (.num 0) (.var 17)) (.c2 .and (.c2 .eq (.num 0) (.var 18)) (.c2 .and (.c2 .eq (.num 0) (.var 19)) (.c2 .and (.c2 .eq (.num 0) (.var 20)) (.c2 .and (.c2 .eq (.num 0) (.var 33)) (.c2 .and (.c2 .eq (.num 0) (.var 34)) (.c2 .and (.c2 .eq (.num 0) (.var 35)) (.c2 .and (.c2 .eq (.num 0) (.var 36)) (.c2 .and (.c2 .eq (.num 0) (.var 37)) (.c2 .and (.c2 .eq (.num 0) (.var 38)) (.c2 .and (.c2 .eq (.num 0) (.var 39)) (.c2 .and (.c2 .eq (.num 0) (.var 40)) (.c2 .and (.c2 .eq (.num 0) (.var 41)) (.c2 .and (.c2 .eq (.num 0) (.var 42)) (.c2 .and (.c2 .eq (.num 0) (.var 43)) (.c2 .and (.c2 .eq (.num 0) (.var 44)) (.c2 .and (.c2 .eq (.num 0) (.var 45)) (.c2 .and (.c2 .eq (.num 0) (.var 46)) (.c2 .and (.c2 .eq (.num 0) (.var 47)) (.c2 .and (.c2 .eq (.num 0) (.var 48)) (.c2 .and (.c2 .eq (.num 0) (.var 49)) (.c2 .and (.c2 .eq (.num 0) (.var 50)) (.c2 .and (.c2 .eq (.num 0) (.var 51)) (.c2 .and (.c2 .eq (.num 0) (.var 52)) (.c2 .and (.c2 .eq (.num 0) (.var 53)) (.c2 .and (.c2 .eq (.num 0) (.var 54)) (.c2 .and (.c2 .eq (.num 0) (.var 55)) (.c2 .and (.c2 .eq (.num 0) (.var 56)) (.c2 .and (.c2 .eq (.num 0) (.var 57)) (.c2 .and (.c2 .eq (.num 0) (.var 58)) (.c2 .and (.c2 .eq (.num 0) (.var 59)) (.c2 .and (.c2 .eq (.num 0) (.var 60)) (.c2 .and (.c2 .eq (.num 0) (.var 61)) (.c2 .and (.c2 .eq (.num 0) (.var 62)) (.c2 .and (.c2 .eq (.num 0) (.var 63)) (.c2 .and (.c2 .eq (.num 0) (.var 64)) (.c2 .and (.c2 .eq (.num 0) (.var 65)) (.c2 .and (.c2 .eq (.num 0) (.var 66)) (.c2 .and (.c2 .eq (.num 0) (.var 67)) (.c2 .and (.c2 .eq (.num 0) (.var 68)) (.c2 .and (.c2 .eq (.num 0) (.var 69)) (.c2 .and (.c2 .eq (.num 0) (.var 70)) (.c2 .and (.c2 .eq (.num 0) (.var 71)) (.c2 .and (.c2 .eq (.num 0) (.var 72)) (.c2 .and (.c2 .eq (.num 0) (.var 73)) (.c2 .and (.c2 .eq (.num 0) (.var 74)) (.c2 .and (.c2 .eq (.num 0) (.var 75)) (.c2 .eq (.num 0) (.var 76))))))))))))))))))))))))))))))))))))))))))))))))))))))))))))))
      (.ret (.w (.c (.i .i64 (.num 120))), ⟨[], [], 20, 77, []⟩))
      (.chk (.c2 .eq (.c2 .sub (.var 2) (.var 1)) (.c1 .len (.c2 .take (.c2 .sub (.var 2) (.var 1)) (.c2 .drop (.var 1) (.var 0)))))
      (.chk (.c2 .le (.num 0) (.var 21))
      (.chk (.c2 .le (.var 21) (.num 255))
      (.chk (.c2 .le (.num 0) (.var 22))
      (.chk (.c2 .le (.var 22) (.num 255))
      (.chk (.c2 .le (.num 0) (.var 23))
      (.chk (.c2 .le (.var 23) (.num 255))
      (.chk (.c2 .le (.num 0) (.var 24))
      (.chk (.c2 .le (.var 24) (.num 65535))
      (.chk (.c2 .le (.num 0) (.var 25))
      (.chk (.c2 .le (.var 25) (.num 255))
      (.chk (.c2 .le (.num 0) (.var 26))
      (.chk (.c2 .le (.var 26) (.num 255))
      (.chk (.c2 .le (.num 0) (.var 27))
      (.chk (.c2 .le (.var 27) (.num 255))
      (.chk (.c2 .le (.num 0) (.var 28))
      (.chk (.c2 .le (.var 28) (.num 255))
      (.chk (.c2 .le (.num 0) (.var 29))
      (.chk (.c2 .le (.var 29) (.num 255))
      (.chk (.c2 .le (.num 0) (.var 30))
      (.chk (.c2 .le (.var 30) (.num 255))
      (.chk (.c2 .le (.num 0) (.var 31))
      (.chk (.c2 .le (.var 31) (.num 255))
      (.chk (.c2 .le (.num 0) (.var 32))
      (.chk (.c2 .le (.var 32) (.num 255))
      (.chk (.c1 (.kin [.u8]) (.c2 .take (.c2 .sub (.var 2) (.var 1)) (.c2 .drop (.var 1) (.var 0))))
      (.split (.c2 .eq (.fn 43 (.cons (.var 21) (.cons (.var 22) (.cons (.var 23) (.cons (.var 24) (.cons (.var 25) (.cons (.var 26) (.cons (.var 27) (.cons (.var 28) (.cons (.var 29) (.cons (.var 30) (.cons (.var 31) (.cons (.var 32) .nil)))))))))))) (.c2 .take (.c2 .sub (.var 2) (.var 1)) (.c2 .drop (.var 1) (.var 0))) .nil) (.num 0))
       (.chk (.c1 (.kin [.u8]) (.fn 33 (.cons (.var 21) (.cons (.var 22) (.cons (.var 23) (.cons (.var 24) (.cons (.var 25) (.cons (.var 26) (.cons (.var 27) (.cons (.var 28) (.cons (.var 29) (.cons (.var 30) (.cons (.var 31) (.cons (.var 32) .nil)))))))))))) (.c2 .take (.c2 .sub (.var 2) (.var 1)) (.c2 .drop (.var 1) (.var 0))) .nil))
       (.chk (.c2 .eq (.c1 .len (.fn 33 (.cons (.var 21) (.cons (.var 22) (.cons (.var 23) (.cons (.var 24) (.cons (.var 25) (.cons (.var 26) (.cons (.var 27) (.cons (.var 28) (.cons (.var 29) (.cons (.var 30) (.cons (.var 31) (.cons (.var 32) .nil)))))))))))) (.c2 .take (.c2 .sub (.var 2) (.var 1)) (.c2 .drop (.var 1) (.var 0))) .nil)) (.num 20))
       (.split (.c2 .lt (.c2 .sub (.num 2048) (.c2 .sub (.var 2) (.var 1))) (.num 20))
        (.ret (.w (.c (.i .i64 (.num 5))), ⟨[], [], 83, 77, []⟩))
        (.split (.c2 .lt (.var 1) (.num 20))
         (.ret (.w (.c (.i .i64 (.num 0))), ⟨[], [(83, some ⟨true, .row [.u8] (.spl (.spl (.c2 .rep (.c2 .add (.c2 .add (.num 84) (.c2 .sub (.var 2) (.var 1))) (.num 64)) (.cons (.num 0) .nil)) (.num 84) (.c2 .take (.c2 .sub (.var 2) (.var 1)) (.c2 .drop (.var 1) (.var 0)))) (.num 64) (.c2 .take (.num 20) (.fn 33 (.cons (.var 21) (.cons (.var 22) (.cons (.var 23) (.cons (.var 24) (.cons (.var 25) (.cons (.var 26) (.cons (.var 27) (.cons (.var 28) (.cons (.var 29) (.cons (.var 30) (.cons (.var 31) (.cons (.var 32) .nil)))))))))))) (.c2 .take (.c2 .sub (.var 2) (.var 1)) (.c2 .drop (.var 1) (.var 0))) .nil)))⟩), (0, some ⟨true, .cells [.b (.bol true), .s 83 1 0 (.num 0) (.c2 .add (.c2 .add (.num 84) (.c2 .sub (.var 2) (.var 1))) (.num 64)), .i .i64 (.num 64), .i .i64 (.c2 .sub (.c2 .add (.c2 .add (.num 84) (.c2 .sub (.var 2) (.var 1))) (.num 64)) (.num 64)), .i .i64 (.c2 .add (.var 3) (.num 1))]⟩)], 84, 77, []⟩))
         (.chk (.c2 .le (.c2 .sub (.var 1) (.num 20)) (.wr .i64 (.c2 .add (.c2 .sub (.var 1) (.num 20)) (.c2 .mx (.num 20) (.num 0)))))
         (.chk (.c2 .le (.wr .i64 (.c2 .add (.c2 .sub (.var 1) (.num 20)) (.c2 .mx (.num 20) (.num 0)))) (.c1 .len (.var 0)))
         (.chk (.c2 .le (.c2 .add (.c2 .sub (.var 1) (.num 20)) (.num 20)) (.c1 .len (.var 0)))
         (.ret (.w (.c (.i .i64 (.num 0))), ⟨[], [(1, some ⟨true, .row [.u8] (.spl (.spl (.var 0) (.c2 .sub (.var 1) (.num 20)) (.c2 .rep (.c2 .sub (.wr .i64 (.c2 .add (.c2 .sub (.var 1) (.num 20)) (.c2 .mx (.num 20) (.num 0)))) (.c2 .sub (.var 1) (.num 20))) (.cons (.num 0) .nil))) (.c2 .sub (.var 1) (.num 20)) (.c2 .take (.num 20) (.fn 33 (.cons (.var 21) (.cons (.var 22) (.cons (.var 23) (.cons (.var 24) (.cons (.var 25) (.cons (.var 26) (.cons (.var 27) (.cons (.var 28) (.cons (.var 29) (.cons (.var 30) (.cons (.var 31) (.cons (.var 32) .nil)))))))))))) (.c2 .take (.c2 .sub (.var 2) (.var 1)) (.c2 .drop (.var 1) (.var 0))) .nil)))⟩), (0, some ⟨true, .cells [.b (.bol true), .s 1 1 0 (.num 0) (.c1 .len (.var 0)), .i .i64 (.c2 .sub (.var 1) (.num 20)), .i .i64 (.var 2), .i .i64 (.c2 .add (.var 3) (.num 1))]⟩)], 83, 77, []⟩)))))))))
       (.ret (.w (.c (.i .i64 (.fn 43 (.cons (.var 21) (.cons (.var 22) (.cons (.var 23) (.cons (.var 24) (.cons (.var 25) (.cons (.var 26) (.cons (.var 27) (.cons (.var 28) (.cons (.var 29) (.cons (.var 30) (.cons (.var 31) (.cons (.var 32) .nil)))))))))))) (.c2 .take (.c2 .sub (.var 2) (.var 1)) (.c2 .drop (.var 1) (.var 0))) .nil))), ⟨[], [], 83, 77, []⟩))))))))))))))))))))))))))))))
     (.split (.c2 .eq (.var 4) (.num 4))
      (.split (.c1 .not (.c2 .and (.c2 .eq (.num 0) (.var 5)) (.c2 .and (.c2 .eq (.num 0) (.var 6)) (.c2 .and (.c2 .eq (.num 0) (.var 7)) (.c2 .and (.c2 .eq (.num 0) (.var 8)) (.c2 .and (.c2 .eq (.num 0) (.var 9)) (.c2 .and (.c2 .eq (.num 0) (.var 10)) (.c2 .and (.c2 .eq (.num 0) (.var 11)) (.c2 .and (.c2 .eq (.num 0) (.var 12)) (.c2 .and (.c2 .eq (.num 0) (.var 13)) (.c2 .and (.c2 .eq (.num 0) (.var 14)) (.c2 .and (.c2 .eq (.num 0) (.var 15)) (.c2 .and (.c2 .eq (.num 0) (.var 16)) (.c2 .and (.c2 .eq (.num 0) (.var 17)) (.c2 .and (.c2 .eq (.num 0) (.var 18)) (.c2 .and (.c2 .eq (.num 0) (.var 19)) (.c2 .and (.c2 .eq (.num 0) (.var 20)) (.c2 .and (.c2 .eq (.num 0) (.var 21)) (.c2 .and (.c2 .eq (.num 0) (.var 22)) (.c2 .and (.c2 .eq (.num 0) (.var 23)) (.c2 .and (.c2 .eq (.num 0) (.var 24)) (.c2 .and (.c2 .eq (.num 0) (.var 25)) (.c2 .and (.c2 .eq (.num 0) (.var 26)) (.c2 .and (.c2 .eq (.num 0) (.var 27)) (.c2 .and (.c2 .eq (.num 0) (.var 28)) (.c2 .and (.c2 .eq (.num 0) (.var 29)) (.c2 .and (.c2 .eq (.num 0) (.var 30)) (.c2 .and (.c2 .eq (.num 0) (.var 31)) (.c2 .and (.c2 .eq (.num 0) (.var 32)) (.c2 .and (.c2 .eq (.num 0) (.var 69)) (.c2 .and (.c2 .eq (.num 0) (.var 70)) (.c2 .and (.c2 .eq (.num 0) (.var 71)) (.c2 .and (.c2 .eq (.num 0) (.var 72)) (.c2 .and (.c2 .eq (.num 0) (.var 73)) (.c2 .and (.c2 .eq (.num 0) (.var 74)) (.c2 .and (.c2 .eq (.num 0) (.var 75)) (.c2 .eq (.num 0) (.var 76))))))))))))))))))))))))))))))))))))))
       (.ret (.w (.c (.i .i64 (.num 120))), ⟨[], [], 20, 77, []⟩))
       (.split (.c2 .le (.num 1048576) (.var 34))
        (.ret (.w (.c (.i .i64 (.num 80))), ⟨[], [], 22, 77, []⟩))
        (.chk (.c2 .eq (.c2 .sub (.var 2) (.var 1)) (.c1 .len (.c2 .take (.c2 .sub (.var 2) (.var 1)) (.c2 .drop (.var 1) (.var 0)))))
        (.chk (.c2 .le (.num 0) (.var 33))
        (.chk (.c2 .le (.var 33) (.num 255))
        (.chk (.c2 .le (.num 0) (.var 34))
        (.chk (.c2 .le (.num 0) (.var 35))
        (.chk (.c2 .le (.var 35) (.num 255))
        (.chk (.c2 .le (.num 0) (.var 36))
        (.chk (.c2 .le (.var 36) (.num 255))
        (.chk (.c2 .le (.num 0) (.var 37))
        (.chk (.c2 .le (.var 37) (.num 255))
        (.chk (.c2 .le (.num 0) (.var 38))
        (.chk (.c2 .le (.var 38) (.num 255))
        (.chk (.c2 .le (.num 0) (.var 39))
        (.chk (.c2 .le (.var 39) (.num 255))
        (.chk (.c2 .le (.num 0) (.var 40))
        (.chk (.c2 .le (.var 40) (.num 255))
        (.chk (.c2 .le (.num 0) (.var 41))
        (.chk (.c2 .le (.var 41) (.num 255))
        (.chk (.c2 .le (.num 0) (.var 42))
        (.chk (.c2 .le (.var 42) (.num 255))
        (.chk (.c2 .le (.num 0) (.var 43))
        (.chk (.c2 .le (.var 43) (.num 255))
        (.chk (.c2 .le (.num 0) (.var 44))
        (.chk (.c2 .le (.var 44) (.num 255))
        (.chk (.c2 .le (.num 0) (.var 45))
        (.chk (.c2 .le (.var 45) (.num 255))
        (.chk (.c2 .le (.num 0) (.var 46))
        (.chk (.c2 .le (.var 46) (.num 255))
        (.chk (.c2 .le (.num 0) (.var 47))
        (.chk (.c2 .le (.var 47) (.num 255))
        (.chk (.c2 .le (.num 0) (.var 48))
        (.chk (.c2 .le (.var 48) (.num 255))
        (.chk (.c2 .le (.num 0) (.var 49))
        (.chk (.c2 .le (.var 49) (.num 255))
        (.chk (.c2 .le (.num 0) (.var 50))
        (.chk (.c2 .le (.var 50) (.num 255))
        (.chk (.c2 .le (.num 0) (.var 51))
        (.chk (.c2 .le (.var 51) (.num 255))
        (.chk (.c2 .le (.num 0) (.var 52))
        (.chk (.c2 .le (.var 52) (.num 255))
        (.chk (.c2 .le (.num 0) (.var 53))
        (.chk (.c2 .le (.var 53) (.num 255))
        (.chk (.c2 .le (.num 0) (.var 54))
        (.chk (.c2 .le (.var 54) (.num 255))
        (.chk (.c2 .le (.num 0) (.var 55))
        (.chk (.c2 .le (.var 55) (.num 255))
        (.chk (.c2 .le (.num 0) (.var 56))
        (.chk (.c2 .le (.var 56) (.num 255))
        (.chk (.c2 .le (.num 0) (.var 57))
        (.chk (.c2 .le (.var 57) (.num 255))
        (.chk (.c2 .le (.num 0) (.var 58))
        (.chk (.c2 .le (.var 58) (.num 255))
        (.chk (.c2 .le (.num 0) (.var 59))
        (.chk (.c2 .le (.var 59) (.num 255))
        (.chk (.c2 .le (.num 0) (.var 60))
        (.chk (.c2 .le (.var 60) (.num 255))
        (.chk (.c2 .le (.num 0) (.var 61))
        (.chk (.c2 .le (.var 61) (.num 255))
        (.chk (.c2 .le (.num 0) (.var 62))
        (.chk (.c2 .le (.var 62) (.num 255))
        (.chk (.c2 .le (.num 0) (.var 63))
        (.chk (.c2 .le (.var 63) (.num 255))
        (.chk (.c2 .le (.num 0) (.var 64))
        (.chk (.c2 .le (.var 64) (.num 255))
        (.chk (.c2 .le (.num 0) (.var 65))
        (.chk (.c2 .le (.var 65) (.num 255))
        (.chk (.c2 .le (.num 0) (.var 66))
        (.chk (.c2 .le (.var 66) (.num 255))
        (.chk (.c2 .le (.num 0) (.var 67))
        (.chk (.c2 .le (.var 67) (.num 255))
        (.chk (.c2 .le (.num 0) (.var 68))
        (.chk (.c2 .le (.var 68) (.num 255))
        (.chk (.c1 (.kin [.u8]) (.c2 .take (.c2 .sub (.var 2) (.var 1)) (.c2 .drop (.var 1) (.var 0))))
        (.split (.c2 .eq (.fn 44 (.cons (.var 33) (.cons (.var 34) (.cons (.var 35) (.cons (.var 36) (.cons (.var 37) (.cons (.var 38) (.cons (.var 39) (.cons (.var 40) (.cons (.var 41) (.cons (.var 42) (.cons (.var 43) (.cons (.var 44) (.cons (.var 45) (.cons (.var 46) (.cons (.var 47) (.cons (.var 48) (.cons (.var 49) (.cons (.var 50) (.cons (.var 51) (.cons (.var 52) (.cons (.var 53) (.cons (.var 54) (.cons (.var 55) (.cons (.var 56) (.cons (.var 57) (.cons (.var 58) (.cons (.var 59) (.cons (.var 60) (.cons (.var 61) (.cons (.var 62) (.cons (.var 63) (.cons (.var 64) (.cons (.var 65) (.cons (.var 66) (.cons (.var 67) (.cons (.var 68) .nil)))))))))))))))))))))))))))))))))))) (.c2 .take (.c2 .sub (.var 2) (.var 1)) (.c2 .drop (.var 1) (.var 0))) .nil) (.num 0))
         (.chk (.c1 (.kin [.u8]) (.fn 34 (.cons (.var 33) (.cons (.var 34) (.cons (.var 35) (.cons (.var 36) (.cons (.var 37) (.cons (.var 38) (.cons (.var 39) (.cons (.var 40) (.cons (.var 41) (.cons (.var 42) (.cons (.var 43) (.cons (.var 44) (.cons (.var 45) (.cons (.var 46) (.cons (.var 47) (.cons (.var 48) (.cons (.var 49) (.cons (.var 50) (.cons (.var 51) (.cons (.var 52) (.cons (.var 53) (.cons (.var 54) (.cons (.var 55) (.cons (.var 56) (.cons (.var 57) (.cons (.var 58) (.cons (.var 59) (.cons (.var 60) (.cons (.var 61) (.cons (.var 62) (.cons (.var 63) (.cons (.var 64) (.cons (.var 65) (.cons (.var 66) (.cons (.var 67) (.cons (.var 68) .nil)))))))))))))))))))))))))))))))))))) (.c2 .take (.c2 .sub (.var 2) (.var 1)) (.c2 .drop (.var 1) (.var 0))) .nil))
         (.chk (.c2 .eq (.c1 .len (.fn 34 (.cons (.var 33) (.cons (.var 34) (.cons (.var 35) (.cons (.var 36) (.cons (.var 37) (.cons (.var 38) (.cons (.var 39) (.cons (.var 40) (.cons (.var 41) (.cons (.var 42) (.cons (.var 43) (.cons (.var 44) (.cons (.var 45) (.cons (.var 46) (.cons (.var 47) (.cons (.var 48) (.cons (.var 49) (.cons (.var 50) (.cons (.var 51) (.cons (.var 52) (.cons (.var 53) (.cons (.var 54) (.cons (.var 55) (.cons (.var 56) (.cons (.var 57) (.cons (.var 58) (.cons (.var 59) (.cons (.var 60) (.cons (.var 61) (.cons (.var 62) (.cons (.var 63) (.cons (.var 64) (.cons (.var 65) (.cons (.var 66) (.cons (.var 67) (.cons (.var 68) .nil)))))))))))))))))))))))))))))))))))) (.c2 .take (.c2 .sub (.var 2) (.var 1)) (.c2 .drop (.var 1) (.var 0))) .nil)) (.num 40))
         (.split (.c2 .lt (.c2 .sub (.num 2048) (.c2 .sub (.var 2) (.var 1))) (.num 40))
          (.ret (.w (.c (.i .i64 (.num 5))), ⟨[], [], 83, 77, []⟩))
          (.split (.c2 .lt (.var 1) (.num 40))
           (.ret (.w (.c (.i .i64 (.num 0))), ⟨[], [(83, some ⟨true, .row [.u8] (.spl (.spl (.c2 .rep (.c2 .add (.c2 .add (.num 104) (.c2 .sub (.var 2) (.var 1))) (.num 64)) (.cons (.num 0) .nil)) (.num 104) (.c2 .take (.c2 .sub (.var 2) (.var 1)) (.c2 .drop (.var 1) (.var 0)))) (.num 64) (.c2 .take (.num 40) (.fn 34 (.cons (.var 33) (.cons (.var 34) (.cons (.var 35) (.cons (.var 36) (.cons (.var 37) (.cons (.var 38) (.cons (.var 39) (.cons (.var 40) (.cons (.var 41) (.cons (.var 42) (.cons (.var 43) (.cons (.var 44) (.cons (.var 45) (.cons (.var 46) (.cons (.var 47) (.cons (.var 48) (.cons (.var 49) (.cons (.var 50) (.cons (.var 51) (.cons (.var 52) (.cons (.var 53) (.cons (.var 54) (.cons (.var 55) (.cons (.var 56) (.cons (.var 57) (.cons (.var 58) (.cons (.var 59) (.cons (.var 60) (.cons (.var 61) (.cons (.var 62) (.cons (.var 63) (.cons (.var 64) (.cons (.var 65) (.cons (.var 66) (.cons (.var 67) (.cons (.var 68) .nil)))))))))))))))))))))))))))))))))))) (.c2 .take (.c2 .sub (.var 2) (.var 1)) (.c2 .drop (.var 1) (.var 0))) .nil)))⟩), (0, some ⟨true, .cells [.b (.bol true), .s 83 1 0 (.num 0) (.c2 .add (.c2 .add (.num 104) (.c2 .sub (.var 2) (.var 1))) (.num 64)), .i .i64 (.num 64), .i .i64 (.c2 .sub (.c2 .add (.c2 .add (.num 104) (.c2 .sub (.var 2) (.var 1))) (.num 64)) (.num 64)), .i .i64 (.c2 .add (.var 3) (.num 1))]⟩)], 84, 77, []⟩))
           (.chk (.c2 .le (.c2 .sub (.var 1) (.num 40)) (.wr .i64 (.c2 .add (.c2 .sub (.var 1) (.num 40)) (.c2 .mx (.num 40) (.num 0)))))
           (.chk (.c2 .le (.wr .i64 (.c2 .add (.c2 .sub (.var 1) (.num 40)) (.c2 .mx (.num 40) (.num 0)))) (.c1 .len (.var 0)))
           (.chk (.c2 .le (.c2 .add (.c2 .sub (.var 1) (.num 40)) (.num 40)) (.c1 .len (.var 0)))
           (.ret (.w (.c (.i .i64 (.num 0))), ⟨[], [(1, some ⟨true, .row [.u8] (.spl (.spl (.var 0) (.c2 .sub (.var 1) (.num 40)) (.c2 .rep (.c2 .sub (.wr .i64 (.c2 .add (.c2 .sub (.var 1) (.num 40)) (.c2 .mx (.num 40) (.num 0)))) (.c2 .sub (.var 1) (.num 40))) (.cons (.num 0) .nil))) (.c2 .sub (.var 1) (.num 40)) (.c2 .take (.num 40) (.fn 34 (.cons (.var 33) (.cons (.var 34) (.cons (.var 35) (.cons (.var 36) (.cons (.var 37) (.cons (.var 38) (.cons (.var 39) (.cons (.var 40) (.cons (.var 41) (.cons (.var 42) (.cons (.var 43) (.cons (.var 44) (.cons (.var 45) (.cons (.var 46) (.cons (.var 47) (.cons (.var 48) (.cons (.var 49) (.cons (.var 50) (.cons (.var 51) (.cons (.var 52) (.cons (.var 53) (.cons (.var 54) (.cons (.var 55) (.cons (.var 56) (.cons (.var 57) (.cons (.var 58) (.cons (.var 59) (.cons (.var 60) (.cons (.var 61) (.cons (.var 62) (.cons (.var 63) (.cons (.var 64) (.cons (.var 65) (.cons (.var 66) (.cons (.var 67) (.cons (.var 68) .nil)))))))))))))))))))))))))))))))))))) (.c2 .take (.c2 .sub (.var 2) (.var 1)) (.c2 .drop (.var 1) (.var 0))) .nil)))⟩), (0, some ⟨true, .cells [.b (.bol true), .s 1 1 0 (.num 0) (.c1 .len (.var 0)), .i .i64 (.c2 .sub (.var 1) (.num 40)), .i .i64 (.var 2), .i .i64 (.c2 .add (.var 3) (.num 1))]⟩)], 83, 77, []⟩)))))))))
         (.ret (.w (.c (.i .i64 (.fn 44 (.cons (.var 33) (.cons (.var 34) (.cons (.var 35) (.cons (.var 36) (.cons (.var 37) (.cons (.var 38) (.cons (.var 39) (.cons (.var 40) (.cons (.var 41) (.cons (.var 42) (.cons (.var 43) (.cons (.var 44) (.cons (.var 45) (.cons (.var 46) (.cons (.var 47) (.cons (.var 48) (.cons (.var 49) (.cons (.var 50) (.cons (.var 51) (.cons (.var 52) (.cons (.var 53) (.cons (.var 54) (.cons (.var 55) (.cons (.var 56) (.cons (.var 57) (.cons (.var 58) (.cons (.var 59) (.cons (.var 60) (.cons (.var 61) (.cons (.var 62) (.cons (.var 63) (.cons (.var 64) (.cons (.var 65) (.cons (.var 66) (.cons (.var 67) (.cons (.var 68) .nil)))))))))))))))))))))))))))))))))))) (.c2 .take (.c2 .sub (.var 2) (.var 1)) (.c2 .drop (.var 1) (.var 0))) .nil))), ⟨[], [], 83, 77, []⟩))))))))))))))))))))))))))))))))))))))))))))))))))))))))))))))))))))))))))))))
      (.split (.c2 .eq (.var 4) (.num 5))
       (.split (.c1 .not (.c2 .and (.c2 .eq (.num 0) (.var 5)) (.c2 .and (.c2 .eq (.num 0) (.var 6)) (.c2 .and (.c2 .eq (.num 0) (.var 7)) (.c2 .and (.c2 .eq (.num 0) (.var 8)) (.c2 .and (.c2 .eq (.num 0) (.var 9)) (.c2 .and (.c2 .eq (.num 0) (.var 10)) (.c2 .and (.c2 .eq (.num 0) (.var 11)) (.c2 .and (.c2 .eq (.num 0) (.var 12)) (.c2 .and (.c2 .eq (.num 0) (.var 13)) (.c2 .and (.c2 .eq (.num 0) (.var 14)) (.c2 .and (.c2 .eq (.num 0) (.var 15)) (.c2 .and (.c2 .eq (.num 0) (.var 16)) (.c2 .and (.c2 .eq (.num 0) (.var 17)) (.c2 .and (.c2 .eq (.num 0) (.var 18)) (.c2 .and (.c2 .eq (.num 0) (.var 19)) (.c2 .and (.c2 .eq (.num 0) (.var 20)) (.c2 .and (.c2 .eq (.num 0) (.var 21)) (.c2 .and (.c2 .eq (.num 0) (.var 22)) (.c2 .and (.c2 .eq (.num 0) (.var 23)) (.c2 .and (.c2 .eq (.num 0) (.var 24)) (.c2 .and (.c2 .eq (.num 0) (.var 25)) (.c2 .and (.c2 .eq (.num 0) (.var 26)) (.c2 .and (.c2 .eq (.num 0) (.var 27)) (.c2 .and (.c2 .eq (.num 0) (.var 28)) (.c2 .and (.c2 .eq (.num 0) (.var 29)) (.c2 .and (.c2 .eq (.num 0) (.var 30)) (.c2 .and (.c2 .eq (.num 0) (.var 31)) (.c2 .and (.c2 .eq (.num 0) (.var 32)) (.c2 .and (.c2 .eq (.num 0) (.var 33)) (.c2 .and (.c2 .eq (.num 0) (.var 34)) (.c2 .and (.c2 .eq (.num 0) (.var 35)) (.c2 .and (.c2 .eq (.num 0) (.var 36)) (.c2 .and (.c2 .eq (.num 0) (.var 37)) (.c2 .and (.c2 .eq (.num 0) (.var 38)) (.c2 .and (.c2 .eq (.num 0) (.var 39)) (.c2 .and (.c2 .eq (.num 0) (.var 40)) (.c2 .and (.c2 .eq (.num 0) (.var 41)) (.c2 .and (.c2 .eq (.num 0) (.var 42)) (.c2 .and (.c2 .eq (.num 0) (.var 43)) (.c2 .and (.c2 .eq (.num 0) (.var 44)) (.c2 .and (.c2 .eq (.num 0) (.var 45)) (.c2 .and (.c2 .eq (.num 0) (.var 46)) (.c2 .and (.c2 .eq (.num 0) (.var 47)) (.c2 .and (.c2 .eq (.num 0) (.var 48)) (.c2 .and (.c2 .eq (.num 0) (.var 49)) (.c2 .and (.c2 .eq (.num 0) (.var 50)) (.c2 .and (.c2 .eq (.num 0) (.var 51)) (.c2 .and (.c2 .eq (.num 0) (.var 52)) (.c2 .and (.c2 .eq (.num 0) (.var 53)) (.c2 .and (.c2 .eq (.num 0) (.var 54)) (.c2 .and (.c2 .eq (.num 0) (.var 55)) (.c2 .and (.c2 .eq (.num 0) (.var 56)) (.c2 .and (.c2 .eq (.num 0) (.var 57)) (.c2 .and (.c2 .eq (.num 0) (.var 58)) (.c2 .and (.c2 .eq (.num 0) (.var 59)) (.c2 .and (.c2 .eq (.num 0) (.var 60)) (.c2 .and (.c2 .eq (.num 0) (.var 61)) (.c2 .and (.c2 .eq (.num 0) (.var 62)) (.c2 .and (.c2 .eq (.num 0) (.var 63)) (.c2 .and (.c2 .eq (.num 0) (.var 64)) (.c2 .and (.c2 .eq (.num 0) (.var 65)) (.c2 .and (.c2 .eq (.num 0) (.var 66)) (.c2 .and (.c2 .eq (.num 0) (.var 67)) (.c2 .and (.c2 .eq (.num 0) (.var 68)) (.c2 .and (.c2 .eq (.num 0) (.var 75)) (.c2 .eq (.num 0) (.var 76))))))))))))))))))))))))))))))))))))))))))))))))))))))))))))))))))))
        (.ret (.w (.c (.i .i64 (.num 120))), ⟨[], [], 20, 77, []⟩))
        (.split (.c2 .le (.num 64) (.var 73))
         (.ret (.w (.c (.i .i64 (.num 90))), ⟨[], [], 22, 77, []⟩))
         (.chk (.c2 .eq (.c2 .sub (.var 2) (.var 1)) (.c1 .len (.c2 .take (.c2 .sub (.var 2) (.var 1)) (.c2 .drop (.var 1) (.var 0)))))
         (.chk (.c2 .le (.num 0) (.var 69))
         (.chk (.c2 .le (.var 69) (.num 65535))
         (.chk (.c2 .le (.num 0) (.var 70))
         (.chk (.c2 .le (.var 70) (.num 65535))
         (.chk (.c2 .le (.num 0) (.var 71))
         (.chk (.c2 .le (.var 71) (.num 4294967295))
         (.chk (.c2 .le (.num 0) (.var 72))
         (.chk (.c2 .le (.var 72) (.num 4294967295))
         (.chk (.c2 .le (.num 0) (.var 73))
         (.chk (.c2 .le (.num 0) (.var 74))
         (.chk (.c2 .le (.var 74) (.num 65535))
         (.chk (.c1 (.kin [.u8]) (.c2 .take (.c2 .sub (.var 2) (.var 1)) (.c2 .drop (.var 1) (.var 0))))
         (.split (.c2 .eq (.fn 45 (.cons (.var 69) (.cons (.var 70) (.cons (.var 71) (.cons (.var 72) (.cons (.var 73) (.cons (.var 74) .nil)))))) (.c2 .take (.c2 .sub (.var 2) (.var 1)) (.c2 .drop (.var 1) (.var 0))) .nil) (.num 0))
          (.chk (.c1 (.kin [.u8]) (.fn 35 (.cons (.var 69) (.cons (.var 70) (.cons (.var 71) (.cons (.var 72) (.cons (.var 73) (.cons (.var 74) .nil)))))) (.c2 .take (.c2 .sub (.var 2) (.var 1)) (.c2 .drop (.var 1) (.var 0))) .nil))
          (.chk (.c2 .eq (.c1 .len (.fn 35 (.cons (.var 69) (.cons (.var 70) (.cons (.var 71) (.cons (.var 72) (.cons (.var 73) (.cons (.var 74) .nil)))))) (.c2 .take (.c2 .sub (.var 2) (.var 1)) (.c2 .drop (.var 1) (.var 0))) .nil)) (.num 20))
          (.split (.c2 .lt (.c2 .sub (.num 2048) (.c2 .sub (.var 2) (.var 1))) (.num 20))
           (.ret (.w (.c (.i .i64 (.num 5))), ⟨[], [], 83, 77, []⟩))
           (.split (.c2 .lt (.var 1) (.num 20))
            (.ret (.w (.c (.i .i64 (.num 0))), ⟨[], [(83, some ⟨true, .row [.u8] (.spl (.spl (.c2 .rep (.c2 .add (.c2 .add (.num 84) (.c2 .sub (.var 2) (.var 1))) (.num 64)) (.cons (.num 0) .nil)) (.num 84) (.c2 .take (.c2 .sub (.var 2) (.var 1)) (.c2 .drop (.var 1) (.var 0)))) (.num 64) (.c2 .take (.num 20) (.fn 35 (.cons (.var 69) (.cons (.var 70) (.cons (.var 71) (.cons (.var 72) (.cons (.var 73) (.cons (.var 74) .nil)))))) (.c2 .take (.c2 .sub (.var 2) (.var 1)) (.c2 .drop (.var 1) (.var 0))) .nil)))⟩), (0, some ⟨true, .cells [.b (.bol true), .s 83 1 0 (.num 0) (.c2 .add (.c2 .add (.num 84) (.c2 .sub (.var 2) (.var 1))) (.num 64)), .i .i64 (.num 64), .i .i64 (.c2 .sub (.c2 .add (.c2 .add (.num 84) (.c2 .sub (.var 2) (.var 1))) (.num 64)) (.num 64)), .i .i64 (.c2 .add (.var 3) (.num 1))]⟩)], 84, 77, []⟩))
            (.chk (.c2 .le (.c2 .sub (.var 1) (.num 20)) (.wr .i64 (.c2 .add (.c2 .sub (.var 1) (.num 20)) (.c2 .mx (.num 20) (.num 0)))))
            (.chk (.c2 .le (.wr .i64 (.c2 .add (.c2 .sub (.var 1) (.num 20)) (.c2 .mx (.num 20) (.num 0)))) (.c1 .len (.var 0)))
            (.chk (.c2 .le (.c2 .add (.c2 .sub (.var 1) (.num 20)) (.num 20)) (.c1 .len (.var 0)))
            (.ret (.w (.c (.i .i64 (.num 0))), ⟨[], [(1, some ⟨true, .row [.u8] (.spl (.spl (.var 0) (.c2 .sub (.var 1) (.num 20)) (.c2 .rep (.c2 .sub (.wr .i64 (.c2 .add (.c2 .sub (.var 1) (.num 20)) (.c2 .mx (.num 20) (.num 0)))) (.c2 .sub (.var 1) (.num 20))) (.cons (.num 0) .nil))) (.c2 .sub (.var 1) (.num 20)) (.c2 .take (.num 20) (.fn 35 (.cons (.var 69) (.cons (.var 70) (.cons (.var 71) (.cons (.var 72) (.cons (.var 73) (.cons (.var 74) .nil)))))) (.c2 .take (.c2 .sub (.var 2) (.var 1)) (.c2 .drop (.var 1) (.var 0))) .nil)))⟩), (0, some ⟨true, .cells [.b (.bol true), .s 1 1 0 (.num 0) (.c1 .len (.var 0)), .i .i64 (.c2 .sub (.var 1) (.num 20)), .i .i64 (.var 2), .i .i64 (.c2 .add (.var 3) (.num 1))]⟩)], 83, 77, []⟩)))))))))
          (.ret (.w (.c (.i .i64 (.fn 45 (.cons (.var 69) (.cons (.var 70) (.cons (.var 71) (.cons (.var 72) (.cons (.var 73) (.cons (.var 74) .nil)))))) (.c2 .take (.c2 .sub (.var 2) (.var 1)) (.c2 .drop (.var 1) (.var 0))) .nil))), ⟨[], [], 83, 77, []⟩))))))))))))))))))
       (.split (.c2 .eq (.var 4) (.num 6))
        (.split (.c1 .not (.c2 .and (.c2 .eq (.num 0) (.var 5)) (.c2 .and (.c2 .eq (.num 0) (.var 6)) (.c2 .and (.c2 .eq (.num 0) (.var 7)) (.c2 .and (.c2 .eq (.num 0) (.var 8)) (.c2 .and (.c2 .eq (.num 0) (.var 9)) (.c2 .and (.c2 .eq (.num 0) (.var 10)) (.c2 .and (.c2 .eq (.num 0) (.var 11)) (.c2 .and (.c2 .eq (.num 0) (.var 12)) (.c2 .and (.c2 .eq (.num 0) (.var 13)) (.c2 .and (.c2 .eq (.num 0) (.var 14)) (.c2 .and (.c2 .eq (.num 0) (.var 15)) (.c2 .and (.c2 .eq (.num 0) (.var 16)) (.c2 .and (.c2 .eq (.num 0) (.var 17)) (.c2 .and (.c2 .eq (.num 0) (.var 18)) (.c2 .and (.c2 .eq (.num 0) (.var 19)) (.c2 .and (.c2 .eq (.num 0) (.var 20)) (.c2 .and (.c2 .eq (.num 0) (.var 21)) (.c2 .and (.c2 .eq (.num 0) (.var 22)) (.c2 .and (.c2 .eq (.num 0) (.var 23)) (.c2 .and (.c2 .eq (.num 0) (.var 24)) (.c2 .and (.c2 .eq (.num 0) (.var 25)) (.c2 .and (.c2 .eq (.num 0) (.var 26)) (.c2 .and (.c2 .eq (.num 0) (.var 27)) (.c2 .and (.c2 .eq (.num 0) (.var 28)) (.c2 .and (.c2 .eq (.num 0) (.var 29)) (.c2 .and (.c2 .eq (.num 0) (.var 30)) (.c2 .and (.c2 .eq (.num 0) (.var 31)) (.c2 .and (.c2 .eq (.num 0) (.var 32)) (.c2 .and (.c2 .eq (.num 0) (.var 33)) (.c2 .and (.c2 .eq (.num 0) (.var 34)) (.c2 .and (.c2 .eq (.num 0) (.var 35)) (.c2 .and (.c2 .eq (.num 0) (.var 36)) (.c2 .and (.c2 .eq (.num 0) (.var 37)) (.c2 .and (.c2 .eq (.num 0) (.var 38)) (.c2 .and (.c2 .eq (.num 0) (.var 39)) (.c2 .and (.c2 .eq (.num 0) (.var 40)) (.c2 .and (.c2 .eq (.num 0) (.var 41)) (.c2 .and (.c2 .eq (.num 0) (.var 42)) (.c2 .and (.c2 .eq (.num 0) (.var 43)) (.c2 .and (.c2 .eq (.num 0) (.var 44)) (.c2 .and (.c2 .eq (.num 0) (.var 45)) (.c2 .and (.c2 .eq (.num 0) (.var 46)) (.c2 .and (.c2 .eq (.num 0) (.var 47)) (.c2 .and (.c2 .eq (.num 0) (.var 48)) (.c2 .and (.c2 .eq (.num 0) (.var 49)) (.c2 .and (.c2 .eq (.num 0) (.var 50)) (.c2 .and (.c2 .eq (.num 0) (.var 51)) (.c2 .and (.c2 .eq (.num 0) (.var 52)) (.c2 .and (.c2 .eq (.num 0) (.var 53)) (.c2 .and (.c2 .eq (.num 0) (.var 54)) (.c2 .and (.c2 .eq (.num 0) (.var 55)) (.c2 .and (.c2 .eq (.num 0) (.var 56)) (.c2 .and (.c2 .eq (.num 0) (.var 57)) (.c2 .and (.c2 .eq (.num 0) (.var 58)) (.c2 .and (.c2 .eq (.num 0) (.var 59)) (.c2 .and (.c2 .eq (.num 0) (.var 60)) (.c2 .and (.c2 .eq (.num 0) (.var 61)) (.c2 .and (.c2 .eq (.num 0) (.var 62)) (.c2 .and (.c2 .eq (.num 0) (.var 63)) (.c2 .and (.c2 .eq (.num 0) (.var 64)) (.c2 .and (.c2 .eq (.num 0) (.var 65)) (.c2 .and (.c2 .eq (.num 0) (.var 66)) (.c2 .and (.c2 .eq (.num 0) (.var 67)) (.c2 .and (.c2 .eq (.num 0) (.var 68)) (.c2 .and (.c2 .eq (.num 0) (.var 69)) (.c2 .and (.c2 .eq (.num 0) (.var 70)) (.c2 .and (.c2 .eq (.num 0) (.var 71)) (.c2 .and (.c2 .eq (.num 0) (.var 72)) (.c2 .and (.c2 .eq (.num 0) (.var 73)) (.c2 .eq (.num 0) (.var 74))))))))))))))))))))))))))))))))))))))))))))))))))))))))))))))))))))))))
         (.ret (.w (.c (.i .i64 (.num 120))), ⟨[], [], 20, 77, []⟩))
         (.chk (.c2 .eq (.c2 .sub (.var 2) (.var 1)) (.c1 .len (.c2 .take (.c2 .sub (.var 2) (.var 1)) (.c2 .drop (.var 1) (.var 0)))))
         (.chk (.c2 .le (.num 0) (.var 75))
         (.chk (.c2 .le (.var 75) (.num 65535))
         (.chk (.c2 .le (.num 0) (.var 76))
         (.chk (.c2 .le (.var 76) (.num 65535))
         (.chk (.c1 (.kin [.u8]) (.c2 .take (.c2 .sub (.var 2) (.var 1)) (.c2 .drop (.var 1) (.var 0))))
         (.split (.c2 .eq (.fn 46 (.cons (.var 75) (.cons (.var 76) .nil)) (.c2 .take (.c2 .sub (.var 2) (.var 1)) (.c2 .drop (.var 1) (.var 0))) .nil) (.num 0))
          (.chk (.c1 (.kin [.u8]) (.fn 36 (.cons (.var 75) (.cons (.var 76) .nil)) (.c2 .take (.c2 .sub (.var 2) (.var 1)) (.c2 .drop (.var 1) (.var 0))) .nil))
          (.chk (.c2 .eq (.c1 .len (.fn 36 (.cons (.var 75) (.cons (.var 76) .nil)) (.c2 .take (.c2 .sub (.var 2) (.var 1)) (.c2 .drop (.var 1) (.var 0))) .nil)) (.num 8))
          (.split (.c2 .lt (.c2 .sub (.num 2048) (.c2 .sub (.var 2) (.var 1))) (.num 8))
           (.ret (.w (.c (.i .i64 (.num 5))), ⟨[], [], 83, 77, []⟩))
           (.split (.c2 .lt (.var 1) (.num 8))
            (.ret (.w (.c (.i .i64 (.num 0))), ⟨[], [(83, some ⟨true, .row [.u8] (.spl (.spl (.c2 .rep (.c2 .add (.c2 .add (.num 72) (.c2 .sub (.var 2) (.var 1))) (.num 64)) (.cons (.num 0) .nil)) (.num 72) (.c2 .take (.c2 .sub (.var 2) (.var 1)) (.c2 .drop (.var 1) (.var 0)))) (.num 64) (.c2 .take (.num 8) (.fn 36 (.cons (.var 75) (.cons (.var 76) .nil)) (.c2 .take (.c2 .sub (.var 2) (.var 1)) (.c2 .drop (.var 1) (.var 0))) .nil)))⟩), (0, some ⟨true, .cells [.b (.bol true), .s 83 1 0 (.num 0) (.c2 .add (.c2 .add (.num 72) (.c2 .sub (.var 2) (.var 1))) (.num 64)), .i .i64 (.num 64), .i .i64 (.c2 .sub (.c2 .add (.c2 .add (.num 72) (.c2 .sub (.var 2) (.var 1))) (.num 64)) (.num 64)), .i .i64 (.c2 .add (.var 3) (.num 1))]⟩)], 84, 77, []⟩))
            (.chk (.c2 .le (.c2 .sub (.var 1) (.num 8)) (.wr .i64 (.c2 .add (.c2 .sub (.var 1) (.num 8)) (.c2 .mx (.num 8) (.num 0)))))
            (.chk (.c2 .le (.wr .i64 (.c2 .add (.c2 .sub (.var 1) (.num 8)) (.c2 .mx (.num 8) (.num 0)))) (.c1 .len (.var 0)))
            (.chk (.c2 .le (.c2 .add (.c2 .sub (.var 1) (.num 8)) (.num 8)) (.c1 .len (.var 0)))
            (.ret (.w (.c (.i .i64 (.num 0))), ⟨[], [(1, some ⟨true, .row [.u8] (.spl (.spl (.var 0) (.c2 .sub (.var 1) (.num 8)) (.c2 .rep (.c2 .sub (.wr .i64 (.c2 .add (.c2 .sub (.var 1) (.num 8)) (.c2 .mx (.num 8) (.num 0)))) (.c2 .sub (.var 1) (.num 8))) (.cons (.num 0) .nil))) (.c2 .sub (.var 1) (.num 8)) (.c2 .take (.num 8) (.fn 36 (.cons (.var 75) (.cons (.var 76) .nil)) (.c2 .take (.c2 .sub (.var 2) (.var 1)) (.c2 .drop (.var 1) (.var 0))) .nil)))⟩), (0, some ⟨true, .cells [.b (.bol true), .s 1 1 0 (.num 0) (.c1 .len (.var 0)), .i .i64 (.c2 .sub (.var 1) (.num 8)), .i .i64 (.var 2), .i .i64 (.c2 .add (.var 3) (.num 1))]⟩)], 83, 77, []⟩)))))))))
          (.ret (.w (.c (.i .i64 (.fn 46 (.cons (.var 75) (.cons (.var 76) .nil)) (.c2 .take (.c2 .sub (.var 2) (.var 1)) (.c2 .drop (.var 1) (.var 0))) .nil))), ⟨[], [], 83, 77, []⟩))))))))))
        (.fail 11)))))))))
theorem treePkOn_is : funTree (ctxN Go.Proofs.Try.prog annsPk consOn 8) annsPk 8 (tOn 83).vs (tOn 83).bs (tOn 83).n (preF (tOn 83).res) = treePkOn := by kernel_rfl
end Go.Proofs.Ytfhjlimdakphcaa.Sx
/- Sx laws of wrapping: the contracts of packets. Conditions: none. -/
set_option linter.unusedVariables false
set_option linter.unusedSimpArgs false
set_option maxRecDepth 100000
namespace Go.Proofs.Ytfhjlimdakphcaa.Sx
open Go
theorem there_ok : TmplOk Go.Proofs.Try.prog ΦP 16 tThere := by
  refine tmpl_of noCons treePkThere_is (fun ρ res hres => ⟨eqJ, ?_⟩)
  obtain ⟨hp, hres⟩ := pk_some hres
  obtain rfl := ret_some hres
  refine ⟨fun c => ⟨⟨rfl, rfl⟩, trivial, by decide⟩, fun c => ⟨?_, ⟨rfl, rfl⟩, trivial, by decide⟩⟩
  have f0 : 0 ≤ (ρ 1).int := hp.f0
  have tm : (ρ 2).int ≤ (ρ 0).list.length := hp.tm
  rw [lt_f, int_sub, den_var, den_var, den_num] at c
  replace c : (1 : Int) ≤ (ρ 2).int - (ρ 1).int := c
  rw [le_t, int_add, int_len, den_var, den_var, den_num]
  show (ρ 1).int + 1 ≤ _
  omega
theorem consOn_ok : ConsOk Go.Proofs.Try.prog ΦP consOn := moreCons (con_ok there_ok) (consRdApp (consWd_ok' sigW.toHdSig) (consRd_ok sigW.toHdSig))
theorem new_ok : TmplOk Go.Proofs.Try.prog ΦP 5 (tNew 1 2) := by
  refine tmpl_of noCons treePkNew_is (fun ρ res hres => ⟨eqJ, ?_⟩)
  obtain ⟨hl, hres⟩ := chk_some hres
  obtain ⟨hb, hres⟩ := bytes_some hres
  obtain ⟨h1, h2, hres⟩ := inR_some hres
  obtain ⟨h3, h4, hres⟩ := inR_some hres
  obtain ⟨_, hres⟩ := chk_some hres
  obtain ⟨_, hres⟩ := chk_some hres
  obtain rfl := ret_some hres
  rw [le_t, int_len, den_var, den_num] at hl
  replace hl : ((ρ 0).list.length : Int) ≤ 2048 := hl
  obtain ⟨a, ha⟩ := Int.eq_ofNat_of_zero_le h1
  obtain ⟨b, hb'⟩ := Int.eq_ofNat_of_zero_le h3
  have hrow : (T.den ΦP ρ newT).list = List.replicate a 0 ++ ((ρ 0).list ++ List.replicate b 0) := by
    show newMem (ρ 0).list (ρ 1).int (ρ 2).int = _
    rw [newMem, ha, hb', Int.toNat_natCast, Int.toNat_natCast]
  have hll : (T.den ΦP ρ (.c2 .add (.c2 .add (.var 1) (.c1 .len (.var 0))) (.var 2))).int = ((a + (ρ 0).list.length + b : Nat) : Int) := by rw [int_add, int_add, int_len, den_var, den_var, den_var, ha, hb']; omega
  refine ⟨⟨⟨rfl, rfl, rfl, rfl⟩, ⟨rfl, rfl⟩, trivial⟩, ⟨rfl, rfl, ⟨rfl, ⟨rfl, rfl, rfl, rfl, ?_⟩, ⟨rfl, rfl⟩, ⟨rfl, ?_⟩, ⟨rfl, rfl⟩, trivial⟩, rfl, rfl, ⟨rfl, ?_⟩, trivial⟩, by decide⟩
  · rw [int_len, hrow, hll]; simp only [List.length_append, List.length_replicate]; omega
  · rw [int_sub, hll, int_add, int_len, den_var, den_var, den_var, ha, hb']; omega
  · rw [hrow]
    show splL (List.replicate (T.den ΦP ρ (.c2 .add (.c2 .add (.var 1) (.c1 .len (.var 0))) (.var 2))).int.toNat [(0 : Int)]).flatten (ρ 1).int (ρ 0).list = _
    rw [rep0, hll, Int.toNat_natCast, ha, spl_at, List.take_replicate, List.drop_replicate, show min a (a + (ρ 0).list.length + b) = a from by omega, show a + (ρ 0).list.length + b - (a + (ρ 0).list.length) = b from by omega]
theorem on_ok : TmplOk Go.Proofs.Try.prog ΦP 8 (tOn 83) := by
  refine tmpl_gv 1 consOn_ok treePkOn_is (fun ρ res hres => ⟨eqJ, ?_⟩)
  obtain ⟨hp, hres⟩ := pk_some hres
  obtain ⟨hlo, hhi, hres⟩ := inR_some hres
  obtain ⟨hh, hres⟩ := kinH4_some hres
  have hr := on_res hp hres
  refine ⟨fun c1 => ?_, fun c1 => ?_⟩
  · rw [lt_t, den_var, den_num] at c1
    replace c1 : (ρ 4).int < 1 := c1
    exact leaf_on_err (e := 120) hp hr (by rw [pushErr, if_neg (not_head4 (by omega))]) (by decide) rfl (by decide)
  refine ⟨fun c2 => ?_, fun c2 => ?_⟩
  · rw [lt_t, den_var, den_num] at c2
    replace c2 : 6 < (ρ 4).int := c2
    exact leaf_on_err (e := 120) hp hr (by rw [pushErr, if_neg (not_head4 (by omega))]) (by decide) rfl (by decide)
  rw [lt_f, den_var, den_num] at c1 c2
  replace c1 : 1 ≤ (ρ 4).int := c1
  replace c2 : (ρ 4).int ≤ 6 := c2
  refine ⟨fun q => ?_, fun m1 => ?_⟩
  · rw [eq_t, den_var] at q
    have hk0 : (ρ 4).int = (1 : Nat) := q
    exact on_kind (B := fun _ _ => False) (F := varsT 5 13) hp hr (k := 1) (n2 := 1) (by decide) hk0 hh (fields4 (k := 1) (by decide)).symm (by decide) (bl := [(1, false), (1, true), (2, false), (2, true), (3, false), (3, true), (4, false), (4, true), (5, false), (5, true), (6, false), (6, true), (7, false), (7, true), (8, false), (8, true), (9, false), (9, true), (10, false), (10, true), (11, false), (11, true), (12, false), (12, true), (13, false), (13, true)]) (by decide)
  refine ⟨fun q => ?_, fun m2 => ?_⟩
  · rw [eq_t, den_var] at q
    have hk0 : (ρ 4).int = (2 : Nat) := q
    exact on_kind (B := fun _ _ => False) (F := varsT 18 3) hp hr (k := 2) (by decide) hk0 hh (fields4 (k := 2) (by decide)).symm (by decide) (bl := [(14, false), (15, false), (16, false), (16, true)]) (by decide)
  refine ⟨fun q => ?_, fun m3 => ?_⟩
  · rw [eq_t, den_var] at q
    have hk0 : (ρ 4).int = (3 : Nat) := q
    exact on_kind (B := fun _ _ => False) (F := varsT 21 12) hp hr (k := 3) (n2 := 1) (by decide) hk0 hh (fields4 (k := 3) (by decide)).symm (by decide) (bl := [(17, false), (17, true), (18, false), (18, true), (19, false), (19, true), (20, false), (20, true), (21, false), (21, true), (22, false), (22, true), (23, false), (23, true), (24, false), (24, true), (25, false), (25, true), (26, false), (26, true), (27, false), (27, true), (28, false), (28, true)]) (by decide)
  refine ⟨fun q => ?_, fun m4 => ?_⟩
  · rw [eq_t, den_var] at q
    have hk0 : (ρ 4).int = (4 : Nat) := q
    exact on_kind (B := fun _ _ => False) (F := varsT 33 36) hp hr (k := 4) (by decide) hk0 hh (fields4 (k := 4) (by decide)).symm (by decide) (bl := [(29, false), (29, true), (30, false), (31, false), (31, true), (32, false), (32, true), (33, false), (33, true), (34, false), (34, true), (35, false), (35, true), (36, false), (36, true), (37, false), (37, true), (38, false), (38, true), (39, false), (39, true), (40, false), (40, true), (41, false), (41, true), (42, false), (42, true), (43, false), (43, true), (44, false), (44, true), (45, false), (45, true), (46, false), (46, true), (47, false), (47, true), (48, false), (48, true), (49, false), (49, true), (50, false), (50, true), (51, false), (51, true), (52, false), (52, true), (53, false), (53, true), (54, false), (54, true), (55, false), (55, true), (56, false), (56, true), (57, false), (57, true), (58, false), (58, true), (59, false), (59, true), (60, false), (60, true), (61, false), (61, true), (62, false), (62, true), (63, false), (63, true), (64, false), (64, true)]) (by decide)
  refine ⟨fun q => ?_, fun m5 => ?_⟩
  · rw [eq_t, den_var] at q
    have hk0 : (ρ 4).int = (5 : Nat) := q
    exact on_kind (B := fun _ _ => False) (F := varsT 69 6) hp hr (k := 5) (by decide) hk0 hh (fields4 (k := 5) (by decide)).symm (by decide) (bl := [(65, false), (65, true), (66, false), (66, true), (67, false), (67, true), (68, false), (68, true), (69, false), (70, false), (70, true)]) (by decide)
  refine ⟨fun q => ?_, fun m6 => ?_⟩
  · rw [eq_t, den_var] at q
    have hk0 : (ρ 4).int = (6 : Nat) := q
    exact on_kind (B := fun _ _ => False) (F := varsT 75 2) hp hr (k := 6) (n2 := 1) (by decide) hk0 hh (fields4 (k := 6) (by decide)).symm (by decide) (bl := [(71, false), (71, true), (72, false), (72, true)]) (by decide)
  exfalso
  rw [eq_f, den_var] at m1
  rw [eq_f, den_var] at m2
  rw [eq_f, den_var] at m3
  rw [eq_f, den_var] at m4
  rw [eq_f, den_var] at m5
  rw [eq_f, den_var] at m6
  have h6 : ¬ (ρ 4).int = 1 ∧ ¬ (ρ 4).int = 2 ∧ ¬ (ρ 4).int = 3 ∧ ¬ (ρ 4).int = 4 ∧ ¬ (ρ 4).int = 5 ∧ ¬ (ρ 4).int = 6 := ⟨m1, m2, m3, m4, m5, m6⟩
  omega
theorem off_ok : TmplOk Go.Proofs.Try.prog ΦP 7 tOff := by
  refine tmpl_of consOn_ok treePkOff_is (fun ρ res hres => ⟨eqJ, ?_⟩)
  obtain ⟨hp, hres⟩ := pk_some hres
  obtain ⟨hlo, hhi, hres⟩ := inR_some hres
  have hr := off_res hp hres
  refine ⟨fun c1 => ?_, fun c1 => ?_⟩
  · rw [lt_t, den_var, den_num] at c1
    replace c1 : (ρ 4).int < 1 := c1
    exact leaf_off_err (e := 120) hp hr (by rw [popErr, if_neg (by omega)]) (by decide) rfl (by decide)
  refine ⟨fun c2 => ?_, fun c2 => ?_⟩
  · rw [lt_t, den_var, den_num] at c2
    replace c2 : 6 < (ρ 4).int := c2
    exact leaf_off_err (e := 120) hp hr (by rw [popErr, if_neg (by omega)]) (by decide) rfl (by decide)
  rw [lt_f, den_var, den_num] at c1 c2
  replace c1 : 1 ≤ (ρ 4).int := c1
  replace c2 : (ρ 4).int ≤ 6 := c2
  refine ⟨fun q => ?_, fun m1 => ?_⟩
  · rw [eq_t, den_var] at q
    have hk0 : (ρ 4).int = (1 : Nat) := q
    exact offK_ok (B := fun _ _ => False) hp hr (k := 1) (z := -14) (by decide) hk0 (by decide) (by decide)
  refine ⟨fun q => ?_, fun m2 => ?_⟩
  · rw [eq_t, den_var] at q
    have hk0 : (ρ 4).int = (2 : Nat) := q
    exact offK_ok (B := fun _ _ => False) hp hr (k := 2) (z := -4) (by decide) hk0 (by decide) (by decide)
  refine ⟨fun q => ?_, fun m3 => ?_⟩
  · rw [eq_t, den_var] at q
    have hk0 : (ρ 4).int = (3 : Nat) := q
    exact offK_ok (B := fun _ _ => False) hp hr (k := 3) (z := -20) (by decide) hk0 (by decide) (by decide)
  refine ⟨fun q => ?_, fun m4 => ?_⟩
  · rw [eq_t, den_var] at q
    have hk0 : (ρ 4).int = (4 : Nat) := q
    exact offK_ok (B := fun _ _ => False) hp hr (k := 4) (z := -40) (by decide) hk0 (by decide) (by decide)
  refine ⟨fun q => ?_, fun m5 => ?_⟩
  · rw [eq_t, den_var] at q
    have hk0 : (ρ 4).int = (5 : Nat) := q
    exact offK_ok (B := fun _ _ => False) hp hr (k := 5) (z := -20) (by decide) hk0 (by decide) (by decide)
  refine ⟨fun q => ?_, fun m6 => ?_⟩
  · rw [eq_t, den_var] at q
    have hk0 : (ρ 4).int = (6 : Nat) := q
    exact offK_ok (B := fun _ _ => False) hp hr (k := 6) (z := -8) (by decide) hk0 (by decide) (by decide)
  exfalso
  rw [eq_f, den_var] at m1
  rw [eq_f, den_var] at m2
  rw [eq_f, den_var] at m3
  rw [eq_f, den_var] at m4
  rw [eq_f, den_var] at m5
  rw [eq_f, den_var] at m6
  have h6 : ¬ (ρ 4).int = 1 ∧ ¬ (ρ 4).int = 2 ∧ ¬ (ρ 4).int = 3 ∧ ¬ (ρ 4).int = 4 ∧ ¬ (ρ 4).int = 5 ∧ ¬ (ρ 4).int = 6 := ⟨m1, m2, m3, m4, m5, m6⟩
  omega
end Go.Proofs.Ytfhjlimdakphcaa.Sx
/- Sx: what Go function 6 does, as a tree of conditions (printed by a tool of this claim, proved by the kernel). Conditions: none. -/
set_option maxRecDepth 100000
namespace Go.Proofs.Ytfhjlimdakphcaa.Sx
open Go
def treePbBring : M (V × St) :=
(.split (.c2 .lt (.c2 .rem (.var 0) (.var 1)) (.num 0))
 (.ret (.w (.c (.i .i64 (.wr .i64 (.c2 .add (.c2 .rem (.var 0) (.var 1)) (.var 1))))), ⟨[], [], 0, 2, []⟩))
 (.ret (.w (.c (.i .i64 (.c2 .rem (.var 0) (.var 1)))), ⟨[], [], 0, 2, []⟩)))
theorem treePbBring_is : funTree (ctxN Go.Proofs.Try.prog annsPb [] 8) annsPb 6 tBring.vs tBring.bs tBring.n (preF tBring.res) = treePbBring := by kernel_rfl
end Go.Proofs.Ytfhjlimdakphcaa.Sx
/- Sx laws: the contract of Bring. Conditions: none. -/
set_option linter.unusedVariables false
set_option linter.unusedSimpArgs false
namespace Go.Proofs.Ytfhjlimdakphcaa.Sx
open Go
theorem bring_ok : TmplOk Go.Proofs.Try.prog ΦP 6 tBring := by
  refine tmpl_of noCons treePbBring_is (fun ρ res hres => ⟨eqJ, ?_⟩)
  obtain ⟨h1, h2, hres⟩ := inR_some hres
  obtain ⟨h3, h4, hres⟩ := inR_some hres
  obtain ⟨_, hres⟩ := chk_some hres
  obtain ⟨_, hres⟩ := chk_some hres
  obtain rfl := ret_some hres
  have hr := bring_range (ρ 0).int (n := (ρ 1).int) h3
  refine ⟨fun c => ?_, fun c => ?_⟩
  · rw [lt_t, int_rem, den_var, den_var, den_num] at c
    have c : (ρ 0).int.tmod (ρ 1).int < 0 := c
    refine ⟨⟨rfl, ?_⟩, trivial, by decide⟩
    rw [int_wr, int_add, int_rem, den_var, den_var]
    show _ = bringI (ρ 0).int (ρ 1).int
    rw [bringI, if_pos c] at hr ⊢
    exact wrap_is (by simp only [kmin]; omega) (by simp only [kmax]; omega)
  · rw [lt_f, int_rem, den_var, den_var, den_num] at c
    have c : 0 ≤ (ρ 0).int.tmod (ρ 1).int := c
    refine ⟨⟨rfl, ?_⟩, trivial, by decide⟩
    rw [int_rem, den_var, den_var]
    show _ = bringI (ρ 0).int (ρ 1).int
    rw [bringI, if_neg (by omega)]
end Go.Proofs.Ytfhjlimdakphcaa.Sx
/- Sx laws of wrapping: what is done to packets: patterns. Conditions: none. -/
set_option linter.unusedVariables false
namespace Go.Proofs.Ytfhjlimdakphcaa.Sx
open Go
/-- What is done: a Bool, a kind, a head. -/
def kDo : List IntKind := .u8 :: .u8 :: kHead
def k4 : List IntKind := [.i64, .i64, .i64, .i64]
def k2 : List IntKind := [.i64, .i64]
def pkFs (v : Nat) : Facts := [(.c2 .le (.num 0) (.var (v + 1)), true), (.c2 .le (.var (v + 1)) (.var (v + 2)), true), (.c2 .le (.var (v + 2)) (.c1 .len (.var v)), true), (.c2 .le (.c2 .sub (.var (v + 2)) (.var (v + 1))) (.num 2048), true), (.c2 .le (.c1 .len (.var v)) (.num 2560), true),
  (.c2 .le (.var (v + 1)) (.num 2560), true), (.c2 .le (.num 0) (.var (v + 2)), true), (.c2 .le (.var (v + 2)) (.num 2560), true), (.c2 .le (.num 0) (.var (v + 3)), true), (.c2 .le (.var (v + 3)) (.num 1000), true), (.c1 (.kin [.u8]) (.var v), true)]
def memOf (me : List (Nat × Option MB)) (j : Nat) : Nat := match lookM me j with
  | some ⟨_, .cells (_ :: .s jm _ _ _ _ :: _)⟩ => jm
  | _ => 0
def annsRm : Anns := fun f i S => match f, i with
  | 3, 10 => match look S.tm 7, look S.tm 9 with
    | some (.w (.c (.p jp _ _ _))), some (.w (.c (.p jq _ _ _))) => .inv 0 ⟨[(11, .c (.i .i64 (.var S.nv)))],
      [(jp, some ⟨true, .cells (pkC S.nb (S.nv + 1))⟩), (jq, some ⟨true, .cells (pkC (S.nb + 1) (S.nv + 5))⟩), (memOf S.me jp, none), (memOf S.me jq, none)],
      [⟨true, .row [.u8] (.var (S.nv + 1))⟩, ⟨true, .row [.u8] (.var (S.nv + 5))⟩], 9, (.c2 .le (.num 0) (.var S.nv), true) :: (pkFs (S.nv + 1) ++ pkFs (S.nv + 5))⟩
    | _, _ => .unroll 1
  | 152515, 9 => match look S.tm 7, look S.tm 9 with
    | some (.w (.c (.p jp _ _ _))), some (.w (.c (.s jn _ _ _ _))) => .inv 0 ⟨[(11, .c (.i .i64 (.var S.nv))), (10, .c (.i .i64 (.var (S.nv + 5)))), (9, .c (.s (S.nb + 1) 1 0 (.num 0) (.var (S.nv + 6))))],
      [(jp, some ⟨true, .cells (pkC S.nb (S.nv + 1))⟩), (memOf S.me jp, none), (jn, none)],
      [⟨true, .row [.u8] (.var (S.nv + 1))⟩, ⟨true, .row [.u8] (.var (S.nv + 7))⟩], 8, (.c2 .le (.num 0) (.var S.nv), true) :: (.c2 .le (.num 0) (.var (S.nv + 5)), true) :: (.c2 .le (.var (S.nv + 5)) (.num 1000), true) :: (.c2 .le (.num 0) (.var (S.nv + 6)), true) :: (.c2 .le (.var (S.nv + 6)) (.num 2048), true) :: (.c2 .eq (.c1 .len (.var (S.nv + 7))) (.var (S.nv + 6)), true) :: (.c1 (.kin [.u8]) (.var (S.nv + 7)), true) :: pkFs (S.nv + 1)⟩
    | _, _ => .unroll 1
  | _, _ => .unroll 40
def consRm : List (Nat × Con) := (4, tTrue.con) :: (9, tEq.con) :: (21, tClone.con) :: (6, tBring.con) :: (5, (tNew 1 2).con) :: (8, (tOn 83).con) :: (7, tOff.con) ::
  []
def slcDo (j n : Nat) : V := .c (.s j 75 0 (.num 0) (.var n))
def cutA (x : O Res) : O Res := .chk (.c2 .le (.c1 .len (.var 0)) (.num 2048)) x
def cutB (x : O Res) : O Res := .chk (.c2 .lt (.num 2048) (.c1 .len (.var 0))) x
def tRoom : Tmpl := ⟨[slc 0 0, .w (.g (cellsV 1 k4)), slcDo 1 5], [(0, rowB 0), (1, ⟨false, .mix kDo (.var 6)⟩)], 7, short 0 (bytes 0 (inKs 1 k4 (.chk (.c2 .le (.num 0) (.var 5)) (.chk (.c2 .le (.var 5) (.num 140737488351232)) (.chk (.c2 .eq (.c1 .len (.var 6)) (.c2 .mul (.var 5) (.num 75))) (.chk (.c1 (.kin kDo) (.var 6)) (truth 100000)))))))⟩
def tRoomB : Tmpl := ⟨[slc 0 0, .w (.g (cellsV 1 k4)), slcDo 1 5], [(0, rowB 0), (1, ⟨false, .mix kDo (.var 6)⟩)], 7, cutB (short 0 (bytes 0 (inKs 1 k4 (.chk (.c2 .le (.num 0) (.var 5)) (.chk (.c2 .le (.var 5) (.num 140737488351232)) (.chk (.c2 .eq (.c1 .len (.var 6)) (.c2 .mul (.var 5) (.num 75))) (.chk (.c1 (.kin kDo) (.var 6)) (truth 100000))))))))⟩
def tRoomA : Tmpl := ⟨[slc 0 0, .w (.g (cellsV 1 k4)), slcDo 1 5], [(0, rowB 0), (1, ⟨false, .mix kDo (.var 6)⟩)], 7, cutA (short 0 (bytes 0 (inKs 1 k4 (.chk (.c2 .le (.num 0) (.var 5)) (.chk (.c2 .le (.var 5) (.num 140737488351232)) (.chk (.c2 .eq (.c1 .len (.var 6)) (.c2 .mul (.var 5) (.num 75))) (.chk (.c1 (.kin kDo) (.var 6)) (truth 100000))))))))⟩
def tPacks : Tmpl := ⟨[slc 0 0, .w (.g (cellsV 1 k2)), slcDo 1 3], [(0, rowB 0), (1, ⟨false, .mix kDo (.var 4)⟩)], 5, short 0 (bytes 0 (inKs 1 k2 (.chk (.c2 .le (.num 0) (.var 3)) (.chk (.c2 .le (.var 3) (.num 140737488351232)) (.chk (.c2 .eq (.c1 .len (.var 4)) (.c2 .mul (.var 3) (.num 75))) (.chk (.c1 (.kin kDo) (.var 4)) (truth 100000)))))))⟩
def tPacksB : Tmpl := ⟨[slc 0 0, .w (.g (cellsV 1 k2)), slcDo 1 3], [(0, rowB 0), (1, ⟨false, .mix kDo (.var 4)⟩)], 5, cutB (short 0 (bytes 0 (inKs 1 k2 (.chk (.c2 .le (.num 0) (.var 3)) (.chk (.c2 .le (.var 3) (.num 140737488351232)) (.chk (.c2 .eq (.c1 .len (.var 4)) (.c2 .mul (.var 3) (.num 75))) (.chk (.c1 (.kin kDo) (.var 4)) (truth 100000))))))))⟩
def tPacksA : Tmpl := ⟨[slc 0 0, .w (.g (cellsV 1 k2)), slcDo 1 3], [(0, rowB 0), (1, ⟨false, .mix kDo (.var 4)⟩)], 5, cutA (short 0 (bytes 0 (inKs 1 k2 (.chk (.c2 .le (.num 0) (.var 3)) (.chk (.c2 .le (.var 3) (.num 140737488351232)) (.chk (.c2 .eq (.c1 .len (.var 4)) (.c2 .mul (.var 3) (.num 75))) (.chk (.c1 (.kin kDo) (.var 4)) (truth 100000))))))))⟩
end Go.Proofs.Ytfhjlimdakphcaa.Sx
/- Sx laws of wrapping: what is done to packets: the mathematics. Conditions: none. -/
set_option linter.unusedVariables false
namespace Go.Proofs.Ytfhjlimdakphcaa.Sx
open Go
/-- A packet of memory m, from f to t. -/
structure PkL (m : List Int) (f t : Int) : Prop where
  f0 : 0 ≤ f
  ft : f ≤ t
  tm : t ≤ m.length
  d : t - f ≤ 2048
  ml : m.length ≤ 2560
  bytes : Bytes m
section
variable {m H : List Int} {f t : Int}
theorem PkL.len (h : PkL m f t) : ((dataOf m f t).length : Int) = t - f := by
  have h1 := h.f0
  have h2 := h.ft
  have h3 := h.tm
  rw [dataOf, List.length_take, List.length_drop]; omega
theorem PkL.dbytes (h : PkL m f t) : Bytes (dataOf m f t) := bytes_take (bytes_drop h.bytes _) _
theorem bytes_app {a b : List Int} (ha : Bytes a) (hb : Bytes b) : Bytes (a ++ b) := by
  intro z hz
  rcases List.mem_append.mp hz with hz | hz
  · exact ha z hz
  · exact hb z hz
theorem bytes_rep (n : Nat) : Bytes (List.replicate n 0) := by
  intro z hz
  rw [List.eq_of_mem_replicate hz]; decide
structure OnL (m H : List Int) (f t n : Int) : Prop where
  pk : PkL (onMem m [f, t] H) (onFrom f n) (onFrom f n + (n + (t - f)))
  data : dataOf (onMem m [f, t] H) (onFrom f n) (onFrom f n + (n + (t - f))) = pushRow H (dataOf m f t)
  n4 : 4 ≤ n
  n40 : n ≤ 40
  short : n + (t - f) ≤ 2048
theorem size4 {k : Nat} (hk : 1 ≤ k ∧ k ≤ 6) : 4 ≤ hdSize k ∧ hdSize k ≤ 40 := by
  have : k = 1 ∨ k = 2 ∨ k = 3 ∨ k = 4 ∨ k = 5 ∨ k = 6 := by omega
  rcases this with rfl | rfl | rfl | rfl | rfl | rfl <;> decide
theorem on_l (hp : PkL m f t) (hH : GoodInts kHead H) (h : pushErr H (dataOf m f t) = 0) : OnL m H f t (hdSize (g H 0).toNat) := by
  obtain ⟨k, P⟩ := pushed hH hp.dbytes h
  have hd := hp.len
  have h1 := hp.f0
  have h2 := hp.ft
  have h3 := hp.tm
  have h4 := hp.d
  have h5 := hp.ml
  have s4 := size4 P.kind
  rw [P.at0, Int.toNat_natCast]
  have hl := P.len
  have hs := P.short
  have hhl : (headRow H (dataOf m f t)).length = hdSize k := by
    rw [pushRow, List.length_append] at hl; omega
  have hhb : Bytes (headRow H (dataOf m f t)) := fun z hz => P.bytes z (List.mem_append_left _ hz)
  by_cases c : f < hdSize k
  · have hm : onMem m [f, t] H = List.replicate 64 0 ++ (pushRow H (dataOf m f t) ++ List.replicate 64 0) := by
      rw [onMem, P.at0, Int.toNat_natCast, if_pos (show g [f, t] 0 < hdSize k from c)]; rfl
    have hf : onFrom f (hdSize k) = 64 := by rw [onFrom, if_pos c]
    have hml : (onMem m [f, t] H).length = 64 + (hdSize k + (dataOf m f t).length + 64) := by
      rw [hm, List.length_append, List.length_append, List.length_replicate, hl]
    have hby : Bytes (onMem m [f, t] H) := by
      rw [hm]; exact bytes_app (bytes_rep _) (bytes_app P.bytes (bytes_rep _))
    refine ⟨by rw [hf]; exact ⟨by omega, by omega, by omega, by omega, by omega, hby⟩, ?_, by omega, by omega, by omega⟩
    · rw [hf, hm, dataOf, show (64 : Int).toNat = 64 from rfl, List.drop_append_of_le_length (by simp), List.drop_of_length_le (by simp), List.nil_append,
        show ((64 : Int) + ((hdSize k : Int) + (t - f))).toNat - 64 = (pushRow H (dataOf m f t)).length from by omega,
        List.take_append_of_le_length (Nat.le_refl _), List.take_of_length_le (Nat.le_refl _)]
  · have hm : onMem m [f, t] H = m.take (f.toNat - hdSize k) ++ (headRow H (dataOf m f t) ++ m.drop f.toNat) := by
      rw [onMem, P.at0, Int.toNat_natCast, if_neg (show ¬ g [f, t] 0 < hdSize k from c)]; rfl
    have hf : onFrom f (hdSize k) = f - hdSize k := by rw [onFrom, if_neg c]
    have hml : (onMem m [f, t] H).length = m.length := by
      rw [hm, List.length_append, List.length_append, List.length_take, List.length_drop, hhl]; omega
    have hby : Bytes (onMem m [f, t] H) := by
      rw [hm]; exact bytes_app (bytes_take hp.bytes _) (bytes_app hhb (bytes_drop hp.bytes _))
    refine ⟨by rw [hf]; exact ⟨by omega, by omega, by omega, by omega, by omega, hby⟩, ?_, by omega, by omega, by omega⟩
    · have ht : (m.take (f.toNat - hdSize k)).length = (f - hdSize k).toNat := by rw [List.length_take]; omega
      rw [hf, hm, dataOf, ← ht, List.drop_left, ht, List.take_append, hhl, List.take_of_length_le (by rw [hhl]; omega), pushRow, dataOf,
        show (f - (hdSize k : Int) + ((hdSize k : Int) + (t - f))).toNat - (f - (hdSize k : Int)).toNat - hdSize k = t.toNat - f.toNat from by omega]
structure OffL (m : List Int) (f t n : Int) (k : Int) : Prop where
  pk : PkL m (f + n) t
  data : dataOf m (f + n) t = popRest (dataOf m f t) k
  n4 : 4 ≤ n
  le : n ≤ t - f
  bytes : Bytes (popRest (dataOf m f t) k)
theorem off_l {k : Int} (hp : PkL m f t) (h : popErr (dataOf m f t) k = 0) : OffL m f t (hdSize k.toNat) k := by
  rw [popErr] at h
  split at h
  case isFalse => cases h
  rename_i hk
  have hz := rd_size h
  have hd := hp.len
  have h1 := hp.f0
  have h2 := hp.ft
  have h3 := hp.tm
  have h4 := hp.d
  have h5 := hp.ml
  have s4 := size4 (k := k.toNat) (by omega)
  refine ⟨⟨by omega, by omega, h3, by omega, h5, hp.bytes⟩, ?_, by omega, by omega, bytes_drop hp.dbytes _⟩
  rw [popRest, dataOf, dataOf, List.drop_take, List.drop_drop, show (f + (hdSize k.toNat : Int)).toNat = f.toNat + hdSize k.toNat from by omega,
    show t.toNat - (f.toNat + hdSize k.toNat) = t.toNat - f.toNat - hdSize k.toNat from by omega]
theorem new_l {b : List Int} {h e : Int} (hb : Bytes b) (hl : b.length ≤ 2048) (h0 : 0 ≤ h) (h1 : h < 257) (e0 : 0 ≤ e) (e1 : e < 257) :
    PkL (newMem b h e) h (h + b.length) ∧ dataOf (newMem b h e) h (h + b.length) = b := by
  have hlen : (newMem b h e).length = h.toNat + (b.length + e.toNat) := by simp [newMem]
  refine ⟨⟨h0, by omega, by omega, by omega, by omega, bytes_app (bytes_rep _) (bytes_app hb (bytes_rep _))⟩, ?_⟩
  rw [newMem, dataOf, List.drop_append_of_le_length (by simp), List.drop_of_length_le (by simp), List.nil_append, show (h + (b.length : Int)).toNat - h.toNat = b.length from by omega,
    List.take_append_of_le_length (Nat.le_refl _), List.take_of_length_le (Nat.le_refl _)]
end
end Go.Proofs.Ytfhjlimdakphcaa.Sx
/- Sx laws of wrapping: a loop that turns bytes. Conditions: none. -/
set_option linter.unusedVariables false
set_option linter.unusedSimpArgs false
namespace Go.Proofs.Ytfhjlimdakphcaa.Sx
open Go
abbrev ΦW : Sig := ΦP
/-! A loop that turns each byte of a row. -/
def turnJ (Φ : Sig) (R : T) : Inv := ⟨fun _ ρ ds => ∃ (i : Nat) (l : List Int), (nthD ds 0).int = i ∧ (nthD ds 1).list = l ∧ l.length = (T.den Φ ρ R).list.length ∧ Bytes l ∧ i ≤ l.length, fun _ ρ ds => (T.den Φ ρ R).list.length - (nthD ds 0).int.toNat⟩
def turnM (b : Nat) (R : T) (x : M (V × St)) : M (V × St) :=
  .loop 0 b 2 [.num 0, R] [(.c2 .le (.num 0) (.var b), true), (.c2 .eq (.c1 .len (.var (b + 1))) (.c1 .len R), true), (.c1 (.kin [.u8]) (.var (b + 1)), true)]
    (.split (.c2 .lt (.var b) (.c1 .len R))
      (.chk (.c2 .le (.c2 .add (.var b) (.num 1)) (.c1 .len (.var (b + 1)))) (.back 0 b [.wr .i64 (.c2 .add (.var b) (.num 1)), .set (.var (b + 1)) (.var b) (.bits .xor .u8 (.c2 .rd (.var (b + 1)) (.var b)) (.num 90))]))
      x)
theorem turn_ok {Φ : Sig} {ρ : Env} {b : Nat} {R : T} {x : M (V × St)} {B : BK} {K : BK → Env → V × St → Prop} (hR : R.lo b = true) (hb : Bytes (T.den Φ ρ R).list) (hl : (T.den Φ ρ R).list.length ≤ 140737488351232)
    (hx : ∀ B' ds, x.ok Φ (turnJ Φ R) B' (upd ρ b ds) K) : (turnM b R x).ok Φ (turnJ Φ R) B ρ K := by
  refine ⟨⟨0, _, rfl, rfl, rfl, hb, Nat.zero_le _⟩, ?_⟩
  rintro ds hds ⟨i, l, hi, hl', hll, hbl, hil⟩
  have e1 : upd ρ b ds b = nthD ds 0 := by have := upd_at (ρ := ρ) (b := b) (ds := ds) (i := 0) (by omega); rwa [Nat.add_zero] at this
  have e2 : upd ρ b ds (b + 1) = nthD ds 1 := upd_at (i := 1) (by omega)
  have w : (T.den Φ (upd ρ b ds) R).list = (T.den Φ ρ R).list := by rw [← lo_den (ρ := ρ) (ρ' := upd ρ b ds) (fun i h => (upd_lo ds h).symm) R hR]
  have hx' := hx
  generalize hρ : upd ρ b ds = ρ1 at *
  have v1 : (ρ1 b).int = i := by rw [e1]; exact hi
  have v2 : (ρ1 (b + 1)).list = l := by rw [e2]; exact hl'
  refine ⟨?_, fun d => ⟨?_, ?_⟩, fun d => by have := hx' (B.at_ b fun ds' => (turnJ Φ R).I 0 ρ ds' ∧ (turnJ Φ R).μ 0 ρ ds' < (turnJ Φ R).μ 0 ρ ds) ds; rw [hρ] at this; exact this⟩
  · intro t p hm'
    simp only [List.mem_cons, Prod.mk.injEq, List.not_mem_nil, or_false] at hm'
    rcases hm' with ⟨rfl, rfl⟩ | ⟨rfl, rfl⟩ | ⟨rfl, rfl⟩
    · rw [le_t, den_var, v1]; exact Int.natCast_nonneg _
    · rw [eq_t, int_len, int_len, w, den_var, v2, hll]
    · rw [bytes_t, den_var, v2]; exact hbl
  · rw [lt_t, den_var, v1, int_len, w] at d
    rw [le_t, int_add, int_len, den_var, den_var, v1, v2, hll]; show (i : Int) + 1 ≤ _; omega
  · rw [lt_t, den_var, v1, int_len, w] at d
    have wi : (T.den Φ ρ1 (.wr .i64 (.c2 .add (.var b) (.num 1)))).int = ((i + 1 : Nat) : Int) := by
      rw [int_wr, int_add, den_var, v1]
      show IntKind.i64.wrap ((i : Int) + 1) = _
      rw [wrap_is (by simp only [kmin]; omega) (by simp only [kmax]; omega)]; rfl
    have hx2 := bits_range .xor .u8 (l.getD i 0) 90
    refine ok_back ⟨⟨i + 1, l.set i (Go.bits .xor .u8 (l.getD i 0) 90), wi, ?_, by simpa using hll, set_bytes hbl ⟨hx2.1, by have := hx2.2; simp only [kmax, Bo.op] at this; omega⟩, by rw [List.length_set]; omega⟩, ?_⟩
    · show (T.den Φ ρ1 (.set (.var (b + 1)) (.var b) (.bits .xor .u8 (.c2 .rd (.var (b + 1)) (.var b)) (.num 90)))).list = _
      rw [list_set, int_bits, int_rd, den_var, den_var, v1, v2, Int.toNat_natCast]; rfl
    · show (T.den Φ ρ R).list.length - (T.den Φ ρ1 (.wr .i64 (.c2 .add (.var b) (.num 1)))).int.toNat < (T.den Φ ρ R).list.length - (nthD ds 0).int.toNat
      rw [wi, hi]; omega
end Go.Proofs.Ytfhjlimdakphcaa.Sx
