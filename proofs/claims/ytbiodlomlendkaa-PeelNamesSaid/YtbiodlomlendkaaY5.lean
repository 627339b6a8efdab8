/- Sx: texts of this claim put together: TPwWheres, PwK. Conditions: none. -/
import Derived.Test.YtbiodlomlendkaaY4
import Derived.Test.YtbiodlomlendkaaProg
import Derived.KernelRfl
/- Sx: what Go function 4 does, as a tree of conditions (printed by a tool of this claim, proved by the kernel). Conditions: none. -/
set_option maxRecDepth 100000
namespace Go.Proofs.Ytbiodlomlendkaa.Sx
open Go
def treePwWheres : M (V × St) :=
(.split (.c1 .not (.c2 .beq (.fn 56 (.var 0) (.num 0) .nil) (.fn 56 (.var 0) (.num 0) .nil)))
 (.ret (.w (.c (.b (.bol false))), ⟨[], [], 805, 74, []⟩))
 (.split (.c1 .not (.c2 .beq (.c1 .not (.c2 .eq (.wr .u8 (.fn 54 (.cons (.num 0) (.cons (.var 2) (.cons (.var 3) (.cons (.var 4) (.cons (.var 5) (.cons (.var 6) (.cons (.var 7) (.cons (.var 8) (.cons (.var 9) (.cons (.var 10) (.cons (.var 11) (.cons (.var 12) (.cons (.var 13) (.cons (.var 14) (.cons (.var 15) (.cons (.var 16) (.cons (.var 17) (.cons (.var 18) (.cons (.var 19) (.cons (.var 20) (.cons (.var 21) (.cons (.var 22) (.cons (.var 23) (.cons (.var 24) (.cons (.var 25) (.cons (.var 26) (.cons (.var 27) (.cons (.var 28) (.cons (.var 29) (.cons (.var 30) (.cons (.var 31) (.cons (.var 32) (.cons (.var 33) (.cons (.var 34) (.cons (.var 35) (.cons (.var 36) (.cons (.var 37) (.cons (.var 38) (.cons (.var 39) (.cons (.var 40) (.cons (.var 41) (.cons (.var 42) (.cons (.var 43) (.cons (.var 44) (.cons (.var 45) (.cons (.var 46) (.cons (.var 47) (.cons (.var 48) (.cons (.var 49) (.cons (.var 50) (.cons (.var 51) (.cons (.var 52) (.cons (.var 53) (.cons (.var 54) (.cons (.var 55) (.cons (.var 56) (.cons (.var 57) (.cons (.var 58) (.cons (.var 59) (.cons (.var 60) (.cons (.var 61) (.cons (.var 62) (.cons (.var 63) (.cons (.var 64) (.cons (.var 65) (.cons (.var 66) (.cons (.var 67) (.cons (.var 68) (.cons (.var 69) (.cons (.var 70) (.cons (.var 71) (.cons (.var 72) (.cons (.var 73) .nil))))))))))))))))))))))))))))))))))))))))))))))))))))))))))))))))))))))))) .nil .nil)) (.num 0))) (.c1 .not (.c2 .eq (.wr .u8 (.fn 54 (.cons (.num 0) (.cons (.var 2) (.cons (.var 3) (.cons (.var 4) (.cons (.var 5) (.cons (.var 6) (.cons (.var 7) (.cons (.var 8) (.cons (.var 9) (.cons (.var 10) (.cons (.var 11) (.cons (.var 12) (.cons (.var 13) (.cons (.var 14) (.cons (.var 15) (.cons (.var 16) (.cons (.var 17) (.cons (.var 18) (.cons (.var 19) (.cons (.var 20) (.cons (.var 21) (.cons (.var 22) (.cons (.var 23) (.cons (.var 24) (.cons (.var 25) (.cons (.var 26) (.cons (.var 27) (.cons (.var 28) (.cons (.var 29) (.cons (.var 30) (.cons (.var 31) (.cons (.var 32) (.cons (.var 33) (.cons (.var 34) (.cons (.var 35) (.cons (.var 36) (.cons (.var 37) (.cons (.var 38) (.cons (.var 39) (.cons (.var 40) (.cons (.var 41) (.cons (.var 42) (.cons (.var 43) (.cons (.var 44) (.cons (.var 45) (.cons (.var 46) (.cons (.var 47) (.cons (.var 48) (.cons (.var 49) (.cons (.var 50) (.cons (.var 51) (.cons (.var 52) (.cons (.var 53) (.cons (.var 54) (.cons (.var 55) (.cons (.var 56) (.cons (.var 57) (.cons (.var 58) (.cons (.var 59) (.cons (.var 60) (.cons (.var 61) (.cons (.var 62) (.cons (.var 63) (.cons (.var 64) (.cons (.var 65) (.cons (.var 66) (.cons (.var 67) (.cons (.var 68) (.cons (.var 69) (.cons (.var 70) (.cons (.var 71) (.cons (.var 72) (.cons (.var 73) .nil))))))))))))))))))))))))))))))))))))))))))))))))))))))))))))))))))))))))) .nil .nil)) (.num 0)))))
  (.ret (.w (.c (.b (.bol false))), ⟨[], [], 846, 74, []⟩))
  (.split (.c1 .not (.c2 .beq (.fn 56 (.var 0) (.num 1) .nil) (.fn 56 (.var 0) (.num 1) .nil)))
   (.ret (.w (.c (.b (.bol false))), ⟨[], [], 1648, 74, []⟩))
   (.split (.c1 .not (.c2 .beq (.c1 .not (.c2 .eq (.wr .u8 (.fn 54 (.cons (.num 1) (.cons (.var 2) (.cons (.var 3) (.cons (.var 4) (.cons (.var 5) (.cons (.var 6) (.cons (.var 7) (.cons (.var 8) (.cons (.var 9) (.cons (.var 10) (.cons (.var 11) (.cons (.var 12) (.cons (.var 13) (.cons (.var 14) (.cons (.var 15) (.cons (.var 16) (.cons (.var 17) (.cons (.var 18) (.cons (.var 19) (.cons (.var 20) (.cons (.var 21) (.cons (.var 22) (.cons (.var 23) (.cons (.var 24) (.cons (.var 25) (.cons (.var 26) (.cons (.var 27) (.cons (.var 28) (.cons (.var 29) (.cons (.var 30) (.cons (.var 31) (.cons (.var 32) (.cons (.var 33) (.cons (.var 34) (.cons (.var 35) (.cons (.var 36) (.cons (.var 37) (.cons (.var 38) (.cons (.var 39) (.cons (.var 40) (.cons (.var 41) (.cons (.var 42) (.cons (.var 43) (.cons (.var 44) (.cons (.var 45) (.cons (.var 46) (.cons (.var 47) (.cons (.var 48) (.cons (.var 49) (.cons (.var 50) (.cons (.var 51) (.cons (.var 52) (.cons (.var 53) (.cons (.var 54) (.cons (.var 55) (.cons (.var 56) (.cons (.var 57) (.cons (.var 58) (.cons (.var 59) (.cons (.var 60) (.cons (.var 61) (.cons (.var 62) (.cons (.var 63) (.cons (.var 64) (.cons (.var 65) (.cons (.var 66) (.cons (.var 67) (.cons (.var 68) (.cons (.var 69) (.cons (.var 70) (.cons (.var 71) (.cons (.var 72) (.cons (.var 73) .nil))))))))))))))))))))))))))))))))))))))))))))))))))))))))))))))))))))))))) .nil .nil)) (.num 0))) (.c1 .not (.c2 .eq (.wr .u8 (.fn 54 (.cons (.num 1) (.cons (.var 2) (.cons (.var 3) (.cons (.var 4) (.cons (.var 5) (.cons (.var 6) (.cons (.var 7) (.cons (.var 8) (.cons (.var 9) (.cons (.var 10) (.cons (.var 11) (.cons (.var 12) (.cons (.var 13) (.cons (.var 14) (.cons (.var 15) (.cons (.var 16) (.cons (.var 17) (.cons (.var 18) (.cons (.var 19) (.cons (.var 20) (.cons (.var 21) (.cons (.var 22) (.cons (.var 23) (.cons (.var 24) (.cons (.var 25) (.cons (.var 26) (.cons (.var 27) (.cons (.var 28) (.cons (.var 29) (.cons (.var 30) (.cons (.var 31) (.cons (.var 32) (.cons (.var 33) (.cons (.var 34) (.cons (.var 35) (.cons (.var 36) (.cons (.var 37) (.cons (.var 38) (.cons (.var 39) (.cons (.var 40) (.cons (.var 41) (.cons (.var 42) (.cons (.var 43) (.cons (.var 44) (.cons (.var 45) (.cons (.var 46) (.cons (.var 47) (.cons (.var 48) (.cons (.var 49) (.cons (.var 50) (.cons (.var 51) (.cons (.var 52) (.cons (.var 53) (.cons (.var 54) (.cons (.var 55) (.cons (.var 56) (.cons (.var 57) (.cons (.var 58) (.cons (.var 59) (.cons (.var 60) (.cons (.var 61) (.cons (.var 62) (.cons (.var 63) (.cons (.var 64) (.cons (.var 65) (.cons (.var 66) (.cons (.var 67) (.cons (.var 68) (.cons (.var 69) (.cons (.var 70) (.cons (.var 71) (.cons (.var 72) (.cons (.var 73) .nil))))))))))))))))))))))))))))))))))))))))))))))))))))))))))))))))))))))))) .nil .nil)) (.num 0)))))
    (.ret (.w (.c (.b (.bol false))), ⟨[], [], 1689, 74, []⟩))
    (.split (.c1 .not (.c2 .beq (.fn 56 (.var 0) (.num 2) .nil) (.fn 56 (.var 0) (.num 2) .nil)))
     (.ret (.w (.c (.b (.bol false))), ⟨[], [], 2491, 74, []⟩))
     (.split (.c1 .not (.c2 .beq (.c1 .not (.c2 .eq (.wr .u8 (.fn 54 (.cons (.num 2) (.cons (.var 2) (.cons (.var 3) (.cons (.var 4) (.cons (.var 5) (.cons (.var 6) (.cons (.var 7) (.cons (.var 8) (.cons (.var 9) (.cons (.var 10) (.cons (.var 11) (.cons (.var 12) (.cons (.var 13) (.cons (.var 14) (.cons (.var 15) (.cons (.var 16) (.cons (.var 17) (.cons (.var 18) (.cons (.var 19) (.cons (.var 20) (.cons (.var 21) (.cons (.var 22) (.cons (.var 23) (.cons (.var 24) (.cons (.var 25) (.cons (.var 26) (.cons (.var 27) (.cons (.var 28) (.cons (.var 29) (.cons (.var 30) (.cons (.var 31) (.cons (.var 32) (.cons (.var 33) (.cons (.var 34) (.cons (.var 35) (.cons (.var 36) (.cons (.var 37) (.cons (.var 38) (.cons (.var 39) (.cons (.var 40) (.cons (.var 41) (.cons (.var 42) (.cons (.var 43) (.cons (.var 44) (.cons (.var 45) (.cons (.var 46) (.cons (.var 47) (.cons (.var 48) (.cons (.var 49) (.cons (.var 50) (.cons (.var 51) (.cons (.var 52) (.cons (.var 53) (.cons (.var 54) (.cons (.var 55) (.cons (.var 56) (.cons (.var 57) (.cons (.var 58) (.cons (.var 59) (.cons (.var 60) (.cons (.var 61) (.cons (.var 62) (.cons (.var 63) (.cons (.var 64) (.cons (.var 65) (.cons (.var 66) (.cons (.var 67) (.cons (.var 68) (.cons (.var 69) (.cons (.var 70) (.cons (.var 71) (.cons (.var 72) (.cons (.var 73) .nil))))))))))))))))))))))))))))))))))))))))))))))))))))))))))))))))))))))))) .nil .nil)) (.num 0))) (.c1 .not (.c2 .eq (.wr .u8 (.fn 54 (.cons (.num 2) (.cons (.var 2) (.cons (.var 3) (.cons (.var 4) (.cons (.var 5) (.cons (.var 6) (.cons (.var 7) (.cons (.var 8) (.cons (.var 9) (.cons (.var 10) (.cons (.var 11) (.cons (.var 12) (.cons (.var 13) (.cons (.var 14) (.cons (.var 15) (.cons (.var 16) (.cons (.var 17) (.cons (.var 18) (.cons (.var 19) (.cons (.var 20) (.cons (.var 21) (.cons (.var 22) (.cons (.var 23) (.cons (.var 24) (.cons (.var 25) (.cons (.var 26) (.cons (.var 27) (.cons (.var 28) (.cons (.var 29) (.cons (.var 30) (.cons (.var 31) (.cons (.var 32) (.cons (.var 33) (.cons (.var 34) (.cons (.var 35) (.cons (.var 36) (.cons (.var 37) (.cons (.var 38) (.cons (.var 39) (.cons (.var 40) (.cons (.var 41) (.cons (.var 42) (.cons (.var 43) (.cons (.var 44) (.cons (.var 45) (.cons (.var 46) (.cons (.var 47) (.cons (.var 48) (.cons (.var 49) (.cons (.var 50) (.cons (.var 51) (.cons (.var 52) (.cons (.var 53) (.cons (.var 54) (.cons (.var 55) (.cons (.var 56) (.cons (.var 57) (.cons (.var 58) (.cons (.var 59) (.cons (.var 60) (.cons (.var 61) (.cons (.var 62) (.cons (.var 63) (.cons (.var 64) (.cons (.var 65) (.cons (.var 66) (.cons (.var 67) (.cons (.var 68) (.cons (.var 69) (.cons (.var 70) (.cons (.var 71) (.cons (.var 72) (.cons (.var 73) .nil))))))))))))))))))))))))))))))))))))))))))))))))))))))))))))))))))))))))) .nil .nil)) (.num 0)))))
      (.ret (.w (.c (.b (.bol false))), ⟨[], [], 2532, 74, []⟩))
      (.split (.c1 .not (.c2 .beq (.fn 56 (.var 0) (.num 3) .nil) (.fn 56 (.var 0) (.num 3) .nil)))
       (.ret (.w (.c (.b (.bol false))), ⟨[], [], 3334, 74, []⟩))
       (.split (.c1 .not (.c2 .beq (.c1 .not (.c2 .eq (.wr .u8 (.fn 54 (.cons (.num 3) (.cons (.var 2) (.cons (.var 3) (.cons (.var 4) (.cons (.var 5) (.cons (.var 6) (.cons (.var 7) (.cons (.var 8) (.cons (.var 9) (.cons (.var 10) (.cons (.var 11) (.cons (.var 12) (.cons (.var 13) (.cons (.var 14) (.cons (.var 15) (.cons (.var 16) (.cons (.var 17) (.cons (.var 18) (.cons (.var 19) (.cons (.var 20) (.cons (.var 21) (.cons (.var 22) (.cons (.var 23) (.cons (.var 24) (.cons (.var 25) (.cons (.var 26) (.cons (.var 27) (.cons (.var 28) (.cons (.var 29) (.cons (.var 30) (.cons (.var 31) (.cons (.var 32) (.cons (.var 33) (.cons (.var 34) (.cons (.var 35) (.cons (.var 36) (.cons (.var 37) (.cons (.var 38) (.cons (.var 39) (.cons (.var 40) (.cons (.var 41) (.cons (.var 42) (.cons (.var 43) (.cons (.var 44) (.cons (.var 45) (.cons (.var 46) (.cons (.var 47) (.cons (.var 48) (.cons (.var 49) (.cons (.var 50) (.cons (.var 51) (.cons (.var 52) (.cons (.var 53) (.cons (.var 54) (.cons (.var 55) (.cons (.var 56) (.cons (.var 57) (.cons (.var 58) (.cons (.var 59) (.cons (.var 60) (.cons (.var 61) (.cons (.var 62) (.cons (.var 63) (.cons (.var 64) (.cons (.var 65) (.cons (.var 66) (.cons (.var 67) (.cons (.var 68) (.cons (.var 69) (.cons (.var 70) (.cons (.var 71) (.cons (.var 72) (.cons (.var 73) .nil))))))))))))))))))))))))))))))))))))))))))))))))))))))))))))))))))))))))) .nil .nil)) (.num 0))) (.c1 .not (.c2 .eq (.wr .u8 (.fn 54 (.cons (.num 3) (.cons (.var 2) (.cons (.var 3) (.cons (.var 4) (.cons (.var 5) (.cons (.var 6) (.cons (.var 7) (.cons (.var 8) (.cons (.var 9) (.cons (.var 10) (.cons (.var 11) (.cons (.var 12) (.cons (.var 13) (.cons (.var 14) (.cons (.var 15) (.cons (.var 16) (.cons (.var 17) (.cons (.var 18) (.cons (.var 19) (.cons (.var 20) (.cons (.var 21) (.cons (.var 22) (.cons (.var 23) (.cons (.var 24) (.cons (.var 25) (.cons (.var 26) (.cons (.var 27) (.cons (.var 28) (.cons (.var 29) (.cons (.var 30) (.cons (.var 31) (.cons (.var 32) (.cons (.var 33) (.cons (.var 34) (.cons (.var 35) (.cons (.var 36) (.cons (.var 37) (.cons (.var 38) (.cons (.var 39) (.cons (.var 40) (.cons (.var 41) (.cons (.var 42) (.cons (.var 43) (.cons (.var 44) (.cons (.var 45) (.cons (.var 46) (.cons (.var 47) (.cons (.var 48) (.cons (.var 49) (.cons (.var 50) (.cons (.var 51) (.cons (.var 52) (.cons (.var 53) (.cons (.var 54) (.cons (.var 55) (.cons (.var 56) (.cons (.var 57) (.cons (.var 58) (.cons (.var 59) (.cons (.var 60) (.cons (.var 61) (.cons (.var 62) (.cons (.var 63) (.cons (.var 64) (.cons (.var 65) (.cons (.var 66) (.cons (.var 67) (.cons (.var 68) (.cons (.var 69) (.cons (.var 70) (.cons (.var 71) (.cons (.var 72) (.cons (.var 73) .nil))))))))))))))))))))))))))))))))))))))))))))))))))))))))))))))))))))))))) .nil .nil)) (.num 0)))))
        (.ret (.w (.c (.b (.bol false))), ⟨[], [], 3375, 74, []⟩))
        (.split (.c1 .not (.c2 .beq (.fn 56 (.var 0) (.num 4) .nil) (.fn 56 (.var 0) (.num 4) .nil)))
         (.ret (.w (.c (.b (.bol false))), ⟨[], [], 4177, 74, []⟩))
         (.split (.c1 .not (.c2 .beq (.c1 .not (.c2 .eq (.wr .u8 (.fn 54 (.cons (.num 4) (.cons (.var 2) (.cons (.var 3) (.cons (.var 4) (.cons (.var 5) (.cons (.var 6) (.cons (.var 7) (.cons (.var 8) (.cons (.var 9) (.cons (.var 10) (.cons (.var 11) (.cons (.var 12) (.cons (.var 13) (.cons (.var 14) (.cons (.var 15) (.cons (.var 16) (.cons (.var 17) (.cons (.var 18) (.cons (.var 19) (.cons (.var 20) (.cons (.var 21) (.cons (.var 22) (.cons (.var 23) (.cons (.var 24) (.cons (.var 25) (.cons (.var 26) (.cons (.var 27) (.cons (.var 28) (.cons (.var 29) (.cons (.var 30) (.cons (.var 31) (.cons (.var 32) (.cons (.var 33) (.cons (.var 34) (.cons (.var 35) (.cons (.var 36) (.cons (.var 37) (.cons (.var 38) (.cons (.var 39) (.cons (.var 40) (.cons (.var 41) (.cons (.var 42) (.cons (.var 43) (.cons (.var 44) (.cons (.var 45) (.cons (.var 46) (.cons (.var 47) (.cons (.var 48) (.cons (.var 49) (.cons (.var 50) (.cons (.var 51) (.cons (.var 52) (.cons (.var 53) (.cons (.var 54) (.cons (.var 55) (.cons (.var 56) (.cons (.var 57) (.cons (.var 58) (.cons (.var 59) (.cons (.var 60) (.cons (.var 61) (.cons (.var 62) (.cons (.var 63) (.cons (.var 64) (.cons (.var 65) (.cons (.var 66) (.cons (.var 67) (.cons (.var 68) (.cons (.var 69) (.cons (.var 70) (.cons (.var 71) (.cons (.var 72) (.cons (.var 73) .nil))))))))))))))))))))))))))))))))))))))))))))))))))))))))))))))))))))))))) .nil .nil)) (.num 0))) (.c1 .not (.c2 .eq (.wr .u8 (.fn 54 (.cons (.num 4) (.cons (.var 2) (.cons (.var 3) (.cons (.var 4) (.cons (.var 5) (.cons (.var 6) (.cons (.var 7) (.cons (.var 8) (.cons (.var 9) (.cons (.var 10) (.cons (.var 11) (.cons (.var 12) (.cons (.var 13) (.cons (.var 14) (.cons (.var 15) (.cons (.var 16) (.cons (.var 17) (.cons (.var 18) (.cons (.var 19) (.cons (.var 20) (.cons (.var 21) (.cons (.var 22) (.cons (.var 23) (.cons (.var 24) (.cons (.var 25) (.cons (.var 26) (.cons (.var 27) (.cons (.var 28) (.cons (.var 29) (.cons (.var 30) (.cons (.var 31) (.cons (.var 32) (.cons (.var 33) (.cons (.var 34) (.cons (.var 35) (.cons (.var 36) (.cons (.var 37) (.cons (.var 38) (.cons (.var 39) (.cons (.var 40) (.cons (.var 41) (.cons (.var 42) (.cons (.var 43) (.cons (.var 44) (.cons (.var 45) (.cons (.var 46) (.cons (.var 47) (.cons (.var 48) (.cons (.var 49) (.cons (.var 50) (.cons (.var 51) (.cons (.var 52) (.cons (.var 53) (.cons (.var 54) (.cons (.var 55) (.cons (.var 56) (.cons (.var 57) (.cons (.var 58) (.cons (.var 59) (.cons (.var 60) (.cons (.var 61) (.cons (.var 62) (.cons (.var 63) (.cons (.var 64) (.cons (.var 65) (.cons (.var 66) (.cons (.var 67) (.cons (.var 68) (.cons (.var 69) (.cons (.var 70) (.cons (.var 71) (.cons (.var 72) (.cons (.var 73) .nil))))))))))))))))))))))))))))))))))))))))))))))))))))))))))))))))))))))))) .nil .nil)) (.num 0)))))
          (.ret (.w (.c (.b (.bol false))), ⟨[], [], 4218, 74, []⟩))
          (.split (.c1 .not (.c2 .beq (.fn 56 (.var 0) (.num 5) .nil) (.fn 56 (.var 0) (.num 5) .nil)))
           (.ret (.w (.c (.b (.bol false))), ⟨[], [], 5020, 74, []⟩))
           (.split (.c1 .not (.c2 .beq (.c1 .not (.c2 .eq (.wr .u8 (.fn 54 (.cons (.num 5) (.cons (.var 2) (.cons (.var 3) (.cons (.var 4) (.cons (.var 5) (.cons (.var 6) (.cons (.var 7) (.cons (.var 8) (.cons (.var 9) (.cons (.var 10) (.cons (.var 11) (.cons (.var 12) (.cons (.var 13) (.cons (.var 14) (.cons (.var 15) (.cons (.var 16) (.cons (.var 17) (.cons (.var 18) (.cons (.var 19) (.cons (.var 20) (.cons (.var 21) (.cons (.var 22) (.cons (.var 23) (.cons (.var 24) (.cons (.var 25) (.cons (.var 26) (.cons (.var 27) (.cons (.var 28) (.cons (.var 29) (.cons (.var 30) (.cons (.var 31) (.cons (.var 32) (.cons (.var 33) (.cons (.var 34) (.cons (.var 35) (.cons (.var 36) (.cons (.var 37) (.cons (.var 38) (.cons (.var 39) (.cons (.var 40) (.cons (.var 41) (.cons (.var 42) (.cons (.var 43) (.cons (.var 44) (.cons (.var 45) (.cons (.var 46) (.cons (.var 47) (.cons (.var 48) (.cons (.var 49) (.cons (.var 50) (.cons (.var 51) (.cons (.var 52) (.cons (.var 53) (.cons (.var 54) (.cons (.var 55) (.cons (.var 56) (.cons (.var 57) (.cons (.var 58) (.cons (.var 59) (.cons (.var 60) (.cons (.var 61) (.cons (.var 62) (.cons (.var 63) (.cons (.var 64) (.cons (.var 65) (.cons (.var 66) (.cons (.var 67) (.cons (.var 68) (.cons (.var 69) (.cons (.var 70) (.cons (.var 71) (.cons (.var 72) (.cons (.var 73) .nil))))))))))))))))))))))))))))))))))))))))))))))))))))))))))))))))))))))))) .nil .nil)) (.num 0))) (.c1 .not (.c2 .eq (.wr .u8 (.fn 54 (.cons (.num 5) (.cons (.var 2) (.cons (.var 3) (.cons (.var 4) (.cons (.var 5) (.cons (.var 6) (.cons (.var 7) (.cons (.var 8) (.cons (.var 9) (.cons (.var 10) (.cons (.var 11) (.cons (.var 12) (.cons (.var 13) (.cons (.var 14) (.cons (.var 15) (.cons (.var 16) (.cons (.var 17) (.cons (.var 18) (.cons (.var 19) (.cons (.var 20) (.cons (.var 21) (.cons (.var 22) (.cons (.var 23) (.cons (.var 24) (.cons (.var 25) (.cons (.var 26) (.cons (.var 27) (.cons (.var 28) (.cons (.var 29) (.cons (.var 30) (.cons (.var 31) (.cons (.var 32) (.cons (.var 33) (.cons (.var 34) (.cons (.var 35) (.cons (.var 36) (.cons (.var 37) (.cons (.var 38) (.cons (.var 39) (.cons (.var 40) (.cons (.var 41) (.cons (.var 42) (.cons (.var 43) (.cons (.var 44) (.cons (.var 45) (.cons (.var 46) (.cons (.var 47) (.cons (.var 48) (.cons (.var 49) (.cons (.var 50) (.cons (.var 51) (.cons (.var 52) (.cons (.var 53) (.cons (.var 54) (.cons (.var 55) (.cons (.var 56) (.cons (.var 57) (.cons (.var 58) (.cons (.var 59) (.cons (.var 60) (.cons (.var 61) (.cons (.var 62) (.cons (.var 63) (.cons (.var 64) (.cons (.var 65) (.cons (.var 66) (.cons (.var 67) (.cons (.var 68) (.cons (.var 69) (.cons (.var 70) (.cons (.var 71) (.cons (.var 72) (.cons (.var 73) .nil))))))))))))))))))))))))))))))))))))))))))))))))))))))))))))))))))))))))) .nil .nil)) (.num 0)))))
            (.ret (.w (.c (.b (.bol false))), ⟨[], [], 5061, 74, []⟩))
            (.split (.c1 .not (.c2 .beq (.fn 56 (.var 0) (.num 6) .nil) (.fn 56 (.var 0) (.num 6) .nil)))
             (.ret (.w (.c (.b (.bol false))), ⟨[], [], 5863, 74, []⟩))
             (.split (.c1 .not (.c2 .beq (.c1 .not (.c2 .eq (.wr .u8 (.fn 54 (.cons (.num 6) (.cons (.var 2) (.cons (.var 3) (.cons (.var 4) (.cons (.var 5) (.cons (.var 6) (.cons (.var 7) (.cons (.var 8) (.cons (.var 9) (.cons (.var 10) (.cons (.var 11) (.cons (.var 12) (.cons (.var 13) (.cons (.var 14) (.cons (.var 15) (.cons (.var 16) (.cons (.var 17) (.cons (.var 18) (.cons (.var 19) (.cons (.var 20) (.cons (.var 21) (.cons (.var 22) (.cons (.var 23) (.cons (.var 24) (.cons (.var 25) (.cons (.var 26) (.cons (.var 27) (.cons (.var 28) (.cons (.var 29) (.cons (.var 30) (.cons (.var 31) (.cons (.var 32) (.cons (.var 33) (.cons (.var 34) (.cons (.var 35) (.cons (.var 36) (.cons (.var 37) (.cons (.var 38) (.cons (.var 39) (.cons (.var 40) (.cons (.var 41) (.cons (.var 42) (.cons (.var 43) (.cons (.var 44) (.cons (.var 45) (.cons (.var 46) (.cons (.var 47) (.cons (.var 48) (.cons (.var 49) (.cons (.var 50) (.cons (.var 51) (.cons (.var 52) (.cons (.var 53) (.cons (.var 54) (.cons (.var 55) (.cons (.var 56) (.cons (.var 57) (.cons (.var 58) (.cons (.var 59) (.cons (.var 60) (.cons (.var 61) (.cons (.var 62) (.cons (.var 63) (.cons (.var 64) (.cons (.var 65) (.cons (.var 66) (.cons (.var 67) (.cons (.var 68) (.cons (.var 69) (.cons (.var 70) (.cons (.var 71) (.cons (.var 72) (.cons (.var 73) .nil))))))))))))))))))))))))))))))))))))))))))))))))))))))))))))))))))))))))) .nil .nil)) (.num 0))) (.c1 .not (.c2 .eq (.wr .u8 (.fn 54 (.cons (.num 6) (.cons (.var 2) (.cons (.var 3) (.cons (.var 4) (.cons (.var 5) (.cons (.var 6) (.cons (.var 7) (.cons (.var 8) (.cons (.var 9) (.cons (.var 10) (.cons (.var 11) (.cons (.var 12) (.cons (.var 13) (.cons (.var 14) (.cons (.var 15) (.cons (.var 16) (.cons (.var 17) (.cons (.var 18) (.cons (.var 19) (.cons (.var 20) (.cons (.var 21) (.cons (.var 22) (.cons (.var 23) (.cons (.var 24) (.cons (.var 25) (.cons (.var 26) (.cons (.var 27) (.cons (.var 28) (.cons (.var 29) (.cons (.var 30) (.cons (.var 31) (.cons (.var 32) (.cons (.var 33) (.cons (.var 34) (.cons (.var 35) (.cons (.var 36) (.cons (.var 37) (.cons (.var 38) (.cons (.var 39) (.cons (.var 40) (.cons (.var 41) (.cons (.var 42) (.cons (.var 43) (.cons (.var 44) (.cons (.var 45) (.cons (.var 46) (.cons (.var 47) (.cons (.var 48) (.cons (.var 49) (.cons (.var 50) (.cons (.var 51) (.cons (.var 52) (.cons (.var 53) (.cons (.var 54) (.cons (.var 55) (.cons (.var 56) (.cons (.var 57) (.cons (.var 58) (.cons (.var 59) (.cons (.var 60) (.cons (.var 61) (.cons (.var 62) (.cons (.var 63) (.cons (.var 64) (.cons (.var 65) (.cons (.var 66) (.cons (.var 67) (.cons (.var 68) (.cons (.var 69) (.cons (.var 70) (.cons (.var 71) (.cons (.var 72) (.cons (.var 73) .nil))))))))))))))))))))))))))))))))))))))))))))))))))))))))))))))))))))))))) .nil .nil)) (.num 0)))))
              (.ret (.w (.c (.b (.bol false))), ⟨[], [], 5904, 74, []⟩))
              (.split (.c1 .not (.c2 .beq (.fn 56 (.var 0) (.num 7) .nil) (.fn 56 (.var 0) (.num 7) .nil)))
               (.ret (.w (.c (.b (.bol false))), ⟨[], [], 6706, 74, []⟩))
               (.split (.c1 .not (.c2 .beq (.c1 .not (.c2 .eq (.wr .u8 (.fn 54 (.cons (.num 7) (.cons (.var 2) (.cons (.var 3) (.cons (.var 4) (.cons (.var 5) (.cons (.var 6) (.cons (.var 7) (.cons (.var 8) (.cons (.var 9) (.cons (.var 10) (.cons (.var 11) (.cons (.var 12) (.cons (.var 13) (.cons (.var 14) (.cons (.var 15) (.cons (.var 16) (.cons (.var 17) (.cons (.var 18) (.cons (.var 19) (.cons (.var 20) (.cons (.var 21) (.cons (.var 22) (.cons (.var 23) (.cons (.var 24) (.cons (.var 25) (.cons (.var 26) (.cons (.var 27) (.cons (.var 28) (.cons (.var 29) (.cons (.var 30) (.cons (.var 31) (.cons (.var 32) (.cons (.var 33) (.cons (.var 34) (.cons (.var 35) (.cons (.var 36) (.cons (.var 37) (.cons (.var 38) (.cons (.var 39) (.cons (.var 40) (.cons (.var 41) (.cons (.var 42) (.cons (.var 43) (.cons (.var 44) (.cons (.var 45) (.cons (.var 46) (.cons (.var 47) (.cons (.var 48) (.cons (.var 49) (.cons (.var 50) (.cons (.var 51) (.cons (.var 52) (.cons (.var 53) (.cons (.var 54) (.cons (.var 55) (.cons (.var 56) (.cons (.var 57) (.cons (.var 58) (.cons (.var 59) (.cons (.var 60) (.cons (.var 61) (.cons (.var 62) (.cons (.var 63) (.cons (.var 64) (.cons (.var 65) (.cons (.var 66) (.cons (.var 67) (.cons (.var 68) (.cons (.var 69) (.cons (.var 70) (.cons (.var 71) (.cons (.var 72) (.cons (.var 73) .nil))))))))))))))))))))))))))))))))))))))))))))))))))))))))))))))))))))))))) .nil .nil)) (.num 0))) (.c1 .not (.c2 .eq (.wr .u8 (.fn 54 (.cons (.num 7) (.cons (.var 2) (.cons (.var 3) (.cons (.var 4) (.cons (.var 5) (.cons (.var 6) (.cons (.var 7) (.cons (.var 8) (.cons (.var 9) (.cons (.var 10) (.cons (.var 11) (.cons (.var 12) (.cons (.var 13) (.cons (.var 14) (.cons (.var 15) (.cons (.var 16) (.cons (.var 17) (.cons (.var 18) (.cons (.var 19) (.cons (.var 20) (.cons (.var 21) (.cons (.var 22) (.cons (.var 23) (.cons (.var 24) (.cons (.var 25) (.cons (.var 26) (.cons (.var 27) (.cons (.var 28) (.cons (.var 29) (.cons (.var 30) (.cons (.var 31) (.cons (.var 32) (.cons (.var 33) (.cons (.var 34) (.cons (.var 35) (.cons (.var 36) (.cons (.var 37) (.cons (.var 38) (.cons (.var 39) (.cons (.var 40) (.cons (.var 41) (.cons (.var 42) (.cons (.var 43) (.cons (.var 44) (.cons (.var 45) (.cons (.var 46) (.cons (.var 47) (.cons (.var 48) (.cons (.var 49) (.cons (.var 50) (.cons (.var 51) (.cons (.var 52) (.cons (.var 53) (.cons (.var 54) (.cons (.var 55) (.cons (.var 56) (.cons (.var 57) (.cons (.var 58) (.cons (.var 59) (.cons (.var 60) (.cons (.var 61) (.cons (.var 62) (.cons (.var 63) (.cons (.var 64) (.cons (.var 65) (.cons (.var 66) (.cons (.var 67) (.cons (.var 68) (.cons (.var 69) (.cons (.var 70) (.cons (.var 71) (.cons (.var 72) (.cons (.var 73) .nil))))))))))))))))))))))))))))))))))))))))))))))))))))))))))))))))))))))))) .nil .nil)) (.num 0)))))
                (.ret (.w (.c (.b (.bol false))), ⟨[], [], 6747, 74, []⟩))
                (.split (.c1 .not (.c2 .beq (.fn 56 (.var 0) (.num 8) .nil) (.fn 56 (.var 0) (.num 8) .nil)))
                 (.ret (.w (.c (.b (.bol false))), ⟨[], [], 7549, 74, []⟩))
                 (.split (.c1 .not (.c2 .beq (.c1 .not (.c2 .eq (.wr .u8 (.fn 54 (.cons (.num 8) (.cons (.var 2) (.cons (.var 3) (.cons (.var 4) (.cons (.var 5) (.cons (.var 6) (.cons (.var 7) (.cons (.var 8) (.cons (.var 9) (.cons (.var 10) (.cons (.var 11) (.cons (.var 12) (.cons (.var 13) (.cons (.var 14) (.cons (.var 15) (.cons (.var 16) (.cons (.var 17) (.cons (.var 18) (.cons (.var 19) (.cons (.var 20) (.cons (.var 21) (.cons (.var 22) (.cons (.var 23) (.cons (.var 24) (.cons (.var 25) (.cons (.var 26) (.cons (.var 27) (.cons (.var 28) (.cons (.var 29) (.cons (.var 30) (.cons (.var 31) (.cons (.var 32) (.cons (.var 33) (.cons (.var 34) (.cons (.var 35) (.cons (.var 36) (.cons (.var 37) (.cons (.var 38) (.cons (.var 39) (.cons (.var 40) (.cons (.var 41) (.cons (.var 42) (.cons (.var 43) (.cons (.var 44) (.cons (.var 45) (.cons (.var 46) (.cons (.var 47) (.cons (.var 48) (.cons (.var 49) (.cons (.var 50) (.cons (.var 51) (.cons (.var 52) (.cons (.var 53) (.cons (.var 54) (.cons (.var 55) (.cons (.var 56) (.cons (.var 57) (.cons (.var 58) (.cons (.var 59) (.cons (.var 60) (.cons (.var 61) (.cons (.var 62) (.cons (.var 63) (.cons (.var 64) (.cons (.var 65) (.cons (.var 66) (.cons (.var 67) (.cons (.var 68) (.cons (.var 69) (.cons (.var 70) (.cons (.var 71) (.cons (.var 72) (.cons (.var 73) .nil))))))))))))))))))))))))))))))))))))))))))))))))))))))))))))))))))))))))) .nil .nil)) (.num 0))) (.c1 .not (.c2 .eq (.wr .u8 (.fn 54 (.cons (.num 8) (.cons (.var 2) (.cons (.var 3) (.cons (.var 4) (.cons (.var 5) (.cons (.var 6) (.cons (.var 7) (.cons (.var 8) (.cons (.var 9) (.cons (.var 10) (.cons (.var 11) (.cons (.var 12) (.cons (.var 13) (.cons (.var 14) (.cons (.var 15) (.cons (.var 16) (.cons (.var 17) (.cons (.var 18) (.cons (.var 19) (.cons (.var 20) (.cons (.var 21) (.cons (.var 22) (.cons (.var 23) (.cons (.var 24) (.cons (.var 25) (.cons (.var 26) (.cons (.var 27) (.cons (.var 28) (.cons (.var 29) (.cons (.var 30) (.cons (.var 31) (.cons (.var 32) (.cons (.var 33) (.cons (.var 34) (.cons (.var 35) (.cons (.var 36) (.cons (.var 37) (.cons (.var 38) (.cons (.var 39) (.cons (.var 40) (.cons (.var 41) (.cons (.var 42) (.cons (.var 43) (.cons (.var 44) (.cons (.var 45) (.cons (.var 46) (.cons (.var 47) (.cons (.var 48) (.cons (.var 49) (.cons (.var 50) (.cons (.var 51) (.cons (.var 52) (.cons (.var 53) (.cons (.var 54) (.cons (.var 55) (.cons (.var 56) (.cons (.var 57) (.cons (.var 58) (.cons (.var 59) (.cons (.var 60) (.cons (.var 61) (.cons (.var 62) (.cons (.var 63) (.cons (.var 64) (.cons (.var 65) (.cons (.var 66) (.cons (.var 67) (.cons (.var 68) (.cons (.var 69) (.cons (.var 70) (.cons (.var 71) (.cons (.var 72) (.cons (.var 73) .nil))))))))))))))))))))))))))))))))))))))))))))))))))))))))))))))))))))))))) .nil .nil)) (.num 0)))))
                  (.ret (.w (.c (.b (.bol false))), ⟨[], [], 7590, 74, []⟩))
                  (.split (.c2 .beq (.c1 .not (.c2 .eq (.wr .u8 (.fn 54 (.cons (.var 1) (.cons (.var 2) (.cons (.var 3) (.cons (.var 4) (.cons (.var 5) (.cons (.var 6) (.cons (.var 7) (.cons (.var 8) (.cons (.var 9) (.cons (.var 10) (.cons (.var 11) (.cons (.var 12) (.cons (.var 13) (.cons (.var 14) (.cons (.var 15) (.cons (.var 16) (.cons (.var 17) (.cons (.var 18) (.cons (.var 19) (.cons (.var 20) (.cons (.var 21) (.cons (.var 22) (.cons (.var 23) (.cons (.var 24) (.cons (.var 25) (.cons (.var 26) (.cons (.var 27) (.cons (.var 28) (.cons (.var 29) (.cons (.var 30) (.cons (.var 31) (.cons (.var 32) (.cons (.var 33) (.cons (.var 34) (.cons (.var 35) (.cons (.var 36) (.cons (.var 37) (.cons (.var 38) (.cons (.var 39) (.cons (.var 40) (.cons (.var 41) (.cons (.var 42) (.cons (.var 43) (.cons (.var 44) (.cons (.var 45) (.cons (.var 46) (.cons (.var 47) (.cons (.var 48) (.cons (.var 49) (.cons (.var 50) (.cons (.var 51) (.cons (.var 52) (.cons (.var 53) (.cons (.var 54) (.cons (.var 55) (.cons (.var 56) (.cons (.var 57) (.cons (.var 58) (.cons (.var 59) (.cons (.var 60) (.cons (.var 61) (.cons (.var 62) (.cons (.var 63) (.cons (.var 64) (.cons (.var 65) (.cons (.var 66) (.cons (.var 67) (.cons (.var 68) (.cons (.var 69) (.cons (.var 70) (.cons (.var 71) (.cons (.var 72) (.cons (.var 73) .nil))))))))))))))))))))))))))))))))))))))))))))))))))))))))))))))))))))))))) .nil .nil)) (.num 0))) (.c1 .not (.c2 .eq (.wr .u8 (.fn 54 (.cons (.var 1) (.cons (.var 2) (.cons (.var 3) (.cons (.var 4) (.cons (.var 5) (.cons (.var 6) (.cons (.var 7) (.cons (.var 8) (.cons (.var 9) (.cons (.var 10) (.cons (.var 11) (.cons (.var 12) (.cons (.var 13) (.cons (.var 14) (.cons (.var 15) (.cons (.var 16) (.cons (.var 17) (.cons (.var 18) (.cons (.var 19) (.cons (.var 20) (.cons (.var 21) (.cons (.var 22) (.cons (.var 23) (.cons (.var 24) (.cons (.var 25) (.cons (.var 26) (.cons (.var 27) (.cons (.var 28) (.cons (.var 29) (.cons (.var 30) (.cons (.var 31) (.cons (.var 32) (.cons (.var 33) (.cons (.var 34) (.cons (.var 35) (.cons (.var 36) (.cons (.var 37) (.cons (.var 38) (.cons (.var 39) (.cons (.var 40) (.cons (.var 41) (.cons (.var 42) (.cons (.var 43) (.cons (.var 44) (.cons (.var 45) (.cons (.var 46) (.cons (.var 47) (.cons (.var 48) (.cons (.var 49) (.cons (.var 50) (.cons (.var 51) (.cons (.var 52) (.cons (.var 53) (.cons (.var 54) (.cons (.var 55) (.cons (.var 56) (.cons (.var 57) (.cons (.var 58) (.cons (.var 59) (.cons (.var 60) (.cons (.var 61) (.cons (.var 62) (.cons (.var 63) (.cons (.var 64) (.cons (.var 65) (.cons (.var 66) (.cons (.var 67) (.cons (.var 68) (.cons (.var 69) (.cons (.var 70) (.cons (.var 71) (.cons (.var 72) (.cons (.var 73) .nil))))))))))))))))))))))))))))))))))))))))))))))))))))))))))))))))))))))))) .nil .nil)) (.num 0))))
                   (.ret (.w (.c (.b (.bol true))), ⟨[], [], 12632, 74, []⟩))
                   (.ret (.w (.c (.b (.bol false))), ⟨[], [], 7630, 74, []⟩)))))))))))))))))))))
theorem treePwWheres_is : funTree (ctxN Go.Proofs.Try.prog annsWh consWh 8) annsWh 4 tWheres.vs tWheres.bs tWheres.n (preF tWheres.res) = treePwWheres := by kernel_rfl
end Go.Proofs.Ytbiodlomlendkaa.Sx
/- Sx laws of peeling: where a header stands: contracts; the statement on places. Conditions: none. -/
set_option linter.unusedVariables false
set_option linter.unusedSimpArgs false
namespace Go.Proofs.Ytbiodlomlendkaa.Sx
open Go
section
variable {ρ ρ' : Env}
theorem leaf_wh {n nv : Nat} {w : WhR} {ta tn tb te : T} (hw : whOf (ρ 0).list (ρ 1).int = w) (h1 : (T.den ΦP ρ' ta).int = w.a) (h2 : (T.den ΦP ρ' tn).int = w.n) (h3 : (T.den ΦP ρ' tb).bool = w.b) (h4 : (T.den ΦP ρ' te).int = w.e) (hn : n ≤ 400) :
    Leaf ΦP ρ ρ' ⟨.t [.g [.i .i64 (whT 55 (.var 0) (.var 1)), .i .i64 (whT 58 (.var 0) (.var 1))], .c (.b (whT 56 (.var 0) (.var 1))), .c (.i .i64 (whT 57 (.var 0) (.var 1)))], [], 400⟩ (.t [.g [.i .i64 ta, .i .i64 tn], .c (.b tb), .c (.i .i64 te)], ⟨[], [], n, nv, []⟩) := by
  subst hw
  exact ⟨⟨⟨⟨rfl, h1⟩, ⟨rfl, h2⟩, trivial⟩, h3, ⟨rfl, h4⟩, trivial⟩, trivial, hn⟩
theorem wh_no {p : List Int} {k : Int} (h : k < 1 ∨ 6 < k) : whOf p k = ⟨0, 0, false, 120⟩ := by rw [whOf, if_pos h]
theorem wh_err {p : List Int} {k : Int} (h1 : 1 ≤ k) (h2 : k ≤ 6) (h : ¬ (peelOf p).2.2 = 0) : whOf p k = ⟨0, 0, false, (peelOf p).2.2⟩ := by rw [whOf, if_neg (by omega), if_neg h]
theorem wh_yes {p : List Int} {k : Int} {m i at_ : Nat} (h1 : 1 ≤ k) (h2 : k ≤ 6) (h : (peelOf p).2.2 = 0) (hl : (peelOf p).1.length = 73 * m) (hi : i < m) (hg : whGo (peelOf p).1 k m 0 0 = whGo (peelOf p).1 k (m - i) i at_) (hk : (peelOf p).1[73 * i]?.getD 0 = k) : whOf p k = ⟨at_, hdSize k.toNat, true, 0⟩ := by
  obtain ⟨n, hn⟩ : ∃ n, m - i = n + 1 := ⟨m - i - 1, by omega⟩
  rw [whOf, if_neg (by omega), if_pos h, hl, show 73 * m / 73 = m from by omega, hg, hn, whGo, if_pos hk]; rfl
theorem wh_none {p : List Int} {k : Int} {m i at_ : Nat} (h1 : 1 ≤ k) (h2 : k ≤ 6) (h : (peelOf p).2.2 = 0) (hl : (peelOf p).1.length = 73 * m) (hi : m ≤ i) (hg : whGo (peelOf p).1 k m 0 0 = whGo (peelOf p).1 k (m - i) i at_) : whOf p k = ⟨0, 0, false, 0⟩ := by
  rw [whOf, if_neg (by omega), if_pos h, hl, show 73 * m / 73 = m from by omega, hg, show m - i = 0 from by omega, whGo]; rfl
theorem kind_zero {Φ : Sig} (k0 : 0 ≤ (ρ 1).int) (h : (ρ 1).int ≤ 6) (h2 : (T.den Φ ρ (.c2 .rd (.cons (.num 0) (.cons (.num 14) (.cons (.num 4) (.cons (.num 20) (.cons (.num 40) (.cons (.num 20) (.cons (.num 8) .nil))))))) (.var 1))).int = 0) : (ρ 1).int < 1 := by
  obtain ⟨q, hq⟩ := Int.eq_ofNat_of_zero_le k0
  rw [int_rd, den_var, hq] at h2
  by_cases hz : q = 0
  · omega
  · have := sizes_rd (k := q) (by omega)
    have h2 : ([0, 14, 4, 20, 40, 20, 8] : List Int)[q]?.getD 0 = 0 := h2
    rw [this] at h2
    have : 0 < hdSize q := by
      have : q = 1 ∨ q = 2 ∨ q = 3 ∨ q = 4 ∨ q = 5 ∨ q = 6 := by omega
      rcases this with rfl | rfl | rfl | rfl | rfl | rfl <;> decide
    omega
theorem kind_one {Φ : Sig} (k0 : 0 ≤ (ρ 1).int) (h : (ρ 1).int ≤ 6) (h2 : ¬ (T.den Φ ρ (.c2 .rd (.cons (.num 0) (.cons (.num 14) (.cons (.num 4) (.cons (.num 20) (.cons (.num 40) (.cons (.num 20) (.cons (.num 8) .nil))))))) (.var 1))).int = (T.den Φ ρ (.num 0)).int) : 1 ≤ (ρ 1).int := by
  rcases Int.lt_or_le (ρ 1).int 1 with h1 | h1
  · exfalso
    apply h2
    rw [int_rd, den_var, show (ρ 1).int = 0 from by omega]; rfl
  · exact h1
theorem sizes_add {q at_ : Nat} (hq : 1 ≤ q ∧ q ≤ 6) : (at_ : Int) + ([0, 14, 4, 20, 40, 20, 8] : List Int)[((q : Nat) : Int).toNat]?.getD 0 = ((at_ + hdSize q : Nat) : Int) := by
  rw [Int.toNat_natCast, sizes_rd hq]; omega
end
def whJ : Inv := ⟨fun _ ρ ds => ∃ i m a : Nat, (nthD ds 1).int = i ∧ (nthD ds 0).int = a ∧ (peelOf (ρ 0).list).1.length = 73 * m ∧ i ≤ m ∧ szSum (peelOf (ρ 0).list).1 i = a ∧ whGo (peelOf (ρ 0).list).1 (ρ 1).int m 0 0 = whGo (peelOf (ρ 0).list).1 (ρ 1).int (m - i) i a, fun _ ρ ds => (peelOf (ρ 0).list).1.length - (nthD ds 1).int.toNat⟩
set_option maxRecDepth 100000 in
theorem where_ok : TmplOk Go.Proofs.Try.prog ΦP 16 tWhere := by
  refine tmpl_of consPl0_ok treePwWhere_is (fun ρ res hres => ⟨whJ, ?_⟩)
  obtain ⟨h0, hres⟩ := short_some hres
  obtain ⟨hb, hres⟩ := bytes_some hres
  obtain ⟨k0, k1, hres⟩ := inR_some hres
  obtain rfl := ret_some hres
  refine ⟨fun a => ?_, fun a => ⟨fun b => ?_, fun b => ⟨fun c => ?_, fun c => ?_⟩⟩⟩
  · rw [lt_t, den_var] at a
    exact leaf_wh (wh_no (.inl a)) rfl rfl rfl rfl (by decide)
  · rw [lt_t, den_var] at b
    exact leaf_wh (wh_no (.inr b)) rfl rfl rfl rfl (by decide)
  rotate_left
  · rw [lt_f, den_var] at a b
    rw [eq_f, pl51] at c
    exact leaf_wh (wh_err a b c) rfl rfl rfl rfl (by decide)
  rw [lt_f, den_var] at a b
  replace a : 1 ≤ (ρ 1).int := a
  replace b : (ρ 1).int ≤ 6 := b
  rw [eq_t, pl51] at c
  obtain ⟨m, hm⟩ := pl_ok hb c
  have hn := hm.num
  have hlen := hm.peeled.len
  have hmost := hm.most
  refine ⟨?_, ?_, ?_, ?_, ?_, ?_, ⟨0, m, 0, rfl, rfl, hlen, Nat.zero_le _, rfl, rfl⟩, ?_⟩
  · rw [le_t, hn]; show (1 : Int) ≤ m; have := hm.one; omega
  · rw [le_t, hn]; show (m : Int) ≤ 8; omega
  · rw [eq_t, int_len, pl50, int_mul, hn, hlen]; show ((73 * m : Nat) : Int) = m * 73; omega
  · exact hm.peeled.kin
  · rw [bytes_t, pl53]; exact hm.rest
  · rw [le_t, int_len, int_len, pl53, List.length_drop, den_var]; omega
  rintro ds hds ⟨i, m', at_, hi, ha, hm', him, hs, hgo⟩
  obtain rfl : m' = m := by omega
  have e0 : upd ρ 2 ds 0 = ρ 0 := upd_lo ds (by decide)
  have e1 : upd ρ 2 ds 1 = ρ 1 := upd_lo ds (by decide)
  have e2 : upd ρ 2 ds 2 = nthD ds 0 := upd_at (i := 0) (by omega)
  have e3 : upd ρ 2 ds 3 = nthD ds 1 := upd_at (i := 1) (by omega)
  generalize upd ρ 2 ds = ρ1 at *
  have v1 : (ρ1 1).int = (ρ 1).int := by rw [e1]
  have v2 : (ρ1 2).int = at_ := by rw [e2]; exact ha
  have v3 : (ρ1 3).int = i := by rw [e3]; exact hi
  have w52 : (T.den ΦP ρ1 (.fn 52 (.var 0) .nil .nil)).int = m' := pl52 (by rw [e0]; exact hlen)
  have w50 : (T.den ΦP ρ1 (.fn 50 (.var 0) .nil .nil)).list = (peelOf (ρ 0).list).1 := by rw [pl50, e0]
  have hx : (T.den ΦP ρ1 (.c2 .mul (.var 3) (.num 73))).int = ((73 * i : Nat) : Int) := by rw [int_mul, den_var, v3]; show (i : Int) * 73 = _; omega
  have hrd : (T.den ΦP ρ1 (.c2 .rd (.fn 50 (.var 0) .nil .nil) (.c2 .mul (.var 3) (.num 73)))).int = (peelOf (ρ 0).list).1[73 * i]?.getD 0 := by rw [int_rd, w50, hx, Int.toNat_natCast]
  have hle := szSum_le (peelOf (ρ 0).list).1 i
  refine ⟨?_, fun d => ⟨?_, fun f => ?_, fun f => ?_⟩, fun d => ?_⟩
  · intro t p hmm
    simp only [List.mem_cons, Prod.mk.injEq, List.not_mem_nil, or_false] at hmm
    rcases hmm with ⟨rfl, rfl⟩ | ⟨rfl, rfl⟩ | ⟨rfl, rfl⟩
    · rw [le_t, den_var, v2]; exact Int.natCast_nonneg _
    · rw [le_t, den_var, v2]; show (at_ : Int) ≤ 320; omega
    · rw [le_t, den_var, v3]; exact Int.natCast_nonneg _
  · rw [lt_t, den_var, v3, w52] at d
    rw [le_t, int_add, hx, int_len, w50, hlen]; show ((73 * i : Nat) : Int) + 73 ≤ _; omega
  · rw [lt_t, den_var, v3, w52] at d
    rw [eq_t, hrd, den_var, v1] at f
    have hw := wh_yes a b c hlen (i := i) (at_ := at_) (by omega) hgo f
    refine ⟨fun q => ?_, fun q1 => ?_⟩
    · rw [eq_t, den_var, v1] at q
      refine leaf_wh hw v2 ?_ rfl rfl (by decide)
      rw [q]; rfl
    refine ⟨fun q => ?_, fun q2 => ?_⟩
    · rw [eq_t, den_var, v1] at q
      refine leaf_wh hw v2 ?_ rfl rfl (by decide)
      rw [q]; rfl
    refine ⟨fun q => ?_, fun q3 => ?_⟩
    · rw [eq_t, den_var, v1] at q
      refine leaf_wh hw v2 ?_ rfl rfl (by decide)
      rw [q]; rfl
    refine ⟨fun q => ?_, fun q4 => ?_⟩
    · rw [eq_t, den_var, v1] at q
      refine leaf_wh hw v2 ?_ rfl rfl (by decide)
      rw [q]; rfl
    refine ⟨fun q => ?_, fun q5 => ?_⟩
    · rw [eq_t, den_var, v1] at q
      refine leaf_wh hw v2 ?_ rfl rfl (by decide)
      rw [q]; rfl
    refine ⟨fun q => ?_, fun q6 => ?_⟩
    · rw [eq_t, den_var, v1] at q
      refine leaf_wh hw v2 ?_ rfl rfl (by decide)
      rw [q]; rfl
    exfalso
    rw [eq_f, den_var, v1] at q1
    rw [eq_f, den_var, v1] at q2
    rw [eq_f, den_var, v1] at q3
    rw [eq_f, den_var, v1] at q4
    rw [eq_f, den_var, v1] at q5
    rw [eq_f, den_var, v1] at q6
    have h6 : ¬ (ρ 1).int = 1 ∧ ¬ (ρ 1).int = 2 ∧ ¬ (ρ 1).int = 3 ∧ ¬ (ρ 1).int = 4 ∧ ¬ (ρ 1).int = 5 ∧ ¬ (ρ 1).int = 6 := ⟨q1, q2, q3, q4, q5, q6⟩
    omega
  · rw [lt_t, den_var, v3, w52] at d
    rw [eq_f, hrd, den_var, v1] at f
    have hk := hm.peeled.kind i (by omega)
    have w : (T.den ΦP ρ1 (.wr .i64 (.c2 .add (.var 3) (.num 1)))).int = ((i + 1 : Nat) : Int) := by
      rw [int_wr, int_add, den_var, v3]
      show IntKind.i64.wrap ((i : Int) + 1) = _
      rw [wrap_is (by simp only [kmin]; omega) (by simp only [kmax]; omega)]; rfl
    have back : ∀ (t : T) (B : BK), (T.den ΦP ρ1 t).int = ((at_ + hdSize ((peelOf (ρ 0).list).1[73 * i]?.getD 0).toNat : Nat) : Int) → M.ok (α := V × St) ΦP whJ (.back 0 2 [t, (.wr .i64 (.c2 .add (.var 3) (.num 1)))]) (BK.at_ B 2 fun ds' => whJ.I 0 ρ ds' ∧ whJ.μ 0 ρ ds' < whJ.μ 0 ρ ds) ρ1 (fun _ ρ' r => Leaf ΦP ρ ρ' ⟨.t [.g [.i .i64 (whT 55 (.var 0) (.var 1)), .i .i64 (whT 58 (.var 0) (.var 1))], .c (.b (whT 56 (.var 0) (.var 1))), .c (.i .i64 (whT 57 (.var 0) (.var 1)))], [], 400⟩ r) := by
      intro t B ht
      refine ok_back ⟨⟨i + 1, m', _, w, ht, hlen, by omega, by rw [szSum, hs], ?_⟩, ?_⟩
      · rw [hgo]
        obtain ⟨n, hn'⟩ : ∃ n, m' - i = n + 1 := ⟨m' - i - 1, by omega⟩
        rw [hn', whGo, if_neg f, show m' - (i + 1) = n from by omega]
      · show (peelOf (ρ 0).list).1.length - (T.den ΦP ρ1 (.wr .i64 (.c2 .add (.var 3) (.num 1)))).int.toNat < (peelOf (ρ 0).list).1.length - (nthD ds 1).int.toNat
        rw [w, hi, hlen]; omega
    obtain ⟨q, hq⟩ := Int.eq_ofNat_of_zero_le (show 0 ≤ (peelOf (ρ 0).list).1[73 * i]?.getD 0 by omega)
    rw [hq] at back hrd hk
    simp only [Int.toNat_natCast] at back
    refine ⟨?_, fun z => ?_, fun z => ?_⟩
    · rw [lt_t, hrd]; show (q : Int) < 7; omega
    · exfalso; rw [eq_t, hrd] at z; have : (q : Int) = 0 := z; omega
    refine ⟨fun z => ?_, fun z1 => ?_⟩
    · rw [eq_t, hrd] at z
      obtain rfl : q = 1 := by have : (q : Int) = 1 := z; omega
      refine back _ _ ?_
      rw [int_add, den_var, v2]; rfl
    refine ⟨fun z => ?_, fun z2 => ?_⟩
    · rw [eq_t, hrd] at z
      obtain rfl : q = 2 := by have : (q : Int) = 2 := z; omega
      refine back _ _ ?_
      rw [int_add, den_var, v2]; rfl
    refine ⟨fun z => ?_, fun z3 => ?_⟩
    · rw [eq_t, hrd] at z
      obtain rfl : q = 3 := by have : (q : Int) = 3 := z; omega
      refine back _ _ ?_
      rw [int_add, den_var, v2]; rfl
    refine ⟨fun z => ?_, fun z4 => ?_⟩
    · rw [eq_t, hrd] at z
      obtain rfl : q = 4 := by have : (q : Int) = 4 := z; omega
      refine back _ _ ?_
      rw [int_add, den_var, v2]; rfl
    refine ⟨fun z => ?_, fun z5 => ?_⟩
    · rw [eq_t, hrd] at z
      obtain rfl : q = 5 := by have : (q : Int) = 5 := z; omega
      refine back _ _ ?_
      rw [int_add, den_var, v2]; rfl
    refine ⟨fun z => ?_, fun z6 => ?_⟩
    · rw [eq_t, hrd] at z
      obtain rfl : q = 6 := by have : (q : Int) = 6 := z; omega
      refine back _ _ ?_
      rw [int_add, den_var, v2]; rfl
    exfalso
    rw [eq_f, hrd] at z1
    rw [eq_f, hrd] at z2
    rw [eq_f, hrd] at z3
    rw [eq_f, hrd] at z4
    rw [eq_f, hrd] at z5
    rw [eq_f, hrd] at z6
    have h6 : ¬ (q : Int) = 1 ∧ ¬ (q : Int) = 2 ∧ ¬ (q : Int) = 3 ∧ ¬ (q : Int) = 4 ∧ ¬ (q : Int) = 5 ∧ ¬ (q : Int) = 6 := ⟨z1, z2, z3, z4, z5, z6⟩
    omega
  · rw [lt_f, den_var, v3, w52] at d
    exact leaf_wh (wh_none a b c hlen (i := i) (at_ := at_) (by omega) hgo) rfl rfl rfl rfl (by decide)
set_option maxRecDepth 100000 in
theorem whereR_ok : TmplOk Go.Proofs.Try.prog ΦP 17 tWhere := by
  refine tmpl_of consPl0_ok treePwWhereR_is (fun ρ res hres => ⟨whJ, ?_⟩)
  obtain ⟨h0, hres⟩ := short_some hres
  obtain ⟨hb, hres⟩ := bytes_some hres
  obtain ⟨k0, k1, hres⟩ := inR_some hres
  obtain rfl := ret_some hres
  refine ⟨fun b => ?_, fun b => ⟨fun a => ?_, fun a => ⟨fun c => ?_, fun c => ?_⟩⟩⟩
  · rw [lt_t, den_var] at b
    exact leaf_wh (wh_no (.inr b)) rfl rfl rfl rfl (by decide)
  · rw [lt_f, den_var] at b
    rw [eq_t] at a
    exact leaf_wh (wh_no (.inl (kind_zero k0 b a))) rfl rfl rfl rfl (by decide)
  rotate_left
  · rw [lt_f, den_var] at b
    rw [eq_f] at a
    rw [eq_f, pl51] at c
    exact leaf_wh (wh_err (kind_one k0 b a) b c) rfl rfl rfl rfl (by decide)
  rw [lt_f, den_var] at b
  rw [eq_f] at a
  replace b : (ρ 1).int ≤ 6 := b
  replace a := kind_one k0 b a
  rw [eq_t, pl51] at c
  obtain ⟨m, hm⟩ := pl_ok hb c
  have hn := hm.num
  have hlen := hm.peeled.len
  have hmost := hm.most
  refine ⟨?_, ?_, ?_, ?_, ?_, ?_, ⟨0, m, 0, rfl, rfl, hlen, Nat.zero_le _, rfl, rfl⟩, ?_⟩
  · rw [le_t, hn]; show (1 : Int) ≤ m; have := hm.one; omega
  · rw [le_t, hn]; show (m : Int) ≤ 8; omega
  · rw [eq_t, int_len, pl50, int_mul, hn, hlen]; show ((73 * m : Nat) : Int) = m * 73; omega
  · exact hm.peeled.kin
  · rw [bytes_t, pl53]; exact hm.rest
  · rw [le_t, int_len, int_len, pl53, List.length_drop, den_var]; omega
  rintro ds hds ⟨i, m', at_, hi, ha, hm', him, hs, hgo⟩
  obtain rfl : m' = m := by omega
  have e0 : upd ρ 2 ds 0 = ρ 0 := upd_lo ds (by decide)
  have e1 : upd ρ 2 ds 1 = ρ 1 := upd_lo ds (by decide)
  have e2 : upd ρ 2 ds 2 = nthD ds 0 := upd_at (i := 0) (by omega)
  have e3 : upd ρ 2 ds 3 = nthD ds 1 := upd_at (i := 1) (by omega)
  generalize upd ρ 2 ds = ρ1 at *
  have v1 : (ρ1 1).int = (ρ 1).int := by rw [e1]
  have v2 : (ρ1 2).int = at_ := by rw [e2]; exact ha
  have v3 : (ρ1 3).int = i := by rw [e3]; exact hi
  have w52 : (T.den ΦP ρ1 (.fn 52 (.var 0) .nil .nil)).int = m' := pl52 (by rw [e0]; exact hlen)
  have w50 : (T.den ΦP ρ1 (.fn 50 (.var 0) .nil .nil)).list = (peelOf (ρ 0).list).1 := by rw [pl50, e0]
  have hx : (T.den ΦP ρ1 (.c2 .mul (.var 3) (.num 73))).int = ((73 * i : Nat) : Int) := by rw [int_mul, den_var, v3]; show (i : Int) * 73 = _; omega
  have hrd : (T.den ΦP ρ1 (.c2 .rd (.fn 50 (.var 0) .nil .nil) (.c2 .mul (.var 3) (.num 73)))).int = (peelOf (ρ 0).list).1[73 * i]?.getD 0 := by rw [int_rd, w50, hx, Int.toNat_natCast]
  have hle := szSum_le (peelOf (ρ 0).list).1 i
  refine ⟨?_, fun d => ⟨?_, fun f => ?_, fun f => ?_⟩, fun d => ?_⟩
  · intro t p hmm
    simp only [List.mem_cons, Prod.mk.injEq, List.not_mem_nil, or_false] at hmm
    rcases hmm with ⟨rfl, rfl⟩ | ⟨rfl, rfl⟩ | ⟨rfl, rfl⟩
    · rw [le_t, den_var, v2]; exact Int.natCast_nonneg _
    · rw [le_t, den_var, v2]; show (at_ : Int) ≤ 320; omega
    · rw [le_t, den_var, v3]; exact Int.natCast_nonneg _
  · rw [lt_t, den_var, v3, w52] at d
    rw [le_t, int_add, hx, int_len, w50, hlen]; show ((73 * i : Nat) : Int) + 1 ≤ _; omega
  · rw [lt_t, den_var, v3, w52] at d
    rw [eq_t, hrd, den_var, v1] at f
    have hw := wh_yes a b c hlen (i := i) (at_ := at_) (by omega) hgo f
    refine leaf_wh hw v2 ?_ rfl rfl (by decide)
    obtain ⟨q, hq⟩ := Int.eq_ofNat_of_zero_le k0
    rw [int_rd, den_var, v1, hq]
    exact sizes_rd (k := q) (by omega)
  · rw [lt_t, den_var, v3, w52] at d
    rw [eq_f, hrd, den_var, v1] at f
    have hk := hm.peeled.kind i (by omega)
    have w : (T.den ΦP ρ1 (.wr .i64 (.c2 .add (.var 3) (.num 1)))).int = ((i + 1 : Nat) : Int) := by
      rw [int_wr, int_add, den_var, v3]
      show IntKind.i64.wrap ((i : Int) + 1) = _
      rw [wrap_is (by simp only [kmin]; omega) (by simp only [kmax]; omega)]; rfl
    have back : ∀ (t : T) (B : BK), (T.den ΦP ρ1 t).int = ((at_ + hdSize ((peelOf (ρ 0).list).1[73 * i]?.getD 0).toNat : Nat) : Int) → M.ok (α := V × St) ΦP whJ (.back 0 2 [t, (.wr .i64 (.c2 .add (.var 3) (.num 1)))]) (BK.at_ B 2 fun ds' => whJ.I 0 ρ ds' ∧ whJ.μ 0 ρ ds' < whJ.μ 0 ρ ds) ρ1 (fun _ ρ' r => Leaf ΦP ρ ρ' ⟨.t [.g [.i .i64 (whT 55 (.var 0) (.var 1)), .i .i64 (whT 58 (.var 0) (.var 1))], .c (.b (whT 56 (.var 0) (.var 1))), .c (.i .i64 (whT 57 (.var 0) (.var 1)))], [], 400⟩ r) := by
      intro t B ht
      refine ok_back ⟨⟨i + 1, m', _, w, ht, hlen, by omega, by rw [szSum, hs], ?_⟩, ?_⟩
      · rw [hgo]
        obtain ⟨n, hn'⟩ : ∃ n, m' - i = n + 1 := ⟨m' - i - 1, by omega⟩
        rw [hn', whGo, if_neg f, show m' - (i + 1) = n from by omega]
      · show (peelOf (ρ 0).list).1.length - (T.den ΦP ρ1 (.wr .i64 (.c2 .add (.var 3) (.num 1)))).int.toNat < (peelOf (ρ 0).list).1.length - (nthD ds 1).int.toNat
        rw [w, hi, hlen]; omega
    obtain ⟨q, hq⟩ := Int.eq_ofNat_of_zero_le (show 0 ≤ (peelOf (ρ 0).list).1[73 * i]?.getD 0 by omega)
    rw [hq] at back hrd hk
    simp only [Int.toNat_natCast] at back
    refine ⟨fun z => ?_, fun z => ?_⟩
    · exfalso; rw [lt_t, hrd] at z; have : (6 : Int) < q := z; omega
    · refine back _ _ ?_
      rw [int_add, int_rd, den_var, v2, hrd, ← sizes_add (by omega)]; rfl
  · rw [lt_f, den_var, v3, w52] at d
    exact leaf_wh (wh_none a b c hlen (i := i) (at_ := at_) (by omega) hgo) rfl rfl rfl rfl (by decide)
theorem beq_no (Φ : Sig) (ρ : Env) (X : T) : ¬ (T.den Φ ρ (.c1 .not (.c2 .beq X X))).bool = true := by simp [T.den, U1.den, O2.den]
theorem beq_yes (Φ : Sig) (ρ : Env) (X : T) : ¬ (T.den Φ ρ (.c2 .beq X X)).bool = false := by simp [T.den, O2.den]
set_option maxRecDepth 100000 in
theorem wheres_ok : TmplOk Go.Proofs.Try.prog ΦP 4 tWheres := by
  refine tmpl_of (moreCons (con_ok where_ok) (moreCons (con_ok whereR_ok) consPl_ok)) treePwWheres_is (fun ρ res hres => ⟨eqJ, ?_⟩)
  obtain ⟨_, hres⟩ := short_some hres
  obtain ⟨_, hres⟩ := bytes_some hres
  obtain ⟨_, hres⟩ := inKs_some hres
  obtain rfl := ret_some hres
  refine ⟨fun c => absurd c (beq_no _ _ _), fun _ => ?_⟩
  refine ⟨fun c => absurd c (beq_no _ _ _), fun _ => ?_⟩
  refine ⟨fun c => absurd c (beq_no _ _ _), fun _ => ?_⟩
  refine ⟨fun c => absurd c (beq_no _ _ _), fun _ => ?_⟩
  refine ⟨fun c => absurd c (beq_no _ _ _), fun _ => ?_⟩
  refine ⟨fun c => absurd c (beq_no _ _ _), fun _ => ?_⟩
  refine ⟨fun c => absurd c (beq_no _ _ _), fun _ => ?_⟩
  refine ⟨fun c => absurd c (beq_no _ _ _), fun _ => ?_⟩
  refine ⟨fun c => absurd c (beq_no _ _ _), fun _ => ?_⟩
  refine ⟨fun c => absurd c (beq_no _ _ _), fun _ => ?_⟩
  refine ⟨fun c => absurd c (beq_no _ _ _), fun _ => ?_⟩
  refine ⟨fun c => absurd c (beq_no _ _ _), fun _ => ?_⟩
  refine ⟨fun c => absurd c (beq_no _ _ _), fun _ => ?_⟩
  refine ⟨fun c => absurd c (beq_no _ _ _), fun _ => ?_⟩
  refine ⟨fun c => absurd c (beq_no _ _ _), fun _ => ?_⟩
  refine ⟨fun c => absurd c (beq_no _ _ _), fun _ => ?_⟩
  refine ⟨fun c => absurd c (beq_no _ _ _), fun _ => ?_⟩
  refine ⟨fun c => absurd c (beq_no _ _ _), fun _ => ?_⟩
  exact ⟨fun _ => leaf_true rfl (by decide), fun c => absurd c (beq_yes _ _ _)⟩
end Go.Proofs.Ytbiodlomlendkaa.Sx
