/- Sx: texts of this claim put together: TRmPacksB, RpK, Lm. Conditions: none. -/
import Derived.Test.YtfhjlimdakphcaaGreatU6
import Derived.Test.YtfhjlimdakphcaaGreatProg
import Derived.KernelRfl
import Derived.ChangeArms
import Derived.OpenShut
import Derived.DataReads
/- Sx: what Go function 3 does, as a tree of conditions (printed by a tool of this claim, proved by the kernel). Conditions: none. -/
set_option maxRecDepth 100000
namespace Go.Proofs.YtfhjlimdakphcaaGreat.Sx
open Go
def xRmPacksB0 : T := (.fn 75 (.c2 .take (.c2 .sub (.var 8) (.var 7)) (.c2 .drop (.var 7) (.var 6))) (.c2 .rd (.var 4) (.c2 .add (.c2 .mul (.var 5) (.num 75)) (.num 1))) .nil)
def xRmPacksB1 : T := (.fn 76 (.c2 .take (.c2 .sub (.var 8) (.var 7)) (.c2 .drop (.var 7) (.var 6))) (.c2 .rd (.var 4) (.c2 .add (.c2 .mul (.var 5) (.num 75)) (.num 1))) .nil)
def xRmPacksB2 : T := (.cons (.wr .u8 (.c2 .rd xRmPacksB1 (.num 0))) (.cons (.wr .u8 (.c2 .rd xRmPacksB1 (.num 1))) (.cons (.wr .u8 (.c2 .rd xRmPacksB1 (.num 2))) (.cons (.wr .u8 (.c2 .rd xRmPacksB1 (.num 3))) (.cons (.wr .u8 (.c2 .rd xRmPacksB1 (.num 4))) (.cons (.wr .u8 (.c2 .rd xRmPacksB1 (.num 5))) (.cons (.wr .u8 (.c2 .rd xRmPacksB1 (.num 6))) (.cons (.wr .u8 (.c2 .rd xRmPacksB1 (.num 7))) (.cons (.wr .u8 (.c2 .rd xRmPacksB1 (.num 8))) (.cons (.wr .u8 (.c2 .rd xRmPacksB1 (.num 9))) (.cons (.wr .u8 (.c2 .rd xRmPacksB1 (.num 10))) (.cons (.wr .u8 (.c2 .rd xRmPacksB1 (.num 11))) (.cons (.wr .u8 (.c2 .rd xRmPacksB1 (.num 12))) (.cons (.wr .u16 (.c2 .rd xRmPacksB1 (.num 13))) (.cons (.wr .u8 (.c2 .rd xRmPacksB1 (.num 14))) (.cons (.wr .u16 (.c2 .rd xRmPacksB1 (.num 15))) (.cons (.wr .u16 (.c2 .rd xRmPacksB1 (.num 16))) (.cons (.wr .u8 (.c2 .rd xRmPacksB1 (.num 17))) (.cons (.wr .u8 (.c2 .rd xRmPacksB1 (.num 18))) (.cons (.wr .u8 (.c2 .rd xRmPacksB1 (.num 19))) (.cons (.wr .u16 (.c2 .rd xRmPacksB1 (.num 20))) (.cons (.wr .u8 (.c2 .rd xRmPacksB1 (.num 21))) (.cons (.wr .u8 (.c2 .rd xRmPacksB1 (.num 22))) (.cons (.wr .u8 (.c2 .rd xRmPacksB1 (.num 23))) (.cons (.wr .u8 (.c2 .rd xRmPacksB1 (.num 24))) (.cons (.wr .u8 (.c2 .rd xRmPacksB1 (.num 25))) (.cons (.wr .u8 (.c2 .rd xRmPacksB1 (.num 26))) (.cons (.wr .u8 (.c2 .rd xRmPacksB1 (.num 27))) (.cons (.wr .u8 (.c2 .rd xRmPacksB1 (.num 28))) (.cons (.wr .u8 (.c2 .rd xRmPacksB1 (.num 29))) (.cons (.wr .u32 (.c2 .rd xRmPacksB1 (.num 30))) (.cons (.wr .u8 (.c2 .rd xRmPacksB1 (.num 31))) (.cons (.wr .u8 (.c2 .rd xRmPacksB1 (.num 32))) (.cons (.wr .u8 (.c2 .rd xRmPacksB1 (.num 33))) (.cons (.wr .u8 (.c2 .rd xRmPacksB1 (.num 34))) (.cons (.wr .u8 (.c2 .rd xRmPacksB1 (.num 35))) (.cons (.wr .u8 (.c2 .rd xRmPacksB1 (.num 36))) (.cons (.wr .u8 (.c2 .rd xRmPacksB1 (.num 37))) (.cons (.wr .u8 (.c2 .rd xRmPacksB1 (.num 38))) (.cons (.wr .u8 (.c2 .rd xRmPacksB1 (.num 39))) (.cons (.wr .u8 (.c2 .rd xRmPacksB1 (.num 40))) (.cons (.wr .u8 (.c2 .rd xRmPacksB1 (.num 41))) (.cons (.wr .u8 (.c2 .rd xRmPacksB1 (.num 42))) (.cons (.wr .u8 (.c2 .rd xRmPacksB1 (.num 43))) (.cons (.wr .u8 (.c2 .rd xRmPacksB1 (.num 44))) (.cons (.wr .u8 (.c2 .rd xRmPacksB1 (.num 45))) (.cons (.wr .u8 (.c2 .rd xRmPacksB1 (.num 46))) (.cons (.wr .u8 (.c2 .rd xRmPacksB1 (.num 47))) (.cons (.wr .u8 (.c2 .rd xRmPacksB1 (.num 48))) (.cons (.wr .u8 (.c2 .rd xRmPacksB1 (.num 49))) (.cons (.wr .u8 (.c2 .rd xRmPacksB1 (.num 50))) (.cons (.wr .u8 (.c2 .rd xRmPacksB1 (.num 51))) (.cons (.wr .u8 (.c2 .rd xRmPacksB1 (.num 52))) (.cons (.wr .u8 (.c2 .rd xRmPacksB1 (.num 53))) (.cons (.wr .u8 (.c2 .rd xRmPacksB1 (.num 54))) (.cons (.wr .u8 (.c2 .rd xRmPacksB1 (.num 55))) (.cons (.wr .u8 (.c2 .rd xRmPacksB1 (.num 56))) (.cons (.wr .u8 (.c2 .rd xRmPacksB1 (.num 57))) (.cons (.wr .u8 (.c2 .rd xRmPacksB1 (.num 58))) (.cons (.wr .u8 (.c2 .rd xRmPacksB1 (.num 59))) (.cons (.wr .u8 (.c2 .rd xRmPacksB1 (.num 60))) (.cons (.wr .u8 (.c2 .rd xRmPacksB1 (.num 61))) (.cons (.wr .u8 (.c2 .rd xRmPacksB1 (.num 62))) (.cons (.wr .u8 (.c2 .rd xRmPacksB1 (.num 63))) (.cons (.wr .u8 (.c2 .rd xRmPacksB1 (.num 64))) (.cons (.wr .u16 (.c2 .rd xRmPacksB1 (.num 65))) (.cons (.wr .u16 (.c2 .rd xRmPacksB1 (.num 66))) (.cons (.wr .u32 (.c2 .rd xRmPacksB1 (.num 67))) (.cons (.wr .u32 (.c2 .rd xRmPacksB1 (.num 68))) (.cons (.wr .u8 (.c2 .rd xRmPacksB1 (.num 69))) (.cons (.wr .u16 (.c2 .rd xRmPacksB1 (.num 70))) (.cons (.wr .u16 (.c2 .rd xRmPacksB1 (.num 71))) (.cons (.wr .u16 (.c2 .rd xRmPacksB1 (.num 72))) .nil)))))))))))))))))))))))))))))))))))))))))))))))))))))))))))))))))))))))))
def xRmPacksB3 : T := (.cons (.wr .u8 (.c2 .rd (.fn 76 (.var 12) (.c2 .rd (.var 4) (.c2 .add (.c2 .mul (.var 5) (.num 75)) (.num 1))) .nil) (.num 0))) (.cons (.wr .u8 (.c2 .rd (.fn 76 (.var 12) (.c2 .rd (.var 4) (.c2 .add (.c2 .mul (.var 5) (.num 75)) (.num 1))) .nil) (.num 1))) (.cons (.wr .u8 (.c2 .rd (.fn 76 (.var 12) (.c2 .rd (.var 4) (.c2 .add (.c2 .mul (.var 5) (.num 75)) (.num 1))) .nil) (.num 2))) (.cons (.wr .u8 (.c2 .rd (.fn 76 (.var 12) (.c2 .rd (.var 4) (.c2 .add (.c2 .mul (.var 5) (.num 75)) (.num 1))) .nil) (.num 3))) (.cons (.wr .u8 (.c2 .rd (.fn 76 (.var 12) (.c2 .rd (.var 4) (.c2 .add (.c2 .mul (.var 5) (.num 75)) (.num 1))) .nil) (.num 4))) (.cons (.wr .u8 (.c2 .rd (.fn 76 (.var 12) (.c2 .rd (.var 4) (.c2 .add (.c2 .mul (.var 5) (.num 75)) (.num 1))) .nil) (.num 5))) (.cons (.wr .u8 (.c2 .rd (.fn 76 (.var 12) (.c2 .rd (.var 4) (.c2 .add (.c2 .mul (.var 5) (.num 75)) (.num 1))) .nil) (.num 6))) (.cons (.wr .u8 (.c2 .rd (.fn 76 (.var 12) (.c2 .rd (.var 4) (.c2 .add (.c2 .mul (.var 5) (.num 75)) (.num 1))) .nil) (.num 7))) (.cons (.wr .u8 (.c2 .rd (.fn 76 (.var 12) (.c2 .rd (.var 4) (.c2 .add (.c2 .mul (.var 5) (.num 75)) (.num 1))) .nil) (.num 8))) (.cons (.wr .u8 (.c2 .rd (.fn 76 (.var 12) (.c2 .rd (.var 4) (.c2 .add (.c2 .mul (.var 5) (.num 75)) (.num 1))) .nil) (.num 9))) (.cons (.wr .u8 (.c2 .rd (.fn 76 (.var 12) (.c2 .rd (.var 4) (.c2 .add (.c2 .mul (.var 5) (.num 75)) (.num 1))) .nil) (.num 10))) (.cons (.wr .u8 (.c2 .rd (.fn 76 (.var 12) (.c2 .rd (.var 4) (.c2 .add (.c2 .mul (.var 5) (.num 75)) (.num 1))) .nil) (.num 11))) (.cons (.wr .u8 (.c2 .rd (.fn 76 (.var 12) (.c2 .rd (.var 4) (.c2 .add (.c2 .mul (.var 5) (.num 75)) (.num 1))) .nil) (.num 12))) (.cons (.wr .u16 (.c2 .rd (.fn 76 (.var 12) (.c2 .rd (.var 4) (.c2 .add (.c2 .mul (.var 5) (.num 75)) (.num 1))) .nil) (.num 13))) (.cons (.wr .u8 (.c2 .rd (.fn 76 (.var 12) (.c2 .rd (.var 4) (.c2 .add (.c2 .mul (.var 5) (.num 75)) (.num 1))) .nil) (.num 14))) (.cons (.wr .u16 (.c2 .rd (.fn 76 (.var 12) (.c2 .rd (.var 4) (.c2 .add (.c2 .mul (.var 5) (.num 75)) (.num 1))) .nil) (.num 15))) (.cons (.wr .u16 (.c2 .rd (.fn 76 (.var 12) (.c2 .rd (.var 4) (.c2 .add (.c2 .mul (.var 5) (.num 75)) (.num 1))) .nil) (.num 16))) (.cons (.wr .u8 (.c2 .rd (.fn 76 (.var 12) (.c2 .rd (.var 4) (.c2 .add (.c2 .mul (.var 5) (.num 75)) (.num 1))) .nil) (.num 17))) (.cons (.wr .u8 (.c2 .rd (.fn 76 (.var 12) (.c2 .rd (.var 4) (.c2 .add (.c2 .mul (.var 5) (.num 75)) (.num 1))) .nil) (.num 18))) (.cons (.wr .u8 (.c2 .rd (.fn 76 (.var 12) (.c2 .rd (.var 4) (.c2 .add (.c2 .mul (.var 5) (.num 75)) (.num 1))) .nil) (.num 19))) (.cons (.wr .u16 (.c2 .rd (.fn 76 (.var 12) (.c2 .rd (.var 4) (.c2 .add (.c2 .mul (.var 5) (.num 75)) (.num 1))) .nil) (.num 20))) (.cons (.wr .u8 (.c2 .rd (.fn 76 (.var 12) (.c2 .rd (.var 4) (.c2 .add (.c2 .mul (.var 5) (.num 75)) (.num 1))) .nil) (.num 21))) (.cons (.wr .u8 (.c2 .rd (.fn 76 (.var 12) (.c2 .rd (.var 4) (.c2 .add (.c2 .mul (.var 5) (.num 75)) (.num 1))) .nil) (.num 22))) (.cons (.wr .u8 (.c2 .rd (.fn 76 (.var 12) (.c2 .rd (.var 4) (.c2 .add (.c2 .mul (.var 5) (.num 75)) (.num 1))) .nil) (.num 23))) (.cons (.wr .u8 (.c2 .rd (.fn 76 (.var 12) (.c2 .rd (.var 4) (.c2 .add (.c2 .mul (.var 5) (.num 75)) (.num 1))) .nil) (.num 24))) (.cons (.wr .u8 (.c2 .rd (.fn 76 (.var 12) (.c2 .rd (.var 4) (.c2 .add (.c2 .mul (.var 5) (.num 75)) (.num 1))) .nil) (.num 25))) (.cons (.wr .u8 (.c2 .rd (.fn 76 (.var 12) (.c2 .rd (.var 4) (.c2 .add (.c2 .mul (.var 5) (.num 75)) (.num 1))) .nil) (.num 26))) (.cons (.wr .u8 (.c2 .rd (.fn 76 (.var 12) (.c2 .rd (.var 4) (.c2 .add (.c2 .mul (.var 5) (.num 75)) (.num 1))) .nil) (.num 27))) (.cons (.wr .u8 (.c2 .rd (.fn 76 (.var 12) (.c2 .rd (.var 4) (.c2 .add (.c2 .mul (.var 5) (.num 75)) (.num 1))) .nil) (.num 28))) (.cons (.wr .u8 (.c2 .rd (.fn 76 (.var 12) (.c2 .rd (.var 4) (.c2 .add (.c2 .mul (.var 5) (.num 75)) (.num 1))) .nil) (.num 29))) (.cons (.wr .u32 (.c2 .rd (.fn 76 (.var 12) (.c2 .rd (.var 4) (.c2 .add (.c2 .mul (.var 5) (.num 75)) (.num 1))) .nil) (.num 30))) (.cons (.wr .u8 (.c2 .rd (.fn 76 (.var 12) (.c2 .rd (.var 4) (.c2 .add (.c2 .mul (.var 5) (.num 75)) (.num 1))) .nil) (.num 31))) (.cons (.wr .u8 (.c2 .rd (.fn 76 (.var 12) (.c2 .rd (.var 4) (.c2 .add (.c2 .mul (.var 5) (.num 75)) (.num 1))) .nil) (.num 32))) (.cons (.wr .u8 (.c2 .rd (.fn 76 (.var 12) (.c2 .rd (.var 4) (.c2 .add (.c2 .mul (.var 5) (.num 75)) (.num 1))) .nil) (.num 33))) (.cons (.wr .u8 (.c2 .rd (.fn 76 (.var 12) (.c2 .rd (.var 4) (.c2 .add (.c2 .mul (.var 5) (.num 75)) (.num 1))) .nil) (.num 34))) (.cons (.wr .u8 (.c2 .rd (.fn 76 (.var 12) (.c2 .rd (.var 4) (.c2 .add (.c2 .mul (.var 5) (.num 75)) (.num 1))) .nil) (.num 35))) (.cons (.wr .u8 (.c2 .rd (.fn 76 (.var 12) (.c2 .rd (.var 4) (.c2 .add (.c2 .mul (.var 5) (.num 75)) (.num 1))) .nil) (.num 36))) (.cons (.wr .u8 (.c2 .rd (.fn 76 (.var 12) (.c2 .rd (.var 4) (.c2 .add (.c2 .mul (.var 5) (.num 75)) (.num 1))) .nil) (.num 37))) (.cons (.wr .u8 (.c2 .rd (.fn 76 (.var 12) (.c2 .rd (.var 4) (.c2 .add (.c2 .mul (.var 5) (.num 75)) (.num 1))) .nil) (.num 38))) (.cons (.wr .u8 (.c2 .rd (.fn 76 (.var 12) (.c2 .rd (.var 4) (.c2 .add (.c2 .mul (.var 5) (.num 75)) (.num 1))) .nil) (.num 39))) (.cons (.wr .u8 (.c2 .rd (.fn 76 (.var 12) (.c2 .rd (.var 4) (.c2 .add (.c2 .mul (.var 5) (.num 75)) (.num 1))) .nil) (.num 40))) (.cons (.wr .u8 (.c2 .rd (.fn 76 (.var 12) (.c2 .rd (.var 4) (.c2 .add (.c2 .mul (.var 5) (.num 75)) (.num 1))) .nil) (.num 41))) (.cons (.wr .u8 (.c2 .rd (.fn 76 (.var 12) (.c2 .rd (.var 4) (.c2 .add (.c2 .mul (.var 5) (.num 75)) (.num 1))) .nil) (.num 42))) (.cons (.wr .u8 (.c2 .rd (.fn 76 (.var 12) (.c2 .rd (.var 4) (.c2 .add (.c2 .mul (.var 5) (.num 75)) (.num 1))) .nil) (.num 43))) (.cons (.wr .u8 (.c2 .rd (.fn 76 (.var 12) (.c2 .rd (.var 4) (.c2 .add (.c2 .mul (.var 5) (.num 75)) (.num 1))) .nil) (.num 44))) (.cons (.wr .u8 (.c2 .rd (.fn 76 (.var 12) (.c2 .rd (.var 4) (.c2 .add (.c2 .mul (.var 5) (.num 75)) (.num 1))) .nil) (.num 45))) (.cons (.wr .u8 (.c2 .rd (.fn 76 (.var 12) (.c2 .rd (.var 4) (.c2 .add (.c2 .mul (.var 5) (.num 75)) (.num 1))) .nil) (.num 46))) (.cons (.wr .u8 (.c2 .rd (.fn 76 (.var 12) (.c2 .rd (.var 4) (.c2 .add (.c2 .mul (.var 5) (.num 75)) (.num 1))) .nil) (.num 47))) (.cons (.wr .u8 (.c2 .rd (.fn 76 (.var 12) (.c2 .rd (.var 4) (.c2 .add (.c2 .mul (.var 5) (.num 75)) (.num 1))) .nil) (.num 48))) (.cons (.wr .u8 (.c2 .rd (.fn 76 (.var 12) (.c2 .rd (.var 4) (.c2 .add (.c2 .mul (.var 5) (.num 75)) (.num 1))) .nil) (.num 49))) (.cons (.wr .u8 (.c2 .rd (.fn 76 (.var 12) (.c2 .rd (.var 4) (.c2 .add (.c2 .mul (.var 5) (.num 75)) (.num 1))) .nil) (.num 50))) (.cons (.wr .u8 (.c2 .rd (.fn 76 (.var 12) (.c2 .rd (.var 4) (.c2 .add (.c2 .mul (.var 5) (.num 75)) (.num 1))) .nil) (.num 51))) (.cons (.wr .u8 (.c2 .rd (.fn 76 (.var 12) (.c2 .rd (.var 4) (.c2 .add (.c2 .mul (.var 5) (.num 75)) (.num 1))) .nil) (.num 52))) (.cons (.wr .u8 (.c2 .rd (.fn 76 (.var 12) (.c2 .rd (.var 4) (.c2 .add (.c2 .mul (.var 5) (.num 75)) (.num 1))) .nil) (.num 53))) (.cons (.wr .u8 (.c2 .rd (.fn 76 (.var 12) (.c2 .rd (.var 4) (.c2 .add (.c2 .mul (.var 5) (.num 75)) (.num 1))) .nil) (.num 54))) (.cons (.wr .u8 (.c2 .rd (.fn 76 (.var 12) (.c2 .rd (.var 4) (.c2 .add (.c2 .mul (.var 5) (.num 75)) (.num 1))) .nil) (.num 55))) (.cons (.wr .u8 (.c2 .rd (.fn 76 (.var 12) (.c2 .rd (.var 4) (.c2 .add (.c2 .mul (.var 5) (.num 75)) (.num 1))) .nil) (.num 56))) (.cons (.wr .u8 (.c2 .rd (.fn 76 (.var 12) (.c2 .rd (.var 4) (.c2 .add (.c2 .mul (.var 5) (.num 75)) (.num 1))) .nil) (.num 57))) (.cons (.wr .u8 (.c2 .rd (.fn 76 (.var 12) (.c2 .rd (.var 4) (.c2 .add (.c2 .mul (.var 5) (.num 75)) (.num 1))) .nil) (.num 58))) (.cons (.wr .u8 (.c2 .rd (.fn 76 (.var 12) (.c2 .rd (.var 4) (.c2 .add (.c2 .mul (.var 5) (.num 75)) (.num 1))) .nil) (.num 59))) (.cons (.wr .u8 (.c2 .rd (.fn 76 (.var 12) (.c2 .rd (.var 4) (.c2 .add (.c2 .mul (.var 5) (.num 75)) (.num 1))) .nil) (.num 60))) (.cons (.wr .u8 (.c2 .rd (.fn 76 (.var 12) (.c2 .rd (.var 4) (.c2 .add (.c2 .mul (.var 5) (.num 75)) (.num 1))) .nil) (.num 61))) (.cons (.wr .u8 (.c2 .rd (.fn 76 (.var 12) (.c2 .rd (.var 4) (.c2 .add (.c2 .mul (.var 5) (.num 75)) (.num 1))) .nil) (.num 62))) (.cons (.wr .u8 (.c2 .rd (.fn 76 (.var 12) (.c2 .rd (.var 4) (.c2 .add (.c2 .mul (.var 5) (.num 75)) (.num 1))) .nil) (.num 63))) (.cons (.wr .u8 (.c2 .rd (.fn 76 (.var 12) (.c2 .rd (.var 4) (.c2 .add (.c2 .mul (.var 5) (.num 75)) (.num 1))) .nil) (.num 64))) (.cons (.wr .u16 (.c2 .rd (.fn 76 (.var 12) (.c2 .rd (.var 4) (.c2 .add (.c2 .mul (.var 5) (.num 75)) (.num 1))) .nil) (.num 65))) (.cons (.wr .u16 (.c2 .rd (.fn 76 (.var 12) (.c2 .rd (.var 4) (.c2 .add (.c2 .mul (.var 5) (.num 75)) (.num 1))) .nil) (.num 66))) (.cons (.wr .u32 (.c2 .rd (.fn 76 (.var 12) (.c2 .rd (.var 4) (.c2 .add (.c2 .mul (.var 5) (.num 75)) (.num 1))) .nil) (.num 67))) (.cons (.wr .u32 (.c2 .rd (.fn 76 (.var 12) (.c2 .rd (.var 4) (.c2 .add (.c2 .mul (.var 5) (.num 75)) (.num 1))) .nil) (.num 68))) (.cons (.wr .u8 (.c2 .rd (.fn 76 (.var 12) (.c2 .rd (.var 4) (.c2 .add (.c2 .mul (.var 5) (.num 75)) (.num 1))) .nil) (.num 69))) (.cons (.wr .u16 (.c2 .rd (.fn 76 (.var 12) (.c2 .rd (.var 4) (.c2 .add (.c2 .mul (.var 5) (.num 75)) (.num 1))) .nil) (.num 70))) (.cons (.wr .u16 (.c2 .rd (.fn 76 (.var 12) (.c2 .rd (.var 4) (.c2 .add (.c2 .mul (.var 5) (.num 75)) (.num 1))) .nil) (.num 71))) (.cons (.wr .u16 (.c2 .rd (.fn 76 (.var 12) (.c2 .rd (.var 4) (.c2 .add (.c2 .mul (.var 5) (.num 75)) (.num 1))) .nil) (.num 72))) .nil)))))))))))))))))))))))))))))))))))))))))))))))))))))))))))))))))))))))))
def xRmPacksB4 : T := (.c2 .take (.c2 .sub (.var 8) (.c2 .add (.var 7) (.fn 73 (.c2 .rd (.var 4) (.c2 .add (.c2 .mul (.var 5) (.num 75)) (.num 1))) .nil .nil))) (.c2 .drop (.c2 .add (.var 7) (.fn 73 (.c2 .rd (.var 4) (.c2 .add (.c2 .mul (.var 5) (.num 75)) (.num 1))) .nil .nil)) (.var 6)))
def xRmPacksB5 : T := (.c2 .eq (.c2 .sub (.var 8) (.c2 .add (.var 7) (.fn 73 (.c2 .rd (.var 4) (.c2 .add (.c2 .mul (.var 5) (.num 75)) (.num 1))) .nil .nil))) (.c1 .len xRmPacksB4))
def xRmPacksB6 : T := (.cons (.num 0) (.cons (.num 0) (.cons (.num 0) (.cons (.num 0) (.cons (.num 0) (.cons (.num 0) (.cons (.num 0) (.cons (.num 0) (.cons (.num 0) (.cons (.num 0) (.cons (.num 0) (.cons (.num 0) (.cons (.num 0) (.cons (.num 0) (.cons (.num 0) (.cons (.num 0) (.cons (.num 0) (.cons (.num 0) (.cons (.num 0) (.cons (.num 0) (.cons (.num 0) (.cons (.num 0) (.cons (.num 0) (.cons (.num 0) (.cons (.num 0) (.cons (.num 0) (.cons (.num 0) (.cons (.num 0) (.cons (.num 0) (.cons (.num 0) (.cons (.num 0) (.cons (.num 0) (.cons (.num 0) (.cons (.num 0) (.cons (.num 0) (.cons (.num 0) (.cons (.num 0) (.cons (.num 0) (.cons (.num 0) (.cons (.num 0) (.cons (.num 0) (.cons (.num 0) (.cons (.num 0) (.cons (.num 0) (.cons (.num 0) (.cons (.num 0) (.cons (.num 0) (.cons (.num 0) (.cons (.num 0) (.cons (.num 0) (.cons (.num 0) (.cons (.num 0) (.cons (.num 0) (.cons (.num 0) (.cons (.num 0) (.cons (.num 0) (.cons (.num 0) (.cons (.num 0) (.cons (.num 0) (.cons (.num 0) (.cons (.num 0) (.cons (.num 0) (.cons (.num 0) (.cons (.num 0) (.cons (.num 0) (.cons (.num 0) (.cons (.num 0) (.cons (.num 0) (.cons (.num 0) (.cons (.num 0) (.cons (.num 0) (.cons (.num 0) (.cons (.num 0) .nil)))))))))))))))))))))))))))))))))))))))))))))))))))))))))))))))))))))))))
def xRmPacksB7 : T := (.cons (.c2 .rd (.var 4) (.c2 .add (.c2 .mul (.var 5) (.num 75)) (.num 2))) (.cons (.c2 .rd (.var 4) (.c2 .add (.c2 .mul (.var 5) (.num 75)) (.num 3))) (.cons (.c2 .rd (.var 4) (.c2 .add (.c2 .mul (.var 5) (.num 75)) (.num 4))) (.cons (.c2 .rd (.var 4) (.c2 .add (.c2 .mul (.var 5) (.num 75)) (.num 5))) (.cons (.c2 .rd (.var 4) (.c2 .add (.c2 .mul (.var 5) (.num 75)) (.num 6))) (.cons (.c2 .rd (.var 4) (.c2 .add (.c2 .mul (.var 5) (.num 75)) (.num 7))) (.cons (.c2 .rd (.var 4) (.c2 .add (.c2 .mul (.var 5) (.num 75)) (.num 8))) (.cons (.c2 .rd (.var 4) (.c2 .add (.c2 .mul (.var 5) (.num 75)) (.num 9))) (.cons (.c2 .rd (.var 4) (.c2 .add (.c2 .mul (.var 5) (.num 75)) (.num 10))) (.cons (.c2 .rd (.var 4) (.c2 .add (.c2 .mul (.var 5) (.num 75)) (.num 11))) (.cons (.c2 .rd (.var 4) (.c2 .add (.c2 .mul (.var 5) (.num 75)) (.num 12))) (.cons (.c2 .rd (.var 4) (.c2 .add (.c2 .mul (.var 5) (.num 75)) (.num 13))) (.cons (.c2 .rd (.var 4) (.c2 .add (.c2 .mul (.var 5) (.num 75)) (.num 14))) (.cons (.c2 .rd (.var 4) (.c2 .add (.c2 .mul (.var 5) (.num 75)) (.num 15))) (.cons (.c2 .rd (.var 4) (.c2 .add (.c2 .mul (.var 5) (.num 75)) (.num 16))) (.cons (.c2 .rd (.var 4) (.c2 .add (.c2 .mul (.var 5) (.num 75)) (.num 17))) (.cons (.c2 .rd (.var 4) (.c2 .add (.c2 .mul (.var 5) (.num 75)) (.num 18))) (.cons (.c2 .rd (.var 4) (.c2 .add (.c2 .mul (.var 5) (.num 75)) (.num 19))) (.cons (.c2 .rd (.var 4) (.c2 .add (.c2 .mul (.var 5) (.num 75)) (.num 20))) (.cons (.c2 .rd (.var 4) (.c2 .add (.c2 .mul (.var 5) (.num 75)) (.num 21))) (.cons (.c2 .rd (.var 4) (.c2 .add (.c2 .mul (.var 5) (.num 75)) (.num 22))) (.cons (.c2 .rd (.var 4) (.c2 .add (.c2 .mul (.var 5) (.num 75)) (.num 23))) (.cons (.c2 .rd (.var 4) (.c2 .add (.c2 .mul (.var 5) (.num 75)) (.num 24))) (.cons (.c2 .rd (.var 4) (.c2 .add (.c2 .mul (.var 5) (.num 75)) (.num 25))) (.cons (.c2 .rd (.var 4) (.c2 .add (.c2 .mul (.var 5) (.num 75)) (.num 26))) (.cons (.c2 .rd (.var 4) (.c2 .add (.c2 .mul (.var 5) (.num 75)) (.num 27))) (.cons (.c2 .rd (.var 4) (.c2 .add (.c2 .mul (.var 5) (.num 75)) (.num 28))) (.cons (.c2 .rd (.var 4) (.c2 .add (.c2 .mul (.var 5) (.num 75)) (.num 29))) (.cons (.c2 .rd (.var 4) (.c2 .add (.c2 .mul (.var 5) (.num 75)) (.num 30))) (.cons (.c2 .rd (.var 4) (.c2 .add (.c2 .mul (.var 5) (.num 75)) (.num 31))) (.cons (.c2 .rd (.var 4) (.c2 .add (.c2 .mul (.var 5) (.num 75)) (.num 32))) (.cons (.c2 .rd (.var 4) (.c2 .add (.c2 .mul (.var 5) (.num 75)) (.num 33))) (.cons (.c2 .rd (.var 4) (.c2 .add (.c2 .mul (.var 5) (.num 75)) (.num 34))) (.cons (.c2 .rd (.var 4) (.c2 .add (.c2 .mul (.var 5) (.num 75)) (.num 35))) (.cons (.c2 .rd (.var 4) (.c2 .add (.c2 .mul (.var 5) (.num 75)) (.num 36))) (.cons (.c2 .rd (.var 4) (.c2 .add (.c2 .mul (.var 5) (.num 75)) (.num 37))) (.cons (.c2 .rd (.var 4) (.c2 .add (.c2 .mul (.var 5) (.num 75)) (.num 38))) (.cons (.c2 .rd (.var 4) (.c2 .add (.c2 .mul (.var 5) (.num 75)) (.num 39))) (.cons (.c2 .rd (.var 4) (.c2 .add (.c2 .mul (.var 5) (.num 75)) (.num 40))) (.cons (.c2 .rd (.var 4) (.c2 .add (.c2 .mul (.var 5) (.num 75)) (.num 41))) (.cons (.c2 .rd (.var 4) (.c2 .add (.c2 .mul (.var 5) (.num 75)) (.num 42))) (.cons (.c2 .rd (.var 4) (.c2 .add (.c2 .mul (.var 5) (.num 75)) (.num 43))) (.cons (.c2 .rd (.var 4) (.c2 .add (.c2 .mul (.var 5) (.num 75)) (.num 44))) (.cons (.c2 .rd (.var 4) (.c2 .add (.c2 .mul (.var 5) (.num 75)) (.num 45))) (.cons (.c2 .rd (.var 4) (.c2 .add (.c2 .mul (.var 5) (.num 75)) (.num 46))) (.cons (.c2 .rd (.var 4) (.c2 .add (.c2 .mul (.var 5) (.num 75)) (.num 47))) (.cons (.c2 .rd (.var 4) (.c2 .add (.c2 .mul (.var 5) (.num 75)) (.num 48))) (.cons (.c2 .rd (.var 4) (.c2 .add (.c2 .mul (.var 5) (.num 75)) (.num 49))) (.cons (.c2 .rd (.var 4) (.c2 .add (.c2 .mul (.var 5) (.num 75)) (.num 50))) (.cons (.c2 .rd (.var 4) (.c2 .add (.c2 .mul (.var 5) (.num 75)) (.num 51))) (.cons (.c2 .rd (.var 4) (.c2 .add (.c2 .mul (.var 5) (.num 75)) (.num 52))) (.cons (.c2 .rd (.var 4) (.c2 .add (.c2 .mul (.var 5) (.num 75)) (.num 53))) (.cons (.c2 .rd (.var 4) (.c2 .add (.c2 .mul (.var 5) (.num 75)) (.num 54))) (.cons (.c2 .rd (.var 4) (.c2 .add (.c2 .mul (.var 5) (.num 75)) (.num 55))) (.cons (.c2 .rd (.var 4) (.c2 .add (.c2 .mul (.var 5) (.num 75)) (.num 56))) (.cons (.c2 .rd (.var 4) (.c2 .add (.c2 .mul (.var 5) (.num 75)) (.num 57))) (.cons (.c2 .rd (.var 4) (.c2 .add (.c2 .mul (.var 5) (.num 75)) (.num 58))) (.cons (.c2 .rd (.var 4) (.c2 .add (.c2 .mul (.var 5) (.num 75)) (.num 59))) (.cons (.c2 .rd (.var 4) (.c2 .add (.c2 .mul (.var 5) (.num 75)) (.num 60))) (.cons (.c2 .rd (.var 4) (.c2 .add (.c2 .mul (.var 5) (.num 75)) (.num 61))) (.cons (.c2 .rd (.var 4) (.c2 .add (.c2 .mul (.var 5) (.num 75)) (.num 62))) (.cons (.c2 .rd (.var 4) (.c2 .add (.c2 .mul (.var 5) (.num 75)) (.num 63))) (.cons (.c2 .rd (.var 4) (.c2 .add (.c2 .mul (.var 5) (.num 75)) (.num 64))) (.cons (.c2 .rd (.var 4) (.c2 .add (.c2 .mul (.var 5) (.num 75)) (.num 65))) (.cons (.c2 .rd (.var 4) (.c2 .add (.c2 .mul (.var 5) (.num 75)) (.num 66))) (.cons (.c2 .rd (.var 4) (.c2 .add (.c2 .mul (.var 5) (.num 75)) (.num 67))) (.cons (.c2 .rd (.var 4) (.c2 .add (.c2 .mul (.var 5) (.num 75)) (.num 68))) (.cons (.c2 .rd (.var 4) (.c2 .add (.c2 .mul (.var 5) (.num 75)) (.num 69))) (.cons (.c2 .rd (.var 4) (.c2 .add (.c2 .mul (.var 5) (.num 75)) (.num 70))) (.cons (.c2 .rd (.var 4) (.c2 .add (.c2 .mul (.var 5) (.num 75)) (.num 71))) (.cons (.c2 .rd (.var 4) (.c2 .add (.c2 .mul (.var 5) (.num 75)) (.num 72))) (.cons (.c2 .rd (.var 4) (.c2 .add (.c2 .mul (.var 5) (.num 75)) (.num 73))) (.cons (.c2 .rd (.var 4) (.c2 .add (.c2 .mul (.var 5) (.num 75)) (.num 74))) .nil)))))))))))))))))))))))))))))))))))))))))))))))))))))))))))))))))))))))))
def xRmPacksB8 : T := (.c2 .add (.fn 84 (.var 7) (.fn 73 (.c2 .rd (.var 4) (.c2 .add (.c2 .mul (.var 5) (.num 75)) (.num 2))) .nil .nil) .nil) (.c2 .add (.fn 73 (.c2 .rd (.var 4) (.c2 .add (.c2 .mul (.var 5) (.num 75)) (.num 2))) .nil .nil) (.c2 .sub (.var 8) (.var 7))))
def xRmPacksB9 : T := (.c2 .take (.c2 .sub xRmPacksB8 (.fn 84 (.var 7) (.fn 73 (.c2 .rd (.var 4) (.c2 .add (.c2 .mul (.var 5) (.num 75)) (.num 2))) .nil .nil) .nil)) (.c2 .drop (.fn 84 (.var 7) (.fn 73 (.c2 .rd (.var 4) (.c2 .add (.c2 .mul (.var 5) (.num 75)) (.num 2))) .nil .nil) .nil) (.fn 82 (.var 6) (.cons (.var 7) (.cons (.var 8) .nil)) xRmPacksB7)))
def xRmPacksB10 : T := (.c2 .eq (.c2 .sub xRmPacksB8 (.fn 84 (.var 7) (.fn 73 (.c2 .rd (.var 4) (.c2 .add (.c2 .mul (.var 5) (.num 75)) (.num 2))) .nil .nil) .nil)) (.c1 .len xRmPacksB9))
def treeRmPacksB : M (V × St) :=
(.chk (.c2 .le (.num 0) (.fn 66 (.var 1) (.num 257) .nil))
(.chk (.c2 .lt (.fn 66 (.var 1) (.num 257) .nil) (.num 257))
(.chk (.c2 .le (.num 0) (.fn 66 (.var 2) (.num 257) .nil))
(.chk (.c2 .lt (.fn 66 (.var 2) (.num 257) .nil) (.num 257))
(.chk (.c1 (.kin [.u8]) (.fn 83 (.c2 .take (.num 2048) (.var 0)) (.fn 66 (.var 1) (.num 257) .nil) (.fn 66 (.var 2) (.num 257) .nil)))
(.chk (.c2 .eq (.c1 .len (.fn 83 (.c2 .take (.num 2048) (.var 0)) (.fn 66 (.var 1) (.num 257) .nil) (.fn 66 (.var 2) (.num 257) .nil))) (.c2 .add (.c2 .add (.fn 66 (.var 1) (.num 257) .nil) (.num 2048)) (.fn 66 (.var 2) (.num 257) .nil)))
(.loop 0 5 8 [(.num 0), (.fn 83 (.c2 .take (.num 2048) (.var 0)) (.fn 66 (.var 1) (.num 257) .nil) (.fn 66 (.var 2) (.num 257) .nil)), (.fn 66 (.var 1) (.num 257) .nil), (.c2 .add (.fn 66 (.var 1) (.num 257) .nil) (.c1 .len (.c2 .take (.num 2048) (.var 0)))), (.num 0), (.num 0), (.num 2048), (.c2 .take (.num 2048) (.var 0))] [((.c2 .le (.num 0) (.var 5)), true), ((.c2 .le (.num 0) (.var 10)), true), ((.c2 .le (.var 10) (.num 1000)), true), ((.c2 .le (.num 0) (.var 11)), true), ((.c2 .le (.var 11) (.num 2048)), true), ((.c2 .eq (.c1 .len (.var 12)) (.var 11)), true), ((.c1 (.kin [.u8]) (.var 12)), true), ((.c2 .le (.num 0) (.var 7)), true), ((.c2 .le (.var 7) (.var 8)), true), ((.c2 .le (.var 8) (.c1 .len (.var 6))), true), ((.c2 .le (.c2 .sub (.var 8) (.var 7)) (.num 2048)), true), ((.c2 .le (.c1 .len (.var 6)) (.num 2560)), true), ((.c2 .le (.var 7) (.num 2560)), true), ((.c2 .le (.num 0) (.var 8)), true), ((.c2 .le (.var 8) (.num 2560)), true), ((.c2 .le (.num 0) (.var 9)), true), ((.c2 .le (.var 9) (.num 1000)), true), ((.c1 (.kin [.u8]) (.var 6)), true)]
 (.split (.c2 .lt (.var 5) (.var 3))
  (.split (.c2 .lt (.var 5) (.num 30))
   (.chk (.c2 .le (.c2 .add (.c2 .mul (.var 5) (.num 75)) (.num 1)) (.c1 .len (.var 4)))
   (.split (.c1 .not (.c2 .eq (.c2 .rd (.var 4) (.c2 .mul (.var 5) (.num 75))) (.num 0)))
    (.chk (.c2 .le (.c2 .add (.c2 .mul (.var 5) (.num 75)) (.num 2)) (.c1 .len (.var 4)))
    (.split (.c2 .eq xRmPacksB0 (.num 0))
     (.chk (.c2 .le (.num 4) (.fn 73 (.c2 .rd (.var 4) (.c2 .add (.c2 .mul (.var 5) (.num 75)) (.num 1))) .nil .nil))
     (.chk (.c2 .le (.fn 73 (.c2 .rd (.var 4) (.c2 .add (.c2 .mul (.var 5) (.num 75)) (.num 1))) .nil .nil) (.c2 .sub (.var 8) (.var 7)))
     (.split (.c2 .eq (.fn 75 (.var 12) (.c2 .rd (.var 4) (.c2 .add (.c2 .mul (.var 5) (.num 75)) (.num 1))) .nil) (.num 0))
      (.chk (.c1 (.kin [.u8]) (.fn 77 (.var 12) (.c2 .rd (.var 4) (.c2 .add (.c2 .mul (.var 5) (.num 75)) (.num 1))) .nil))
      (.chk (.c2 .le (.c1 .len (.fn 77 (.var 12) (.c2 .rd (.var 4) (.c2 .add (.c2 .mul (.var 5) (.num 75)) (.num 1))) .nil)) (.c1 .len (.var 12)))
      (.split (.c1 .not (.c2 .leq xRmPacksB2 xRmPacksB3))
       (.ret (.w (.c (.b (.bol false))), ⟨[], [], 630, 13, []⟩))
       (.chk xRmPacksB5
       (.chk (.c2 .le (.c1 .len (.fn 77 (.var 12) (.c2 .rd (.var 4) (.c2 .add (.c2 .mul (.var 5) (.num 75)) (.num 1))) .nil)) (.num 140737488351232))
       (.split (.c1 .not (.c2 .leq xRmPacksB4 (.fn 77 (.var 12) (.c2 .rd (.var 4) (.c2 .add (.c2 .mul (.var 5) (.num 75)) (.num 1))) .nil)))
        (.ret (.w (.c (.b (.bol false))), ⟨[], [], 634, 13, []⟩))
        (.split (.c1 .not (.c2 .eq (.c2 .add (.var 9) (.num 1)) (.c2 .add (.var 10) (.num 1))))
         (.ret (.w (.c (.b (.bol false))), ⟨[], [], 634, 13, []⟩))
         (.back 0 5 [(.c2 .add (.var 5) (.num 1)), (.var 6), (.c2 .add (.var 7) (.fn 73 (.c2 .rd (.var 4) (.c2 .add (.c2 .mul (.var 5) (.num 75)) (.num 1))) .nil .nil)), (.var 8), (.c2 .add (.var 9) (.num 1)), (.c2 .add (.var 10) (.num 1)), (.c1 .len (.fn 77 (.var 12) (.c2 .rd (.var 4) (.c2 .add (.c2 .mul (.var 5) (.num 75)) (.num 1))) .nil)), (.fn 77 (.var 12) (.c2 .rd (.var 4) (.c2 .add (.c2 .mul (.var 5) (.num 75)) (.num 1))) .nil)]))))))))
      (.split (.c1 .not (.c2 .leq xRmPacksB2 xRmPacksB6))
       (.ret (.w (.c (.b (.bol false))), ⟨[], [], 630, 13, []⟩))
       (.split (.c1 .not (.c2 .eq (.num 0) (.fn 75 (.var 12) (.c2 .rd (.var 4) (.c2 .add (.c2 .mul (.var 5) (.num 75)) (.num 1))) .nil)))
        (.ret (.w (.c (.b (.bol false))), ⟨[], [], 630, 13, []⟩))
        (.chk xRmPacksB5
        (.split (.c1 .not (.c2 .leq xRmPacksB4 (.var 12)))
         (.ret (.w (.c (.b (.bol false))), ⟨[], [], 634, 13, []⟩))
         (.split (.c1 .not (.c2 .eq (.c2 .add (.var 9) (.num 1)) (.var 10)))
          (.ret (.w (.c (.b (.bol false))), ⟨[], [], 634, 13, []⟩))
          (.back 0 5 [(.c2 .add (.var 5) (.num 1)), (.var 6), (.c2 .add (.var 7) (.fn 73 (.c2 .rd (.var 4) (.c2 .add (.c2 .mul (.var 5) (.num 75)) (.num 1))) .nil .nil)), (.var 8), (.c2 .add (.var 9) (.num 1)), (.var 10), (.var 11), (.var 12)])))))))))
     (.split (.c2 .eq (.fn 75 (.var 12) (.c2 .rd (.var 4) (.c2 .add (.c2 .mul (.var 5) (.num 75)) (.num 1))) .nil) (.num 0))
      (.chk (.c1 (.kin [.u8]) (.fn 77 (.var 12) (.c2 .rd (.var 4) (.c2 .add (.c2 .mul (.var 5) (.num 75)) (.num 1))) .nil))
      (.chk (.c2 .le (.c1 .len (.fn 77 (.var 12) (.c2 .rd (.var 4) (.c2 .add (.c2 .mul (.var 5) (.num 75)) (.num 1))) .nil)) (.c1 .len (.var 12)))
      (.split (.c1 .not (.c2 .leq xRmPacksB6 xRmPacksB3))
       (.ret (.w (.c (.b (.bol false))), ⟨[], [], 630, 13, []⟩))
       (.ret (.w (.c (.b (.bol false))), ⟨[], [], 630, 13, []⟩)))))
      (.split (.c1 .not (.c2 .eq xRmPacksB0 (.fn 75 (.var 12) (.c2 .rd (.var 4) (.c2 .add (.c2 .mul (.var 5) (.num 75)) (.num 1))) .nil)))
       (.ret (.w (.c (.b (.bol false))), ⟨[], [], 630, 13, []⟩))
       (.chk (.c2 .eq (.c2 .sub (.var 8) (.var 7)) (.c1 .len (.c2 .take (.c2 .sub (.var 8) (.var 7)) (.c2 .drop (.var 7) (.var 6)))))
       (.split (.c1 .not (.c2 .leq (.c2 .take (.c2 .sub (.var 8) (.var 7)) (.c2 .drop (.var 7) (.var 6))) (.var 12)))
        (.ret (.w (.c (.b (.bol false))), ⟨[], [], 634, 13, []⟩))
        (.split (.c1 .not (.c2 .eq (.var 9) (.var 10)))
         (.ret (.w (.c (.b (.bol false))), ⟨[], [], 634, 13, []⟩))
         (.back 0 5 [(.c2 .add (.var 5) (.num 1)), (.var 6), (.var 7), (.var 8), (.var 9), (.var 10), (.var 11), (.var 12)]))))))))
    (.chk (.c2 .le (.c2 .add (.c2 .mul (.var 5) (.num 75)) (.num 75)) (.c1 .len (.var 4)))
    (.split (.c2 .eq (.fn 70 xRmPacksB7 (.var 12) .nil) (.num 0))
     (.chk (.c1 (.kin [.u8]) (.fn 71 xRmPacksB7 (.var 12) .nil))
     (.chk (.c2 .le (.c1 .len (.fn 71 xRmPacksB7 (.var 12) .nil)) (.num 2048))
     (.split (.c2 .eq (.fn 70 xRmPacksB7 (.c2 .take (.c2 .sub (.var 8) (.var 7)) (.c2 .drop (.var 7) (.var 6))) .nil) (.num 0))
      (.chk (.c1 (.kin [.u8]) (.fn 82 (.var 6) (.cons (.var 7) (.cons (.var 8) .nil)) xRmPacksB7))
      (.chk (.c2 .le (.c1 .len (.fn 82 (.var 6) (.cons (.var 7) (.cons (.var 8) .nil)) xRmPacksB7)) (.num 2560))
      (.chk (.c2 .le (.num 4) (.fn 73 (.c2 .rd (.var 4) (.c2 .add (.c2 .mul (.var 5) (.num 75)) (.num 2))) .nil .nil))
      (.chk (.c2 .le (.fn 73 (.c2 .rd (.var 4) (.c2 .add (.c2 .mul (.var 5) (.num 75)) (.num 2))) .nil .nil) (.num 40))
      (.chk (.c2 .le (.c2 .add (.fn 73 (.c2 .rd (.var 4) (.c2 .add (.c2 .mul (.var 5) (.num 75)) (.num 2))) .nil .nil) (.c2 .sub (.var 8) (.var 7))) (.num 2048))
      (.chk (.c2 .le (.num 0) (.fn 84 (.var 7) (.fn 73 (.c2 .rd (.var 4) (.c2 .add (.c2 .mul (.var 5) (.num 75)) (.num 2))) .nil .nil) .nil))
      (.chk (.c2 .le (.fn 84 (.var 7) (.fn 73 (.c2 .rd (.var 4) (.c2 .add (.c2 .mul (.var 5) (.num 75)) (.num 2))) .nil .nil) .nil) (.num 2560))
      (.chk (.c2 .le xRmPacksB8 (.c1 .len (.fn 82 (.var 6) (.cons (.var 7) (.cons (.var 8) .nil)) xRmPacksB7)))
      (.chk xRmPacksB10
      (.split (.c1 .not (.c2 .leq xRmPacksB9 (.fn 71 xRmPacksB7 (.var 12) .nil)))
       (.ret (.w (.c (.b (.bol false))), ⟨[], [], 632, 13, []⟩))
       (.split (.c1 .not (.c2 .eq (.c2 .add (.var 9) (.num 1)) (.c2 .add (.var 10) (.num 1))))
        (.ret (.w (.c (.b (.bol false))), ⟨[], [], 632, 13, []⟩))
        (.back 0 5 [(.c2 .add (.var 5) (.num 1)), (.fn 82 (.var 6) (.cons (.var 7) (.cons (.var 8) .nil)) xRmPacksB7), (.fn 84 (.var 7) (.fn 73 (.c2 .rd (.var 4) (.c2 .add (.c2 .mul (.var 5) (.num 75)) (.num 2))) .nil .nil) .nil), xRmPacksB8, (.c2 .add (.var 9) (.num 1)), (.c2 .add (.var 10) (.num 1)), (.c1 .len (.fn 71 xRmPacksB7 (.var 12) .nil)), (.fn 71 xRmPacksB7 (.var 12) .nil)]))))))))))))
      (.ret (.w (.c (.b (.bol false))), ⟨[], [], 628, 13, []⟩)))))
     (.split (.c2 .eq (.fn 70 xRmPacksB7 (.c2 .take (.c2 .sub (.var 8) (.var 7)) (.c2 .drop (.var 7) (.var 6))) .nil) (.num 0))
      (.chk (.c1 (.kin [.u8]) (.fn 82 (.var 6) (.cons (.var 7) (.cons (.var 8) .nil)) xRmPacksB7))
      (.chk (.c2 .le (.c1 .len (.fn 82 (.var 6) (.cons (.var 7) (.cons (.var 8) .nil)) xRmPacksB7)) (.num 2560))
      (.chk (.c2 .le (.num 4) (.fn 73 (.c2 .rd (.var 4) (.c2 .add (.c2 .mul (.var 5) (.num 75)) (.num 2))) .nil .nil))
      (.chk (.c2 .le (.fn 73 (.c2 .rd (.var 4) (.c2 .add (.c2 .mul (.var 5) (.num 75)) (.num 2))) .nil .nil) (.num 40))
      (.chk (.c2 .le (.c2 .add (.fn 73 (.c2 .rd (.var 4) (.c2 .add (.c2 .mul (.var 5) (.num 75)) (.num 2))) .nil .nil) (.c2 .sub (.var 8) (.var 7))) (.num 2048))
      (.chk (.c2 .le (.num 0) (.fn 84 (.var 7) (.fn 73 (.c2 .rd (.var 4) (.c2 .add (.c2 .mul (.var 5) (.num 75)) (.num 2))) .nil .nil) .nil))
      (.chk (.c2 .le (.fn 84 (.var 7) (.fn 73 (.c2 .rd (.var 4) (.c2 .add (.c2 .mul (.var 5) (.num 75)) (.num 2))) .nil .nil) .nil) (.num 2560))
      (.chk (.c2 .le xRmPacksB8 (.c1 .len (.fn 82 (.var 6) (.cons (.var 7) (.cons (.var 8) .nil)) xRmPacksB7)))
      (.split (.c1 .not (.c2 .eq (.num 0) (.fn 70 xRmPacksB7 (.var 12) .nil)))
       (.ret (.w (.c (.b (.bol false))), ⟨[], [], 628, 13, []⟩))
       (.chk xRmPacksB10
       (.split (.c1 .not (.c2 .leq xRmPacksB9 (.var 12)))
        (.ret (.w (.c (.b (.bol false))), ⟨[], [], 632, 13, []⟩))
        (.split (.c1 .not (.c2 .eq (.c2 .add (.var 9) (.num 1)) (.var 10)))
         (.ret (.w (.c (.b (.bol false))), ⟨[], [], 632, 13, []⟩))
         (.back 0 5 [(.c2 .add (.var 5) (.num 1)), (.fn 82 (.var 6) (.cons (.var 7) (.cons (.var 8) .nil)) xRmPacksB7), (.fn 84 (.var 7) (.fn 73 (.c2 .rd (.var 4) (.c2 .add (.c2 .mul (.var 5) (.num 75)) (.num 2))) .nil .nil) .nil), xRmPacksB8, (.c2 .add (.var 9) (.num 1)), (.var 10), (.var 11), (.var 12)])))))))))))))
      (.split (.c1 .not (.c2 .eq (.fn 70 xRmPacksB7 (.c2 .take (.c2 .sub (.var 8) (.var 7)) (.c2 .drop (.var 7) (.var 6))) .nil) (.fn 70 xRmPacksB7 (.var 12) .nil)))
       (.ret (.w (.c (.b (.bol false))), ⟨[], [], 628, 13, []⟩))
       (.chk (.c2 .eq (.c2 .sub (.var 8) (.var 7)) (.c1 .len (.c2 .take (.c2 .sub (.var 8) (.var 7)) (.c2 .drop (.var 7) (.var 6)))))
       (.split (.c1 .not (.c2 .leq (.c2 .take (.c2 .sub (.var 8) (.var 7)) (.c2 .drop (.var 7) (.var 6))) (.var 12)))
        (.ret (.w (.c (.b (.bol false))), ⟨[], [], 632, 13, []⟩))
        (.split (.c1 .not (.c2 .eq (.var 9) (.var 10)))
         (.ret (.w (.c (.b (.bol false))), ⟨[], [], 632, 13, []⟩))
         (.back 0 5 [(.c2 .add (.var 5) (.num 1)), (.var 6), (.var 7), (.var 8), (.var 9), (.var 10), (.var 11), (.var 12)]))))))))))
   (.ret (.w (.c (.b (.bol true))), ⟨[], [], 5030, 13, []⟩)))
  (.ret (.w (.c (.b (.bol true))), ⟨[], [], 5030, 13, []⟩))))))))))
theorem treeRmPacksB_is : funTree (ctxN Go.Proofs.Tryz.prog annsRm consRm 8) annsRm 3 tPacksB.vs tPacksB.bs tPacksB.n (preF tPacksB.res) = treeRmPacksB := by kernel_rfl
end Go.Proofs.YtfhjlimdakphcaaGreat.Sx
/- Sx laws of wrapping: packets answer as the document's rows: the trees' leaves are true. Conditions: none. -/
set_option linter.unusedVariables false
set_option linter.unusedSimpArgs false
set_option maxRecDepth 100000
namespace Go.Proofs.YtfhjlimdakphcaaGreat.Sx
open Go
theorem consRm_ok : ConsOk Go.Proofs.Tryz.prog ΦP consRm := moreCons (con_ok wlAwake_ok) (moreCons (con_ok wlEq_ok) (moreCons (con_ok clone_ok) (moreCons (con_ok bring_ok) (moreCons (con_ok new_ok) (moreCons (con_ok on_ok) (moreCons (con_ok off_ok) (moreCons (con_ok (wpuR_ok sigW)) (moreCons (con_ok (wpoR_ok sigW)) noCons))))))))
/-- The row of a row's cells, wrapped. -/
def rowT (X : T) : Nat → List IntKind → T
  | _, [] => .nil
  | i, k :: ks => .cons (.wr k (.c2 .rd X (.num (.ofNat i)))) (rowT X (i + 1) ks)
theorem rowT_same {ρ : Env} {X Y : T} (h : (T.den ΦP ρ X).list = (T.den ΦP ρ Y).list) : ∀ (ks : List IntKind) (i : Nat), (T.den ΦP ρ (rowT X i ks)).list = (T.den ΦP ρ (rowT Y i ks)).list
  | [], i => rfl
  | k :: ks, i => by
    show k.wrap ((T.den ΦP ρ X).list[(i : Int).toNat]?.getD 0) :: (T.den ΦP ρ (rowT X (i + 1) ks)).list = k.wrap ((T.den ΦP ρ Y).list[(i : Int).toNat]?.getD 0) :: _
    rw [h, rowT_same h ks (i + 1)]
/-- What holds at the head of the loop. -/
structure AtPk (ρ ρ' : Env) (i : Nat) : Prop where
  same : ∀ j, j < 5 → ρ' j = ρ j
  v5 : (ρ' 5).int = i
  hi : i ≤ 30
  pk : PkL (ρ' 6).list (ρ' 7).int (ρ' 8).int
  mv : (ρ' 9).int = (ρ' 10).int
  m0 : 0 ≤ (ρ' 10).int
  m1 : (ρ' 10).int ≤ i
  len : (ρ' 11).int = (ρ' 12).list.length
  dat : dataOf (ρ' 6).list (ρ' 7).int (ρ' 8).int = (ρ' 12).list
def rpJ : Inv := ⟨fun _ ρ ds => ∃ i : Nat, (nthD ds 0).int = i ∧ i ≤ 30 ∧ PkL (nthD ds 1).list (nthD ds 2).int (nthD ds 3).int ∧ (nthD ds 4).int = (nthD ds 5).int ∧ 0 ≤ (nthD ds 5).int ∧ (nthD ds 5).int ≤ i ∧ (nthD ds 6).int = (nthD ds 7).list.length ∧
  dataOf (nthD ds 1).list (nthD ds 2).int (nthD ds 3).int = (nthD ds 7).list, fun _ ρ ds => 30 - (nthD ds 0).int.toNat⟩
def rpFs : Facts := (.c2 .le (.num 0) (.var 5), true) :: (.c2 .le (.num 0) (.var 10), true) :: (.c2 .le (.var 10) (.num 1000), true) :: (.c2 .le (.num 0) (.var 11), true) :: (.c2 .le (.var 11) (.num 2048), true) :: (.c2 .eq (.c1 .len (.var 12)) (.var 11), true) :: (.c1 (.kin [.u8]) (.var 12), true) :: pkFs 6
theorem rpFs_ok {ρ ρ' : Env} {i : Nat} (h : AtPk ρ ρ' i) : rpFs.hold ΦP ρ' := by
  intro t p hm
  have hl := h.pk.len
  have hb := h.pk.dbytes
  rw [h.dat] at hl hb
  have h1 := h.pk.f0
  have h2 := h.pk.ft
  have h3 := h.pk.tm
  have h4 := h.pk.d
  have h5 := h.pk.ml
  have h6 := h.m0
  have h7 := h.m1
  have h8 := h.hi
  have h9 := h.mv
  have h10 := h.len
  simp only [rpFs, pkFs, List.mem_cons, Prod.mk.injEq, List.not_mem_nil, or_false] at hm
  rcases hm with ⟨rfl, rfl⟩ | ⟨rfl, rfl⟩ | ⟨rfl, rfl⟩ | ⟨rfl, rfl⟩ | ⟨rfl, rfl⟩ | ⟨rfl, rfl⟩ | ⟨rfl, rfl⟩ | ⟨rfl, rfl⟩ | ⟨rfl, rfl⟩ | ⟨rfl, rfl⟩ | ⟨rfl, rfl⟩ | ⟨rfl, rfl⟩ | ⟨rfl, rfl⟩ | ⟨rfl, rfl⟩ | ⟨rfl, rfl⟩ | ⟨rfl, rfl⟩ | ⟨rfl, rfl⟩ | ⟨rfl, rfl⟩
  · rw [le_t, den_var, h.v5]; exact Int.natCast_nonneg _
  · rw [le_t, den_var]; exact h6
  · rw [le_t, den_var]; show (ρ' 10).int ≤ (1000 : Int); omega
  · rw [le_t, den_var]; show (0 : Int) ≤ (ρ' 11).int; omega
  · rw [le_t, den_var]; show (ρ' 11).int ≤ (2048 : Int); omega
  · rw [eq_t, int_len, den_var, den_var]; exact h10.symm
  · rw [bytes_t, den_var]; exact hb
  · rw [le_t, den_var]; exact h1
  · rw [le_t, den_var, den_var]; exact h2
  · rw [le_t, int_len, den_var, den_var]; exact h3
  · rw [le_t, int_sub, den_var, den_var]; exact h4
  · rw [le_t, int_len, den_var]; show ((ρ' 6).list.length : Int) ≤ 2560; omega
  · rw [le_t, den_var]; show (ρ' 7).int ≤ (2560 : Int); omega
  · rw [le_t, den_var]; show (0 : Int) ≤ (ρ' 8).int; omega
  · rw [le_t, den_var]; show (ρ' 8).int ≤ (2560 : Int); omega
  · rw [le_t, den_var]; show (0 : Int) ≤ (ρ' 9).int; omega
  · rw [le_t, den_var]; show (ρ' 9).int ≤ (1000 : Int); omega
  · rw [bytes_t, den_var]; exact h.pk.bytes
/-- The step's turn: what a round hands back fits. -/
theorem rp_back {ρ : Env} {i : Nat} {ds ds' : List D} (h0 : (nthD ds 0).int = i) (h30 : i < 30) (e0 : (nthD ds' 0).int = i + 1) (hp : PkL (nthD ds' 1).list (nthD ds' 2).int (nthD ds' 3).int) (hd : dataOf (nthD ds' 1).list (nthD ds' 2).int (nthD ds' 3).int = (nthD ds' 7).list)
    (hv : (nthD ds' 4).int = (nthD ds' 5).int) (hv0 : 0 ≤ (nthD ds' 5).int) (hv1 : (nthD ds' 5).int ≤ i + 1) (hl : (nthD ds' 6).int = (nthD ds' 7).list.length) : rpJ.I 0 ρ ds' ∧ rpJ.μ 0 ρ ds' < rpJ.μ 0 ρ ds := by
  refine ⟨⟨i + 1, e0, by omega, hp, hv, hv0, by omega, hl, hd⟩, ?_⟩
  show 30 - (nthD ds' 0).int.toNat < 30 - (nthD ds 0).int.toNat
  rw [h0, e0]; omega
theorem at_pk {ρ : Env} {ds : List D} (hn : ds.length = 8) (h : rpJ.I 0 ρ ds) : ∃ i : Nat, (nthD ds 0).int = i ∧ AtPk ρ (upd ρ 5 ds) i := by
  obtain ⟨i, i0, i30, hp, hmv, hm0, hm1, hl, hd⟩ := h
  have e : ∀ j, j < 8 → upd ρ 5 ds (5 + j) = nthD ds j := fun j hj => upd_at (by omega)
  refine ⟨i, i0, fun j hj => upd_lo ds hj, ?_, i30, ?_, ?_, ?_, ?_, ?_, ?_⟩
  · rw [e 0 (by decide)]; exact i0
  · rw [e 1 (by decide), e 2 (by decide), e 3 (by decide)]; exact hp
  · rw [e 4 (by decide), e 5 (by decide)]; exact hmv
  · rw [e 5 (by decide)]; exact hm0
  · rw [e 5 (by decide)]; exact hm1
  · rw [e 6 (by decide), e 7 (by decide)]; exact hl
  · rw [e 1 (by decide), e 2 (by decide), e 3 (by decide), e 7 (by decide)]; exact hd
/-- The data's term. -/
def dT : T := .c2 .take (.c2 .sub (.var 8) (.var 7)) (.c2 .drop (.var 7) (.var 6))
theorem den_dat {ρ : Env} {a b m : T} (h0 : 0 ≤ (T.den ΦP ρ a).int) (h1 : (T.den ΦP ρ a).int ≤ (T.den ΦP ρ b).int) : (T.den ΦP ρ (.c2 .take (.c2 .sub b a) (.c2 .drop a m))).list = dataOf (T.den ΦP ρ m).list (T.den ΦP ρ a).int (T.den ΦP ρ b).int := by
  rw [list_take, list_drop, int_sub, dataOf, show ((T.den ΦP ρ b).int - (T.den ΦP ρ a).int).toNat = (T.den ΦP ρ b).int.toNat - (T.den ΦP ρ a).int.toNat from by omega]
theorem den_dT {ρ ρ' : Env} {i : Nat} (h : AtPk ρ ρ' i) : (T.den ΦP ρ' dT).list = (ρ' 12).list := by
  rw [dT, den_dat (a := .var 7) (b := .var 8) (m := .var 6) h.pk.f0 h.pk.ft]; exact h.dat
/-- The head of what is done: cells 2 to 74 of 75. -/
def hdRd : Nat → Nat → T
  | _, 0 => .nil
  | j, n + 1 => .cons (.c2 .rd (.var 4) (.c2 .add (.c2 .mul (.var 5) (.num 75)) (.num (.ofNat j)))) (hdRd (j + 1) n)
theorem den_hdRd {ρ' : Env} {i : Nat} (v5 : (ρ' 5).int = i) : ∀ (n j : Nat), 75 * i + j + n ≤ (ρ' 4).list.length → (T.den ΦP ρ' (hdRd j n)).list = ((ρ' 4).list.drop (75 * i + j)).take n
  | 0, j, _ => rfl
  | n + 1, j, h => by
    show (ρ' 4).list[((ρ' 5).int * 75 + ((j : Nat) : Int)).toNat]?.getD 0 :: (T.den ΦP ρ' (hdRd (j + 1) n)).list = _
    rw [den_hdRd v5 n (j + 1) (by omega), v5, show ((i : Int) * 75 + (j : Int)).toNat = 75 * i + j from by omega, List.drop_eq_getElem_cons (show 75 * i + j < _ by omega), List.take_succ_cons, List.getElem?_eq_getElem (by omega)]; rfl
theorem doHead_good {l : List Int} {i n : Nat} (hk : inKinds kDo 0 l = true) (hl : l.length = 75 * n) (hi : i < n) : GoodInts kHead ((l.drop (75 * i + 2)).take 73) := by
  rw [inKinds_iff] at hk
  have h73 : ((l.drop (75 * i + 2)).take 73).length = 73 := by rw [List.length_take, List.length_drop]; omega
  refine ⟨by rw [h73]; rfl, fun j k z h1 h2 => ?_⟩
  have hj : j < 73 := (List.getElem?_eq_some_iff.1 h1).1
  rw [List.getElem?_take, if_pos hj, List.getElem?_drop] at h2
  have := hk _ _ h2
  have e : kAt kDo (0 + (75 * i + 2 + j)) = k := by
    rw [Nat.zero_add, kAt, show kDo.length = 75 from rfl, Nat.add_assoc, Nat.mul_add_mod, Nat.mod_eq_of_lt (by omega), List.getD_eq_getElem?_getD, show 2 + j = j + 1 + 1 from by omega]
    show (kHead[j]?).getD _ = k
    rw [h1]; rfl
  rw [e] at this; exact this
theorem packsA_ok : TmplOk Go.Proofs.Tryz.prog ΦP 3 tPacksA := by
  refine tmpl_of consRm_ok treeRmPacksA_is (fun ρ res hres => ⟨rpJ, ?_⟩)
  obtain ⟨hcut, hres⟩ := chk_some hres
  obtain ⟨h0, hres⟩ := short_some hres
  obtain ⟨hb0, hres⟩ := bytes_some hres
  obtain ⟨hk, hres⟩ := inKs_some hres
  obtain ⟨n0, hres⟩ := chk_some hres
  obtain ⟨n1, hres⟩ := chk_some hres
  obtain ⟨hlen, hres⟩ := chk_some hres
  obtain ⟨hkin, hres⟩ := chk_some hres
  obtain rfl := ret_some hres
  rw [le_t, int_len, den_var] at hcut
  replace hcut : ((ρ 0).list.length : Int) ≤ 2048 := hcut
  have hb := hb0
  rw [eq_t, int_len, int_mul, den_var, den_var] at hlen
  replace hlen : ((ρ 4).list.length : Int) = (ρ 3).int * 75 := hlen
  have r1 := bring_range (ρ 1).int (n := 257) (by decide)
  have r2 := bring_range (ρ 2).int (n := 257) (by decide)
  obtain ⟨hp, hd⟩ := new_l (b := (ρ 0).list) hb (by omega) r1.1 r1.2 r2.1 r2.2
  have nl : ∀ x y : Int, 0 ≤ x → 0 ≤ y → ((newMem (ρ 0).list x y).length : Int) = x + ((ρ 0).list.length : Int) + y := by
    intro x y hx hy
    rw [newMem, List.length_append, List.length_append, List.length_replicate, List.length_replicate]
    omega
  refine ⟨by rw [le_t]; exact r1.1, by rw [lt_t]; exact r1.2, by rw [le_t]; exact r2.1, by rw [lt_t]; exact r2.2, ?_, ?_, ⟨0, rfl, Nat.zero_le _, hp, rfl, Int.le_refl _, Int.le_refl _, rfl, hd⟩, ?_⟩
  · rw [bytes_t]; exact hp.bytes
  · rw [eq_t]; exact nl _ _ r1.1 r2.1
  rintro ds hds hI
  obtain ⟨i, i0, a⟩ := at_pk hds hI
  have lo5 : ∀ j, j < 5 → upd ρ 5 ds j = ρ j := fun j hj => upd_lo ds hj
  generalize upd ρ 5 ds = ρ' at *
  refine ⟨rpFs_ok a, fun c => ⟨fun c' => ?_, fun _ => leaf_true rfl (by decide)⟩, fun _ => leaf_true rfl (by decide)⟩
  rw [lt_t, den_var, den_var, a.v5, a.same 3 (by decide)] at c
  rw [lt_t, den_var, a.v5] at c'
  replace c' : (i : Int) < 30 := c'
  have i30 : i < 30 := by omega
  have v4 : (ρ' 4).list.length = (ρ 3).int * 75 := by rw [a.same 4 (by decide)]; exact hlen
  have hidx : (T.den ΦP ρ' (.c2 .mul (.var 5) (.num 75))).int = i * 75 := by rw [int_mul, den_var, a.v5]; rfl
  have hD := den_dT a
  refine ⟨by rw [le_t, int_add, hidx, int_len, den_var, v4]; show (i : Int) * 75 + 1 ≤ _; omega, fun o => ?_, fun o => ?_⟩
  · refine ⟨by rw [le_t, int_add, hidx, int_len, den_var, v4]; show (i : Int) * 75 + 2 ≤ _; omega, ?_⟩
    have hE : (T.den ΦP ρ' xRmPacksA0).int = (T.den ΦP ρ' (.fn 75 (.var 12) (.c2 .rd (.var 4) (.c2 .add (.c2 .mul (.var 5) (.num 75)) (.num 1))) .nil)).int := by
      show popErr (T.den ΦP ρ' dT).list _ = popErr (ρ' 12).list _
      rw [hD]
    have hH : (T.den ΦP ρ' xRmPacksA2).list = (T.den ΦP ρ' xRmPacksA3).list := by
      refine rowT_same (X := xRmPacksA1) (Y := .fn 76 (.var 12) (.c2 .rd (.var 4) (.c2 .add (.c2 .mul (.var 5) (.num 75)) (.num 1))) .nil) ?_ kHead 0
      show popHead (T.den ΦP ρ' dT).list _ = popHead (ρ' 12).list _
      rw [hD]
    have hX4 : ∀ {n : Int}, (T.den ΦP ρ' (.fn 73 (.c2 .rd (.var 4) (.c2 .add (.c2 .mul (.var 5) (.num 75)) (.num 1))) .nil .nil)).int = n → 0 ≤ n → n ≤ (ρ' 8).int - (ρ' 7).int → (T.den ΦP ρ' xRmPacksA4).list = dataOf (ρ' 6).list ((ρ' 7).int + n) (ρ' 8).int := by
      intro n h1 h2 h3
      have f0 := a.pk.f0
      have e7 : (T.den ΦP ρ' (.c2 .add (.var 7) (.fn 73 (.c2 .rd (.var 4) (.c2 .add (.c2 .mul (.var 5) (.num 75)) (.num 1))) .nil .nil))).int = (ρ' 7).int + n := by rw [int_add, h1, den_var]
      refine (den_dat (a := .c2 .add (.var 7) (.fn 73 (.c2 .rd (.var 4) (.c2 .add (.c2 .mul (.var 5) (.num 75)) (.num 1))) .nil .nil)) (b := .var 8) (m := .var 6) (by rw [e7]; omega) (by rw [e7, den_var]; omega)).trans ?_
      rw [e7]; rfl
    refine ⟨fun e1 => ?_, fun e1 => ?_⟩
    · rw [eq_t, hE] at e1
      have hz : popErr (dataOf (ρ' 6).list (ρ' 7).int (ρ' 8).int) (T.den ΦP ρ' (.c2 .rd (.var 4) (.c2 .add (.c2 .mul (.var 5) (.num 75)) (.num 1)))).int = 0 := by rw [a.dat]; exact e1
      have L := off_l a.pk hz
      have n4 := L.n4
      have nle := L.le
      have hx4 := hX4 rfl (by show (0 : Int) ≤ (hdSize _ : Int); omega) nle
      have hdt := L.data
      have hby := L.bytes
      rw [a.dat] at hdt hby
      refine ⟨by rw [le_t]; exact n4, by rw [le_t, int_sub, den_var, den_var]; exact nle, fun e2 => ?_, fun e2 => ?_⟩
      · refine ⟨by rw [bytes_t]; exact hby, ?_, fun q => ?_, fun _ => ⟨?_, ?_, fun q => ?_, fun _ => ⟨fun q => ?_, fun _ => ?_⟩⟩⟩
        · rw [le_t, int_len, int_len, den_var]; show ((popRest (ρ' 12).list _).length : Int) ≤ _; rw [popRest, List.length_drop]; omega
        · exfalso; rw [not_t, leq_f] at q; exact q hH
        · show (T.den ΦP ρ' (.c2 .eq (.c2 .sub (.var 8) (.c2 .add (.var 7) (.fn 73 (.c2 .rd (.var 4) (.c2 .add (.c2 .mul (.var 5) (.num 75)) (.num 1))) .nil .nil))) (.c1 .len xRmPacksA4))).bool = true
          rw [eq_t, int_len, hx4, int_sub, int_add, den_var, den_var]; exact L.pk.len.symm
        · rw [le_t, int_len]; show ((popRest (ρ' 12).list _).length : Int) ≤ 140737488351232
          have := a.pk.len
          have := a.pk.d
          rw [a.dat] at *
          rw [popRest, List.length_drop]; omega
        · exfalso; rw [not_t, leq_f] at q; exact q (hx4.trans hdt)
        · exfalso; rw [not_t, eq_f, int_add, int_add, den_var, den_var, a.mv] at q; exact q rfl
        · refine ok_back (rp_back i0 i30 ?_ L.pk hdt ?_ ?_ ?_ rfl)
          · show (ρ' 5).int + 1 = _; rw [a.v5]
          · show (ρ' 9).int + 1 = (ρ' 10).int + 1; rw [a.mv]
          · show 0 ≤ (ρ' 10).int + 1; have := a.m0; omega
          · show (ρ' 10).int + 1 ≤ _; have := a.m1; omega
      · exfalso; rw [eq_f] at e2; exact e2 e1
    · rw [eq_f, hE] at e1
      refine ⟨fun e2 => ?_, fun e2 => ⟨fun q => ?_, fun _ => ⟨?_, fun q => ?_, fun _ => ⟨fun q => ?_, fun _ => ?_⟩⟩⟩⟩
      · exfalso; rw [eq_t] at e2; exact e1 e2
      · exfalso; rw [not_t, eq_f] at q; exact q hE
      · show (T.den ΦP ρ' (.c2 .eq (.c2 .sub (.var 8) (.var 7)) (.c1 .len dT))).bool = true
        rw [eq_t, int_len, hD, int_sub, den_var, den_var, ← a.dat]; exact a.pk.len.symm
      · exfalso; rw [not_t, leq_f] at q; exact q (hD.trans rfl)
      · exfalso; rw [not_t, eq_f, den_var, den_var] at q; exact q a.mv
      · refine ok_back (rp_back i0 i30 ?_ a.pk a.dat a.mv a.m0 ?_ a.len)
        · show (ρ' 5).int + 1 = _; rw [a.v5]
        · show (ρ' 10).int ≤ _; have := a.m1; omega
  · have hll : (ρ' 4).list.length = 75 * (ρ 3).int.toNat := by omega
    have hi3 : i < (ρ 3).int.toNat := by omega
    obtain ⟨H, hHd⟩ : ∃ H, ((ρ' 4).list.drop (75 * i + 2)).take 73 = H := ⟨_, rfl⟩
    have hH : (T.den ΦP ρ' xRmPacksA7).list = H := (den_hdRd a.v5 73 2 (by omega)).trans hHd
    have hg : GoodInts kHead H := by rw [← hHd]; exact doHead_good (by rw [a.same 4 (by decide)]; exact hkin) hll hi3
    have hk0 : (T.den ΦP ρ' (.c2 .rd (.var 4) (.c2 .add (.c2 .mul (.var 5) (.num 75)) (.num 2)))).int = g H 0 := by
      rw [← hH]; rfl
    refine ⟨by rw [le_t, int_add, hidx, int_len, den_var, v4]; show (i : Int) * 75 + 75 ≤ _; omega, ?_⟩
    have hE1 : (T.den ΦP ρ' (.fn 70 xRmPacksA7 (.var 12) .nil)).int = pushErr H (ρ' 12).list := by
      show pushErr (T.den ΦP ρ' xRmPacksA7).list _ = _; rw [hH]; rfl
    have hE2 : (T.den ΦP ρ' (.fn 70 xRmPacksA7 dT .nil)).int = pushErr H (ρ' 12).list := by
      show pushErr (T.den ΦP ρ' xRmPacksA7).list (T.den ΦP ρ' dT).list = _; rw [hH, hD]
    refine ⟨fun e1 => ?_, fun e1 => ⟨fun e2 => ?_, fun e2 => ⟨fun q => ?_, fun _ => ⟨?_, fun q => ?_, fun _ => ⟨fun q => ?_, fun _ => ?_⟩⟩⟩⟩⟩
    · rw [eq_t, hE1] at e1
      replace e1 : pushErr H (ρ' 12).list = 0 := e1
      have L := on_l a.pk hg (by rw [a.dat]; exact e1)
      have hby := L.pk.dbytes
      have hdl := L.pk.len
      rw [L.data, a.dat] at hby hdl
      have hN : (T.den ΦP ρ' (.fn 73 (.c2 .rd (.var 4) (.c2 .add (.c2 .mul (.var 5) (.num 75)) (.num 2))) .nil .nil)).int = hdSize (g H 0).toNat := by
        show ((hdSize (T.den ΦP ρ' (.c2 .rd (.var 4) (.c2 .add (.c2 .mul (.var 5) (.num 75)) (.num 2)))).int.toNat : Nat) : Int) = _; rw [hk0]
      have hR : (T.den ΦP ρ' (.fn 71 xRmPacksA7 (.var 12) .nil)).list = pushRow H (ρ' 12).list := by
        show pushRow (T.den ΦP ρ' xRmPacksA7).list _ = _; rw [hH]; rfl
      have hM : (T.den ΦP ρ' (.fn 82 (.var 6) (.cons (.var 7) (.cons (.var 8) .nil)) xRmPacksA7)).list = onMem (ρ' 6).list [(ρ' 7).int, (ρ' 8).int] H := by
        show onMem _ _ (T.den ΦP ρ' xRmPacksA7).list = _; rw [hH]; rfl
      have hF : (T.den ΦP ρ' (.fn 84 (.var 7) (.fn 73 (.c2 .rd (.var 4) (.c2 .add (.c2 .mul (.var 5) (.num 75)) (.num 2))) .nil .nil) .nil)).int = onFrom (ρ' 7).int (hdSize (g H 0).toNat) := by
        show onFrom (ρ' 7).int (T.den ΦP ρ' (.fn 73 (.c2 .rd (.var 4) (.c2 .add (.c2 .mul (.var 5) (.num 75)) (.num 2))) .nil .nil)).int = _; rw [hN]
      have hT : (T.den ΦP ρ' xRmPacksA8).int = onFrom (ρ' 7).int (hdSize (g H 0).toNat) + ((hdSize (g H 0).toNat : Int) + ((ρ' 8).int - (ρ' 7).int)) := by
        rw [xRmPacksA8, int_add, int_add, int_sub, hF, hN]; rfl
      have p0 := L.pk.f0
      have p1 := L.pk.ft
      have p2 := L.pk.tm
      have p3 := L.pk.ml
      have p4 := L.n4
      have p5 := L.n40
      have p6 := L.short
      have hX9 : (T.den ΦP ρ' xRmPacksA9).list = pushRow H (ρ' 12).list := by
        rw [xRmPacksA9, den_dat (by rw [hF]; exact p0) (by rw [hF, hT]; exact p1), hF, hT, hM, L.data, a.dat]
      refine ⟨by rw [bytes_t, hR]; exact hby, by rw [le_t, int_len, hR, hdl]; show _ ≤ (2048 : Int); omega, fun e2 => ?_, fun e2 => ?_⟩
      · refine ⟨by rw [bytes_t, hM]; exact L.pk.bytes, by rw [le_t, int_len, hM]; show _ ≤ (2560 : Int); omega, by rw [le_t, hN]; exact p4, by rw [le_t, hN]; exact p5, by rw [le_t, int_add, hN, int_sub]; exact p6,
          by rw [le_t, hF]; exact p0, by rw [le_t, hF]; show _ ≤ (2560 : Int); omega, by rw [le_t, hT, int_len, hM]; exact p2, ?_, fun q => ?_, fun _ => ⟨fun q => ?_, fun _ => ?_⟩⟩
        · rw [xRmPacksA10, eq_t, int_sub, hT, hF, int_len, hX9, hdl]
        · exfalso; rw [not_t, leq_f] at q; exact q (hX9.trans hR.symm)
        · exfalso; rw [not_t, eq_f, int_add, int_add, den_var, den_var, a.mv] at q; exact q rfl
        · refine ok_back (rp_back i0 i30 ?_ ?_ ?_ ?_ ?_ ?_ rfl)
          · show (ρ' 5).int + 1 = _; rw [a.v5]
          · show PkL (T.den ΦP ρ' (.fn 82 (.var 6) (.cons (.var 7) (.cons (.var 8) .nil)) xRmPacksA7)).list (T.den ΦP ρ' (.fn 84 (.var 7) (.fn 73 (.c2 .rd (.var 4) (.c2 .add (.c2 .mul (.var 5) (.num 75)) (.num 2))) .nil .nil) .nil)).int (T.den ΦP ρ' xRmPacksA8).int
            rw [hM, hF, hT]; exact L.pk
          · show dataOf (T.den ΦP ρ' (.fn 82 (.var 6) (.cons (.var 7) (.cons (.var 8) .nil)) xRmPacksA7)).list (T.den ΦP ρ' (.fn 84 (.var 7) (.fn 73 (.c2 .rd (.var 4) (.c2 .add (.c2 .mul (.var 5) (.num 75)) (.num 2))) .nil .nil) .nil)).int (T.den ΦP ρ' xRmPacksA8).int = (T.den ΦP ρ' (.fn 71 xRmPacksA7 (.var 12) .nil)).list
            rw [hM, hF, hT, hR, L.data, a.dat]
          · show (ρ' 9).int + 1 = (ρ' 10).int + 1; rw [a.mv]
          · show 0 ≤ (ρ' 10).int + 1; have := a.m0; omega
          · show (ρ' 10).int + 1 ≤ _; have := a.m1; omega
      · exfalso; rw [eq_f] at e2; exact e2 (hE2.trans e1)
    · exfalso; rw [eq_f] at e1; rw [eq_t] at e2; exact e1 (hE1.trans (hE2.symm.trans e2))
    · exfalso; rw [not_t, eq_f] at q; exact q (hE2.trans hE1.symm)
    · show (T.den ΦP ρ' (.c2 .eq (.c2 .sub (.var 8) (.var 7)) (.c1 .len dT))).bool = true
      rw [eq_t, int_len, hD, int_sub, den_var, den_var, ← a.dat]; exact a.pk.len.symm
    · exfalso; rw [not_t, leq_f] at q; exact q (hD.trans rfl)
    · exfalso; rw [not_t, eq_f, den_var, den_var] at q; exact q a.mv
    · refine ok_back (rp_back i0 i30 ?_ a.pk a.dat a.mv a.m0 ?_ a.len)
      · show (ρ' 5).int + 1 = _; rw [a.v5]
      · show (ρ' 10).int ≤ _; have := a.m1; omega
theorem packsB_ok : TmplOk Go.Proofs.Tryz.prog ΦP 3 tPacksB := by
  refine tmpl_of consRm_ok treeRmPacksB_is (fun ρ res hres => ⟨rpJ, ?_⟩)
  obtain ⟨hcut, hres⟩ := chk_some hres
  obtain ⟨h0, hres⟩ := short_some hres
  obtain ⟨hb0, hres⟩ := bytes_some hres
  obtain ⟨hk, hres⟩ := inKs_some hres
  obtain ⟨n0, hres⟩ := chk_some hres
  obtain ⟨n1, hres⟩ := chk_some hres
  obtain ⟨hlen, hres⟩ := chk_some hres
  obtain ⟨hkin, hres⟩ := chk_some hres
  obtain rfl := ret_some hres
  rw [lt_t, int_len, den_var] at hcut
  replace hcut : (2048 : Int) < ((ρ 0).list.length : Int) := hcut
  have hb := bytes_take hb0 2048
  have hl0 : ((ρ 0).list.take 2048).length = 2048 := by rw [List.length_take]; omega
  rw [eq_t, int_len, int_mul, den_var, den_var] at hlen
  replace hlen : ((ρ 4).list.length : Int) = (ρ 3).int * 75 := hlen
  have r1 := bring_range (ρ 1).int (n := 257) (by decide)
  have r2 := bring_range (ρ 2).int (n := 257) (by decide)
  obtain ⟨hp, hd⟩ := new_l (b := ((ρ 0).list.take 2048)) hb (by omega) r1.1 r1.2 r2.1 r2.2
  have nl : ∀ x y : Int, 0 ≤ x → 0 ≤ y → ((newMem ((ρ 0).list.take 2048) x y).length : Int) = x + (((ρ 0).list.take 2048).length : Int) + y := by
    intro x y hx hy
    rw [newMem, List.length_append, List.length_append, List.length_replicate, List.length_replicate]
    omega
  refine ⟨by rw [le_t]; exact r1.1, by rw [lt_t]; exact r1.2, by rw [le_t]; exact r2.1, by rw [lt_t]; exact r2.2, ?_, ?_, ⟨0, rfl, Nat.zero_le _, hp, rfl, Int.le_refl _, Int.le_refl _, ?_, hd⟩, ?_⟩
  · rw [bytes_t]; exact hp.bytes
  · rw [eq_t]; refine (nl _ _ r1.1 r2.1).trans ?_; rw [hl0]; rfl
  · show (2048 : Int) = (((ρ 0).list.take 2048).length : Int); omega
  rintro ds hds hI
  obtain ⟨i, i0, a⟩ := at_pk hds hI
  have lo5 : ∀ j, j < 5 → upd ρ 5 ds j = ρ j := fun j hj => upd_lo ds hj
  generalize upd ρ 5 ds = ρ' at *
  refine ⟨rpFs_ok a, fun c => ⟨fun c' => ?_, fun _ => leaf_true rfl (by decide)⟩, fun _ => leaf_true rfl (by decide)⟩
  rw [lt_t, den_var, den_var, a.v5, a.same 3 (by decide)] at c
  rw [lt_t, den_var, a.v5] at c'
  replace c' : (i : Int) < 30 := c'
  have i30 : i < 30 := by omega
  have v4 : (ρ' 4).list.length = (ρ 3).int * 75 := by rw [a.same 4 (by decide)]; exact hlen
  have hidx : (T.den ΦP ρ' (.c2 .mul (.var 5) (.num 75))).int = i * 75 := by rw [int_mul, den_var, a.v5]; rfl
  have hD := den_dT a
  refine ⟨by rw [le_t, int_add, hidx, int_len, den_var, v4]; show (i : Int) * 75 + 1 ≤ _; omega, fun o => ?_, fun o => ?_⟩
  · refine ⟨by rw [le_t, int_add, hidx, int_len, den_var, v4]; show (i : Int) * 75 + 2 ≤ _; omega, ?_⟩
    have hE : (T.den ΦP ρ' xRmPacksB0).int = (T.den ΦP ρ' (.fn 75 (.var 12) (.c2 .rd (.var 4) (.c2 .add (.c2 .mul (.var 5) (.num 75)) (.num 1))) .nil)).int := by
      show popErr (T.den ΦP ρ' dT).list _ = popErr (ρ' 12).list _
      rw [hD]
    have hH : (T.den ΦP ρ' xRmPacksB2).list = (T.den ΦP ρ' xRmPacksB3).list := by
      refine rowT_same (X := xRmPacksB1) (Y := .fn 76 (.var 12) (.c2 .rd (.var 4) (.c2 .add (.c2 .mul (.var 5) (.num 75)) (.num 1))) .nil) ?_ kHead 0
      show popHead (T.den ΦP ρ' dT).list _ = popHead (ρ' 12).list _
      rw [hD]
    have hX4 : ∀ {n : Int}, (T.den ΦP ρ' (.fn 73 (.c2 .rd (.var 4) (.c2 .add (.c2 .mul (.var 5) (.num 75)) (.num 1))) .nil .nil)).int = n → 0 ≤ n → n ≤ (ρ' 8).int - (ρ' 7).int → (T.den ΦP ρ' xRmPacksB4).list = dataOf (ρ' 6).list ((ρ' 7).int + n) (ρ' 8).int := by
      intro n h1 h2 h3
      have f0 := a.pk.f0
      have e7 : (T.den ΦP ρ' (.c2 .add (.var 7) (.fn 73 (.c2 .rd (.var 4) (.c2 .add (.c2 .mul (.var 5) (.num 75)) (.num 1))) .nil .nil))).int = (ρ' 7).int + n := by rw [int_add, h1, den_var]
      refine (den_dat (a := .c2 .add (.var 7) (.fn 73 (.c2 .rd (.var 4) (.c2 .add (.c2 .mul (.var 5) (.num 75)) (.num 1))) .nil .nil)) (b := .var 8) (m := .var 6) (by rw [e7]; omega) (by rw [e7, den_var]; omega)).trans ?_
      rw [e7]; rfl
    refine ⟨fun e1 => ?_, fun e1 => ?_⟩
    · rw [eq_t, hE] at e1
      have hz : popErr (dataOf (ρ' 6).list (ρ' 7).int (ρ' 8).int) (T.den ΦP ρ' (.c2 .rd (.var 4) (.c2 .add (.c2 .mul (.var 5) (.num 75)) (.num 1)))).int = 0 := by rw [a.dat]; exact e1
      have L := off_l a.pk hz
      have n4 := L.n4
      have nle := L.le
      have hx4 := hX4 rfl (by show (0 : Int) ≤ (hdSize _ : Int); omega) nle
      have hdt := L.data
      have hby := L.bytes
      rw [a.dat] at hdt hby
      refine ⟨by rw [le_t]; exact n4, by rw [le_t, int_sub, den_var, den_var]; exact nle, fun e2 => ?_, fun e2 => ?_⟩
      · refine ⟨by rw [bytes_t]; exact hby, ?_, fun q => ?_, fun _ => ⟨?_, ?_, fun q => ?_, fun _ => ⟨fun q => ?_, fun _ => ?_⟩⟩⟩
        · rw [le_t, int_len, int_len, den_var]; show ((popRest (ρ' 12).list _).length : Int) ≤ _; rw [popRest, List.length_drop]; omega
        · exfalso; rw [not_t, leq_f] at q; exact q hH
        · show (T.den ΦP ρ' (.c2 .eq (.c2 .sub (.var 8) (.c2 .add (.var 7) (.fn 73 (.c2 .rd (.var 4) (.c2 .add (.c2 .mul (.var 5) (.num 75)) (.num 1))) .nil .nil))) (.c1 .len xRmPacksB4))).bool = true
          rw [eq_t, int_len, hx4, int_sub, int_add, den_var, den_var]; exact L.pk.len.symm
        · rw [le_t, int_len]; show ((popRest (ρ' 12).list _).length : Int) ≤ 140737488351232
          have := a.pk.len
          have := a.pk.d
          rw [a.dat] at *
          rw [popRest, List.length_drop]; omega
        · exfalso; rw [not_t, leq_f] at q; exact q (hx4.trans hdt)
        · exfalso; rw [not_t, eq_f, int_add, int_add, den_var, den_var, a.mv] at q; exact q rfl
        · refine ok_back (rp_back i0 i30 ?_ L.pk hdt ?_ ?_ ?_ rfl)
          · show (ρ' 5).int + 1 = _; rw [a.v5]
          · show (ρ' 9).int + 1 = (ρ' 10).int + 1; rw [a.mv]
          · show 0 ≤ (ρ' 10).int + 1; have := a.m0; omega
          · show (ρ' 10).int + 1 ≤ _; have := a.m1; omega
      · exfalso; rw [eq_f] at e2; exact e2 e1
    · rw [eq_f, hE] at e1
      refine ⟨fun e2 => ?_, fun e2 => ⟨fun q => ?_, fun _ => ⟨?_, fun q => ?_, fun _ => ⟨fun q => ?_, fun _ => ?_⟩⟩⟩⟩
      · exfalso; rw [eq_t] at e2; exact e1 e2
      · exfalso; rw [not_t, eq_f] at q; exact q hE
      · show (T.den ΦP ρ' (.c2 .eq (.c2 .sub (.var 8) (.var 7)) (.c1 .len dT))).bool = true
        rw [eq_t, int_len, hD, int_sub, den_var, den_var, ← a.dat]; exact a.pk.len.symm
      · exfalso; rw [not_t, leq_f] at q; exact q (hD.trans rfl)
      · exfalso; rw [not_t, eq_f, den_var, den_var] at q; exact q a.mv
      · refine ok_back (rp_back i0 i30 ?_ a.pk a.dat a.mv a.m0 ?_ a.len)
        · show (ρ' 5).int + 1 = _; rw [a.v5]
        · show (ρ' 10).int ≤ _; have := a.m1; omega
  · have hll : (ρ' 4).list.length = 75 * (ρ 3).int.toNat := by omega
    have hi3 : i < (ρ 3).int.toNat := by omega
    obtain ⟨H, hHd⟩ : ∃ H, ((ρ' 4).list.drop (75 * i + 2)).take 73 = H := ⟨_, rfl⟩
    have hH : (T.den ΦP ρ' xRmPacksB7).list = H := (den_hdRd a.v5 73 2 (by omega)).trans hHd
    have hg : GoodInts kHead H := by rw [← hHd]; exact doHead_good (by rw [a.same 4 (by decide)]; exact hkin) hll hi3
    have hk0 : (T.den ΦP ρ' (.c2 .rd (.var 4) (.c2 .add (.c2 .mul (.var 5) (.num 75)) (.num 2)))).int = g H 0 := by
      rw [← hH]; rfl
    refine ⟨by rw [le_t, int_add, hidx, int_len, den_var, v4]; show (i : Int) * 75 + 75 ≤ _; omega, ?_⟩
    have hE1 : (T.den ΦP ρ' (.fn 70 xRmPacksB7 (.var 12) .nil)).int = pushErr H (ρ' 12).list := by
      show pushErr (T.den ΦP ρ' xRmPacksB7).list _ = _; rw [hH]; rfl
    have hE2 : (T.den ΦP ρ' (.fn 70 xRmPacksB7 dT .nil)).int = pushErr H (ρ' 12).list := by
      show pushErr (T.den ΦP ρ' xRmPacksB7).list (T.den ΦP ρ' dT).list = _; rw [hH, hD]
    refine ⟨fun e1 => ?_, fun e1 => ⟨fun e2 => ?_, fun e2 => ⟨fun q => ?_, fun _ => ⟨?_, fun q => ?_, fun _ => ⟨fun q => ?_, fun _ => ?_⟩⟩⟩⟩⟩
    · rw [eq_t, hE1] at e1
      replace e1 : pushErr H (ρ' 12).list = 0 := e1
      have L := on_l a.pk hg (by rw [a.dat]; exact e1)
      have hby := L.pk.dbytes
      have hdl := L.pk.len
      rw [L.data, a.dat] at hby hdl
      have hN : (T.den ΦP ρ' (.fn 73 (.c2 .rd (.var 4) (.c2 .add (.c2 .mul (.var 5) (.num 75)) (.num 2))) .nil .nil)).int = hdSize (g H 0).toNat := by
        show ((hdSize (T.den ΦP ρ' (.c2 .rd (.var 4) (.c2 .add (.c2 .mul (.var 5) (.num 75)) (.num 2)))).int.toNat : Nat) : Int) = _; rw [hk0]
      have hR : (T.den ΦP ρ' (.fn 71 xRmPacksB7 (.var 12) .nil)).list = pushRow H (ρ' 12).list := by
        show pushRow (T.den ΦP ρ' xRmPacksB7).list _ = _; rw [hH]; rfl
      have hM : (T.den ΦP ρ' (.fn 82 (.var 6) (.cons (.var 7) (.cons (.var 8) .nil)) xRmPacksB7)).list = onMem (ρ' 6).list [(ρ' 7).int, (ρ' 8).int] H := by
        show onMem _ _ (T.den ΦP ρ' xRmPacksB7).list = _; rw [hH]; rfl
      have hF : (T.den ΦP ρ' (.fn 84 (.var 7) (.fn 73 (.c2 .rd (.var 4) (.c2 .add (.c2 .mul (.var 5) (.num 75)) (.num 2))) .nil .nil) .nil)).int = onFrom (ρ' 7).int (hdSize (g H 0).toNat) := by
        show onFrom (ρ' 7).int (T.den ΦP ρ' (.fn 73 (.c2 .rd (.var 4) (.c2 .add (.c2 .mul (.var 5) (.num 75)) (.num 2))) .nil .nil)).int = _; rw [hN]
      have hT : (T.den ΦP ρ' xRmPacksB8).int = onFrom (ρ' 7).int (hdSize (g H 0).toNat) + ((hdSize (g H 0).toNat : Int) + ((ρ' 8).int - (ρ' 7).int)) := by
        rw [xRmPacksB8, int_add, int_add, int_sub, hF, hN]; rfl
      have p0 := L.pk.f0
      have p1 := L.pk.ft
      have p2 := L.pk.tm
      have p3 := L.pk.ml
      have p4 := L.n4
      have p5 := L.n40
      have p6 := L.short
      have hX9 : (T.den ΦP ρ' xRmPacksB9).list = pushRow H (ρ' 12).list := by
        rw [xRmPacksB9, den_dat (by rw [hF]; exact p0) (by rw [hF, hT]; exact p1), hF, hT, hM, L.data, a.dat]
      refine ⟨by rw [bytes_t, hR]; exact hby, by rw [le_t, int_len, hR, hdl]; show _ ≤ (2048 : Int); omega, fun e2 => ?_, fun e2 => ?_⟩
      · refine ⟨by rw [bytes_t, hM]; exact L.pk.bytes, by rw [le_t, int_len, hM]; show _ ≤ (2560 : Int); omega, by rw [le_t, hN]; exact p4, by rw [le_t, hN]; exact p5, by rw [le_t, int_add, hN, int_sub]; exact p6,
          by rw [le_t, hF]; exact p0, by rw [le_t, hF]; show _ ≤ (2560 : Int); omega, by rw [le_t, hT, int_len, hM]; exact p2, ?_, fun q => ?_, fun _ => ⟨fun q => ?_, fun _ => ?_⟩⟩
        · rw [xRmPacksB10, eq_t, int_sub, hT, hF, int_len, hX9, hdl]
        · exfalso; rw [not_t, leq_f] at q; exact q (hX9.trans hR.symm)
        · exfalso; rw [not_t, eq_f, int_add, int_add, den_var, den_var, a.mv] at q; exact q rfl
        · refine ok_back (rp_back i0 i30 ?_ ?_ ?_ ?_ ?_ ?_ rfl)
          · show (ρ' 5).int + 1 = _; rw [a.v5]
          · show PkL (T.den ΦP ρ' (.fn 82 (.var 6) (.cons (.var 7) (.cons (.var 8) .nil)) xRmPacksB7)).list (T.den ΦP ρ' (.fn 84 (.var 7) (.fn 73 (.c2 .rd (.var 4) (.c2 .add (.c2 .mul (.var 5) (.num 75)) (.num 2))) .nil .nil) .nil)).int (T.den ΦP ρ' xRmPacksB8).int
            rw [hM, hF, hT]; exact L.pk
          · show dataOf (T.den ΦP ρ' (.fn 82 (.var 6) (.cons (.var 7) (.cons (.var 8) .nil)) xRmPacksB7)).list (T.den ΦP ρ' (.fn 84 (.var 7) (.fn 73 (.c2 .rd (.var 4) (.c2 .add (.c2 .mul (.var 5) (.num 75)) (.num 2))) .nil .nil) .nil)).int (T.den ΦP ρ' xRmPacksB8).int = (T.den ΦP ρ' (.fn 71 xRmPacksB7 (.var 12) .nil)).list
            rw [hM, hF, hT, hR, L.data, a.dat]
          · show (ρ' 9).int + 1 = (ρ' 10).int + 1; rw [a.mv]
          · show 0 ≤ (ρ' 10).int + 1; have := a.m0; omega
          · show (ρ' 10).int + 1 ≤ _; have := a.m1; omega
      · exfalso; rw [eq_f] at e2; exact e2 (hE2.trans e1)
    · exfalso; rw [eq_f] at e1; rw [eq_t] at e2; exact e1 (hE1.trans (hE2.symm.trans e2))
    · exfalso; rw [not_t, eq_f] at q; exact q (hE2.trans hE1.symm)
    · show (T.den ΦP ρ' (.c2 .eq (.c2 .sub (.var 8) (.var 7)) (.c1 .len dT))).bool = true
      rw [eq_t, int_len, hD, int_sub, den_var, den_var, ← a.dat]; exact a.pk.len.symm
    · exfalso; rw [not_t, leq_f] at q; exact q (hD.trans rfl)
    · exfalso; rw [not_t, eq_f, den_var, den_var] at q; exact q a.mv
    · refine ok_back (rp_back i0 i30 ?_ a.pk a.dat a.mv a.m0 ?_ a.len)
      · show (ρ' 5).int + 1 = _; rw [a.v5]
      · show (ρ' 10).int ≤ _; have := a.m1; omega
theorem chk_val {ρ : Env} {t : T} {x : O Res} {res : Res} (h : (T.den ΦP ρ t).bool = true) (hx : x.val (T.den ΦP ρ) = some res) : (O.chk t x).val (T.den ΦP ρ) = some res := by simp only [O.val]; rw [if_pos h]; exact hx
theorem packs_ok : TmplOk Go.Proofs.Tryz.prog ΦP 3 tPacks := by
  intro ρ res hres
  by_cases c : (T.den ΦP ρ (.c2 .le (.c1 .len (.var 0)) (.num 2048))).bool = true
  · exact packsA_ok ρ res (chk_val c hres)
  · refine packsB_ok ρ res (chk_val ?_ hres)
    rw [le_t] at c
    rw [lt_t]
    omega
end Go.Proofs.YtfhjlimdakphcaaGreat.Sx
/- Sx laws, part 3: slices of structs of whole numbers (and Bools) that came in. Conditions: none. -/
set_option linter.unusedVariables false
set_option linter.unusedSimpArgs false
namespace Go.Proofs.YtfhjlimdakphcaaGreat.Sx
open Go Go.RowKit Go.WideShapes Go.ChangeShapes
/-! Kinds of a flat type's cells; none: a Bool. -/
def flatS (K : TypeId → Option (List (Option IntKind))) (sz : TypeId → Nat) : List Field → Nat → Option (List (Option IntKind))
  | [], _ => some []
  | f :: fs, o => match K f.type with
    | some ks => if f.offset = o ∧ ks.length = sz f.type then (flatS K sz fs (o + ks.length)).map (ks ++ ·) else none
    | none => none
def repK (ks : List (Option IntKind)) : Nat → List (Option IntKind)
  | 0 => []
  | n + 1 => repK ks n ++ ks
def kflat (P : Program) : Nat → TypeId → Option (List (Option IntKind))
  | 0, _ => none
  | n + 1, t => match P.underlying t with
    | some .bool => some [none]
    | some (.int k) => some [some k]
    | some (.struct fs) => match flatS (kflat P n) P.cellsOf fs.toList 0 with
      | some ks => if ks.length = P.cellsOf t then some ks else none
      | none => none
    | some (.array m e) => match kflat P n e with
      | some ks => if ks.length = P.cellsOf e ∧ m * ks.length = P.cellsOf t then some (repK ks m) else none
      | none => none
    | _ => none
def fitC : Option IntKind → Value → Prop
  | none, v => ∃ b, v = .bool b
  | some k, v => ∃ n, v = .int k n ∧ (kmin k ≤ n ∧ n ≤ kmax k)
def fitsL : List (Option IntKind) → List Value → Prop
  | [], [] => True
  | k :: ks, v :: vs => fitC k v ∧ fitsL ks vs
  | _, _ => False
theorem fits_app : ∀ {a b : List (Option IntKind)} {x y : List Value}, fitsL a x → fitsL b y → fitsL (a ++ b) (x ++ y)
  | [], _, [], _, _, h => h
  | [], _, _ :: _, _, h, _ => h.elim
  | _ :: _, _, [], _, h, _ => h.elim
  | _ :: _, _, _ :: _, _, h, k => ⟨h.1, fits_app h.2 k⟩
theorem fits_len : ∀ {a : List (Option IntKind)} {x : List Value}, fitsL a x → a.length = x.length
  | [], [], _ => rfl
  | [], _ :: _, h => h.elim
  | _ :: _, [], h => h.elim
  | _ :: _, _ :: _, h => by simp [fits_len h.2]
theorem fits_get : ∀ {a : List (Option IntKind)} {x : List Value}, fitsL a x → ∀ {i : Nat} {k : Option IntKind}, a[i]? = some k → ∃ v, x[i]? = some v ∧ fitC k v
  | [], [], _, i, k, h => by simp at h
  | [], _ :: _, h, _, _, _ => h.elim
  | _ :: _, [], h, _, _, _ => h.elim
  | k :: a, v :: x, h, 0, k', e => by
    simp only [List.getElem?_cons_zero, Option.some.injEq] at e
    subst e; exact ⟨v, rfl, h.1⟩
  | k :: a, v :: x, h, i + 1, k', e => by
    simp only [List.getElem?_cons_succ] at e ⊢
    exact fits_get h.2 e
section
variable {H : Type} {enc : TypeId × Value → H} {P : Program} {W : World} {base : Nat} {spare : Nat → Bool} {held : Bool}
theorem flatS_fits {K : TypeId → Option (List (Option IntKind))} {sz : TypeId → Nat} {m : Nat} {cs : List Value} (ih : ∀ {t : TypeId} {ks : List (Option IntKind)}, K t = some ks → ∀ {cs : List Value} {x : DataW H × List MemPlace}, DataW.trod enc P W base spare held m t cs = some x → fitsL ks cs) :
    ∀ (l : List Field) (o : Nat) (ks : List (Option IntKind)), flatS K sz l o = some ks → (∀ f ∈ l, ∃ x, DataW.trod enc P W base spare held m f.type ((cs.drop f.offset).take (sz f.type)) = some x) → fitsL ks ((cs.drop o).take ks.length)
  | [], o, ks, h, _ => by
    simp only [flatS, Option.some.injEq] at h
    subst h; simp [fitsL]
  | f :: fs, o, ks, h, hx => by
    simp only [flatS] at h
    split at h
    · rename_i k1 hk1
      split at h
      · rename_i hc
        obtain ⟨k2, hk2, rfl⟩ := Option.map_eq_some_iff.mp h
        obtain ⟨x, hx1⟩ := hx f (List.mem_cons_self ..)
        have h1 := ih hk1 hx1
        rw [hc.1, ← hc.2] at h1
        have h2 := flatS_fits ih fs _ _ hk2 (fun g hg => hx g (List.mem_cons_of_mem _ hg))
        rw [List.length_append, List.take_add, List.drop_drop]
        exact fits_app h1 h2
      · cases h
    · cases h
theorem flat_trod : ∀ (F : Nat) {t : TypeId} {ks : List (Option IntKind)}, kflat P F t = some ks → ∀ {fuel : Nat} {cs : List Value} {x : DataW H × List MemPlace}, DataW.trod enc P W base spare held fuel t cs = some x → fitsL ks cs
  | 0, t, ks, h, _, _, _, _ => by cases h
  | F + 1, t, ks, h, fuel, cs, x, hx => by
    simp only [kflat] at h
    split at h
    · rename_i hu
      injection h with h; subst h
      obtain ⟨b, rfl, _⟩ := DataW.trod_bool hu hx
      exact ⟨⟨b, rfl⟩, trivial⟩
    · rename_i k hu
      injection h with h; subst h
      obtain ⟨n, rfl, _, hw⟩ := DataW.trod_int hu hx
      exact ⟨⟨n, rfl, wf_bounds hw⟩, trivial⟩
    · rename_i fs hu
      split at h
      · rename_i k1 hk1
        split at h
        · rename_i hc
          injection h with h; subst h
          obtain ⟨xs, n, rfl, _, hl, hxl, hf⟩ := DataW.trod_struct hu hx
          have := flatS_fits (m := n) (cs := cs) (fun hk => fun {cs x} hx => flat_trod F hk hx) fs.toList 0 k1 hk1 (fun f hf' => by
            obtain ⟨i, hi⟩ := List.getElem?_of_mem hf'
            have hi' : fs[i]? = some f := by rw [← Array.getElem?_toList]; exact hi
            have hlt : i < xs.length := by rw [hxl]; exact (Array.getElem?_eq_some_iff.1 hi').1
            exact ⟨xs[i], by rw [hf i f hi', List.getElem?_eq_getElem hlt]⟩)
          rw [List.drop_zero, List.take_of_length_le (by omega)] at this
          exact this
        · cases h
      · cases h
    · rename_i m e hu
      split at h
      · rename_i k1 hk1
        split at h
        · rename_i hc
          injection h with h; subst h
          obtain ⟨xs, n, rfl, _, hl, hxl, hf⟩ := DataW.trod_array hu hx
          have each : ∀ j, j ≤ m → fitsL (repK k1 j) (cs.take (j * k1.length)) := by
            intro j
            induction j with
            | zero => intro _; simp [repK, fitsL]
            | succ j ihj =>
              intro hj
              rw [Nat.succ_mul, List.take_add]
              refine fits_app (ihj (by omega)) ?_
              have := hf j (by omega)
              rw [List.getElem?_eq_getElem (by omega), ← hc.1] at this
              exact flat_trod F hk1 this
          have := each m (Nat.le_refl _)
          rw [List.take_of_length_le (by omega)] at this
          exact this
        · cases h
      · cases h
    · cases h
end
/-! A row of such elements. -/
def encV : Value → Int
  | .int _ n => n
  | .bool b => if b then 1 else 0
  | _ => 0
def kAtM (mix : Bool) (ks : List IntKind) (i : Nat) : Option IntKind := if mix ∧ i = 0 then none else some (ks.getD i .u8)
structure RowS (mix : Bool) (ks : List IntKind) (w : World) (a : Option Addr) (len cap : Nat) (l : List Int) (pl : Place) : Prop where
  heap : pl.sz ≠ 0 → pl.b < w.heap.size
  row : (mix = false → rowRep w pl ks l) ∧ (mix = true → mixRep w pl ks l)
  long : l.length = len * ks.length
  le : len ≤ cap
  fit : cap * ks.length ≤ pl.sz
  at_ : 0 < cap → a = some ⟨pl.b, pl.o, none⟩
  kin : inKinds ks 0 l = true
theorem addr_add2 (b o i j : Nat) : ((⟨b, o, none⟩ : Addr).add i).add j = ⟨b, o + i + j, none⟩ := by
  simp only [Addr.add]
  by_cases hi : i = 0
  · subst hi
    by_cases hj : j = 0
    · subst hj; rfl
    · simp [hj]
  · by_cases hj : j = 0
    · subst hj; simp [hi]
    · simp [hi, hj]
theorem cell_spot {w : World} {x : Addr} {v : Value} (h : w.cell? x = some v) (hv : ∃ k, fitC k v) : x.spot = none := by
  cases hs : x.spot with
  | none => rfl
  | some s =>
    exfalso
    unfold World.cell? at h
    rw [hs] at h
    obtain ⟨k, hk⟩ := hv
    cases k with
    | none => obtain ⟨b, rfl⟩ := hk; revert h; split <;> simp
    | some k => obtain ⟨n, rfl, _⟩ := hk; revert h; split <;> simp
theorem rows_of {H : Type} {enc : TypeId × Value → H} {P : Program} {W : World} {base : Nat} {spare : Nat → Bool} {held : Bool} {t e F : Nat} {ks : List IntKind} {mix : Bool} {ko : List (Option IntKind)} {a : Option Addr} {len cap : Nat} {d : DataW H} {ps : List MemPlace} (hsp : ∀ b, spare b = true)
    (hu : P.underlying t = some (.slice e)) (hk : kflat P F e = some ko) (hko : ko = (List.range ks.length).map (kAtM mix ks)) (hc : P.cellsOf e = ks.length) (hpos : 0 < ks.length) (hm0 : mix = true → ks.getD 0 .u8 = .u8) (h : DataW.Trod enc P W base spare held t (.slice a len cap) d ps) :
    ∃ l pl, RowS mix ks W a len cap l pl := by
  obtain ⟨fuel, hf⟩ := h
  rcases DataW.trod_slice hu hf with ⟨hcs, _⟩ | ⟨x, len', cap', elems, rest, n, _, hcs, _, _, hl, hm, hlen, hel, hre, _⟩
  · simp [Value.cells] at hcs
    obtain ⟨rfl, rfl, rfl⟩ := hcs
    exact ⟨[], ⟨0, 0, 0⟩, fun h => absurd rfl h, ⟨fun _ => ⟨hpos, by simp, fun i z hz => by simp at hz⟩, fun _ => ⟨hpos, by simp, fun i z hz => by simp at hz⟩⟩, by simp, Nat.le_refl _, by simp, fun h => absurd h (by omega), by simp [inKinds]⟩
  · simp [Value.cells] at hcs
    obtain ⟨rfl, rfl, rfl⟩ := hcs
    have each : ∀ i, i < cap → ∃ cs, (∀ j, j < ks.length → W.cell? ((x.add (i * ks.length)).add j) = cs[j]?) ∧ fitsL ko cs := by
      intro i hi
      have : ∃ y, (W.cells? base (x.add (i * P.cellsOf e)) (P.cellsOf e)).bind (DataW.trod enc P W base spare held n e) = some y := by
        by_cases hil : i < len
        · exact ⟨elems[i]'(by omega), by rw [hel i hil, List.getElem?_eq_getElem (by omega)]⟩
        · obtain ⟨hrl, hr⟩ := hre (hsp _)
          have := hr (i - len) (by omega)
          rw [show len + (i - len) = i by omega] at this
          exact ⟨rest[i - len]'(by omega), by rw [this, List.getElem?_eq_getElem (by omega)]⟩
      obtain ⟨y, hy⟩ := this
      rw [Option.bind_eq_some_iff] at hy
      obtain ⟨cs, h1, h2⟩ := hy
      rw [hc] at h1
      exact ⟨cs, (World.cells?_some h1).2.2, flat_trod F hk h2⟩
    by_cases h0 : cap = 0
    · have : len = 0 := by omega
      subst this
      exact ⟨[], ⟨0, 0, 0⟩, fun h => absurd rfl h, ⟨fun _ => ⟨hpos, by simp, fun i z hz => by simp at hz⟩, fun _ => ⟨hpos, by simp, fun i z hz => by simp at hz⟩⟩, by simp, hl, by simp [h0], fun h => absurd h (by omega), by simp [inKinds]⟩
    · have hkol : ko.length = ks.length := by rw [hko]; simp
      have first : ∀ i, i < cap → ∀ j, j < ks.length → ∃ v, W.cell? ((x.add (i * ks.length)).add j) = some v ∧ fitC (kAtM mix ks j) v := by
        intro i hi j hj
        obtain ⟨cs, h1, h2⟩ := each i hi
        obtain ⟨v, hv, hfit⟩ := fits_get h2 (i := j) (k := kAtM mix ks j) (by rw [hko, List.getElem?_map, List.getElem?_range hj]; rfl)
        exact ⟨v, by rw [h1 j hj, hv], hfit⟩
      have hx : x.spot = none := by
        obtain ⟨v, hv, hfit⟩ := first 0 (by omega) 0 hpos
        have := cell_spot hv ⟨_, hfit⟩
        rw [Nat.zero_mul] at this
        cases x with
        | mk b o s =>
          cases s with
          | none => rfl
          | some s => simp [Addr.add] at this
      have ha : ∀ i j, (x.add i).add j = ⟨x.block, x.off + i + j, none⟩ := fun i j => by
        have e : x = ⟨x.block, x.off, none⟩ := by cases x; cases hx; rfl
        rw [e]; exact addr_add2 _ _ i j
      have cell : ∀ p, p < cap * ks.length → ∃ v, W.cell? ⟨x.block, x.off + p, none⟩ = some v ∧ fitC (kAtM mix ks (p % ks.length)) v := by
        intro p hp
        have h1 : p / ks.length < cap := (Nat.div_lt_iff_lt_mul hpos).mpr hp
        obtain ⟨v, hv, hfit⟩ := first (p / ks.length) h1 (p % ks.length) (Nat.mod_lt _ hpos)
        rw [ha] at hv
        refine ⟨v, ?_, hfit⟩
        rw [← hv]
        congr 2
        have := Nat.div_add_mod' p ks.length
        omega
      obtain ⟨l, hl'⟩ : ∃ l : List Int, l = (List.range (len * ks.length)).map fun p => encV ((W.cell? ⟨x.block, x.off + p, none⟩).getD undef) := ⟨_, rfl⟩
      have hll : l.length = len * ks.length := by rw [hl']; simp
      have get : ∀ p z, l[p]? = some z → ∃ v, W.cell? ⟨x.block, x.off + p, none⟩ = some v ∧ fitC (kAtM mix ks (p % ks.length)) v ∧ z = encV v := by
        intro p z hz
        have hp : p < len * ks.length := by rw [← hll]; exact (List.getElem?_eq_some_iff.1 hz).1
        obtain ⟨v, hv, hfit⟩ := cell p (Nat.lt_of_lt_of_le hp (Nat.mul_le_mul_right _ hl))
        rw [hl', List.getElem?_map, List.getElem?_range hp, Option.map_some, hv] at hz
        exact ⟨v, hv, hfit, by simpa using hz.symm⟩
      have hsz : len * ks.length ≤ cap * ks.length := Nat.mul_le_mul_right _ hl
      refine ⟨l, ⟨x.block, x.off, cap * ks.length⟩, fun _ => ?_, ⟨fun hm => ⟨hpos, by rw [hll]; exact hsz, fun i z hz => ?_⟩, fun hm => ⟨hpos, by rw [hll]; exact hsz, fun i z hz => ?_⟩⟩, hll, hl, Nat.le_refl _, fun _ => by rw [← hx], ?_⟩
      · obtain ⟨v, hv, _⟩ := cell 0 (Nat.mul_pos (by omega) hpos)
        exact cell_heap hv
      · obtain ⟨v, hv, hfit, rfl⟩ := get i z hz
        rw [hm] at hfit
        obtain ⟨n, rfl, _⟩ := hfit
        exact hv
      · obtain ⟨v, hv, hfit, rfl⟩ := get i z hz
        unfold mixV
        split
        · rename_i e
          rw [hm, e] at hfit
          obtain ⟨b, rfl⟩ := hfit
          rw [hv]; cases b <;> rfl
        · rename_i e
          have : kAtM mix ks (i % ks.length) = some (ks.getD (i % ks.length) .u8) := by simp [kAtM, e]
          rw [this] at hfit
          obtain ⟨n, rfl, _⟩ := hfit
          exact hv
      · rw [inKinds_iff]
        intro j z hz
        obtain ⟨v, hv, hfit, rfl⟩ := get j z hz
        rw [Nat.zero_add, kAt]
        by_cases e : mix = true ∧ j % ks.length = 0
        · have : kAtM mix ks (j % ks.length) = none := by simp [kAtM, e]
          rw [this] at hfit
          obtain ⟨b, rfl⟩ := hfit
          rw [e.2, hm0 e.1]
          cases b <;> decide
        · have : kAtM mix ks (j % ks.length) = some (ks.getD (j % ks.length) .u8) := by simp only [kAtM]; rw [if_neg e]
          rw [this] at hfit
          obtain ⟨n, rfl, hb⟩ := hfit
          exact hb
theorem rows_sized {H : Type} {enc : TypeId × Value → H} {P : Program} {W : World} {base : Nat} {spare : Nat → Bool} {held : Bool} {t e : TypeId} {a : Option Addr} {len cap : Nat} {d : DataW H} {ps : List MemPlace} {ts : List TypeId} {ds : List (DataW H)} {j : Nat}
    (hsz : (DataW.weightsEach P ts ds).all (· ≤ reachBytes) = true) (ht : ts[j]? = some t) (hd : ds[j]? = some d) (hu : P.underlying t = some (.slice e)) {B : Nat} (hB : P.bytesOf e = B) (hb1 : 1 ≤ B)
    (h : DataW.Trod enc P W base spare held t (.slice a len cap) d ps) : len ≤ 140737488351232 := by
  obtain ⟨fuel, hf⟩ := h
  rcases DataW.trod_slice hu hf with ⟨hcs, _⟩ | ⟨x, len', cap', elems, rest, n, _, hcs, hd', _, hl, hm, hlen, _, _, _⟩
  · simp [Value.cells] at hcs
    obtain ⟨rfl, rfl, rfl⟩ := hcs
    simp
  · simp [Value.cells] at hcs
    obtain ⟨rfl, rfl, rfl⟩ := hcs
    obtain ⟨hx, _⟩ := Prod.mk.inj hd'
    subst hx
    have z := sized_slice hsz ht hd hu
    rw [hB, List.length_map, List.length_map, hlen] at z
    have h1 : len * 1 ≤ (len + rest.length) * B := Nat.mul_le_mul (Nat.le_add_right _ _) hb1
    have : (len + rest.length) * B ≤ 140737488351232 := z
    omega
section
variable {Φ : Sig} {ρ : Env} {β : Map} {w : World}
theorem slcS_rep {j v st : Nat} {a : Option Addr} {len cap : Nat} {l : List Int} {pl : Place} {ks : List IntKind} {mix : Bool} (hj : β j = some pl) (hst : ks.length = st) (hn : ρ v = .i len) (h : RowS mix ks w a len cap l pl) : (V.c (.s j st 0 (.num 0) (.var v))).rep (T.den Φ ρ) β (.slice a len cap) := by
  refine ⟨pl, hj, a, len, cap, rfl, ?_, h.le, by simp [T.den], ?_, fun hc => ?_⟩
  · simp [T.den, hn]
  · have := h.fit
    rw [hst] at this
    simp [T.den]; omega
  · have := h.at_ hc
    simpa [T.den] using this
theorem rowS_mem {v : Nat} {a : Option Addr} {len cap : Nat} {l : List Int} {pl : Place} {ks : List IntKind} (hv : ρ v = .l l) (h : RowS false ks w a len cap l pl) : (MB.mk false (.row ks (.var v))).rep (T.den Φ ρ) β w pl := by
  refine ⟨?_, fun h => by cases h⟩
  have := h.row.1 rfl
  simpa [Blk.rep, T.den, hv] using this
theorem mixS_mem {v : Nat} {a : Option Addr} {len cap : Nat} {l : List Int} {pl : Place} {ks : List IntKind} (hv : ρ v = .l l) (h : RowS true ks w a len cap l pl) : (MB.mk false (.mix ks (.var v))).rep (T.den Φ ρ) β w pl := by
  refine ⟨?_, fun h => by cases h⟩
  have := h.row.2 rfl
  simpa [Blk.rep, T.den, hv] using this
/-- What a contract asks of such a slice. -/
theorem rowS_val {n v st : Nat} {a : Option Addr} {len cap : Nat} {l : List Int} {pl : Place} {ks : List IntKind} {mix : Bool} {x : O Res} {res : Res} (hn : ρ n = .i len) (hv : ρ v = .l l) (hst : ks.length = st) (h : RowS mix ks w a len cap l pl) (hs : len ≤ 140737488351232) (hx : x.val (T.den Φ ρ) = some res) :
    (O.chk (.c2 .le (.num 0) (.var n)) (.chk (.c2 .le (.var n) (.num 140737488351232)) (.chk (.c2 .eq (.c1 .len (.var v)) (.c2 .mul (.var n) (.num (st : Int)))) (.chk (.c1 (.kin ks) (.var v)) x)))).val (T.den Φ ρ) = some res := by
  have h1 : (0 : Int) ≤ len := Int.natCast_nonneg _
  have h2 : (len : Int) ≤ 140737488351232 := by omega
  have h3 : (l.length : Int) = (len : Int) * (st : Int) := by rw [h.long, hst]; exact Int.natCast_mul _ _
  simp only [O.val, T.den, O2.den, U1.den, hn, hv, D.int_i, D.list_l, D.bool_b, h1, h2, h3, h.kin, decide_true, beq_self_eq_true, if_true]
  exact hx
end
end Go.Proofs.YtfhjlimdakphcaaGreat.Sx
