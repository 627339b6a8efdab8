/- Sx: texts of this claim put together: TWlEq, TWlAwake, WlC, TRmRoomA, TRmRoomB, RrK, Lm. Conditions: none. -/
import Derived.Test.YtfhjlimdakphcaaU5
import Derived.Test.YtfhjlimdakphcaaProg
import Derived.KernelRfl
import Derived.ChangeArms
import Derived.OpenShut
import Derived.DataReads
/- Sx: what Go function 9 does, as a tree of conditions (printed by a tool of this claim, proved by the kernel). Conditions: none. -/
set_option maxRecDepth 100000
namespace Go.Proofs.Ytfhjlimdakphcaa.Sx
open Go
def treeWlEq : M (V × St) :=
(.split (.c1 .not (.c2 .eq (.c1 .len (.var 0)) (.c1 .len (.var 1))))
 (.ret (.w (.c (.b (.bol false))), ⟨[], [], 2, 2, []⟩))
 (.loop 0 2 1 [(.num 0)] [((.c2 .le (.num 0) (.var 2)), true)]
  (.split (.c2 .lt (.var 2) (.c1 .len (.var 0)))
   (.chk (.c2 .lt (.var 2) (.c1 .len (.var 1)))
   (.split (.c1 .not (.c2 .eq (.c2 .rd (.var 0) (.var 2)) (.c2 .rd (.var 1) (.var 2))))
    (.ret (.w (.c (.b (.bol false))), ⟨[], [], 2, 3, []⟩))
    (.back 0 2 [(.wr .i64 (.c2 .add (.var 2) (.num 1)))])))
   (.ret (.w (.c (.b (.bol true))), ⟨[], [], 2, 3, []⟩)))))
theorem treeWlEq_is : funTree (ctxN Go.Proofs.Try.prog annsEq [] 8) annsEq 9 tEq.vs tEq.bs tEq.n (preF tEq.res) = treeWlEq := by kernel_rfl
end Go.Proofs.Ytfhjlimdakphcaa.Sx
/- Sx: what Go function 4 does, as a tree of conditions (printed by a tool of this claim, proved by the kernel). Conditions: none. -/
set_option maxRecDepth 100000
namespace Go.Proofs.Ytfhjlimdakphcaa.Sx
open Go
def treeWlAwake : M (V × St) :=
(.split (.c2 .leq (.c2 .take (.num 6) (.c2 .drop (.num 64) (.spl (.spl (.c2 .rep (.num 134) (.cons (.num 0) .nil)) (.num 68) (.cons (.num 1) (.cons (.num 2) .nil))) (.num 64) (.cons (.num 161) (.cons (.num 35) (.cons (.num 134) (.cons (.num 221) .nil))))))) (.cons (.num 161) (.cons (.num 35) (.cons (.num 134) (.cons (.num 221) (.cons (.num 1) (.cons (.num 2) .nil)))))))
 (.ret (.w (.c (.b (.bol true))), ⟨[], [], 69, 0, []⟩))
 (.ret (.w (.c (.b (.bol false))), ⟨[], [], 63, 0, []⟩)))
theorem treeWlAwake_is : funTree (ctxN Go.Proofs.Try.prog annsAw consAw 8) annsAw 4 tTrue.vs tTrue.bs tTrue.n (preF tTrue.res) = treeWlAwake := by kernel_rfl
end Go.Proofs.Ytfhjlimdakphcaa.Sx
/- Sx laws of wrapping: the contracts that the statements lean on. Conditions: none. -/
set_option linter.unusedVariables false
set_option linter.unusedSimpArgs false
namespace Go.Proofs.Ytfhjlimdakphcaa.Sx
open Go
theorem wlEq_ok : TmplOk Go.Proofs.Try.prog ΦW 9 tEq := eq_ok treeWlEq_is
set_option maxRecDepth 100000 in
theorem wlAwake_ok : TmplOk Go.Proofs.Try.prog ΦW 4 tTrue := by
  refine tmpl_of (moreCons (con_ok wlEq_ok) (moreCons (con_ok clone_ok) noCons)) treeWlAwake_is (fun ρ res hres => ⟨eqJ, ?_⟩)
  obtain rfl := ret_some hres
  refine ⟨fun c => leaf_true rfl (by decide), fun c => ?_⟩
  exfalso
  rw [leq_f] at c
  apply c
  rfl
theorem consWl0_ok : ConsOk Go.Proofs.Try.prog ΦW consWl0 := moreCons (con_ok wlEq_ok) (moreCons (con_ok (wpu_ok sigW)) (moreCons (con_ok (wpo_ok sigW)) (moreCons (con_ok (wck_ok sigW)) (noCons))))
theorem consWl_ok : ConsOk Go.Proofs.Try.prog ΦW consWl := moreCons (con_ok wlAwake_ok) consWl0_ok
end Go.Proofs.Ytfhjlimdakphcaa.Sx
/- Sx: what Go function 3 does, as a tree of conditions (printed by a tool of this claim, proved by the kernel). Conditions: none. -/
set_option maxRecDepth 100000
namespace Go.Proofs.Ytfhjlimdakphcaa.Sx
open Go
def xRmRoomA0 : T := (.fn 75 (.c2 .take (.c2 .sub (.var 10) (.var 9)) (.c2 .drop (.var 9) (.var 8))) (.c2 .rd (.var 6) (.c2 .add (.c2 .mul (.var 7) (.num 75)) (.num 1))) .nil)
def xRmRoomA1 : T := (.fn 75 (.c2 .take (.c2 .sub (.var 14) (.var 13)) (.c2 .drop (.var 13) (.var 12))) (.c2 .rd (.var 6) (.c2 .add (.c2 .mul (.var 7) (.num 75)) (.num 1))) .nil)
def xRmRoomA2 : T := (.fn 76 (.c2 .take (.c2 .sub (.var 10) (.var 9)) (.c2 .drop (.var 9) (.var 8))) (.c2 .rd (.var 6) (.c2 .add (.c2 .mul (.var 7) (.num 75)) (.num 1))) .nil)
def xRmRoomA3 : T := (.cons (.wr .u8 (.c2 .rd xRmRoomA2 (.num 0))) (.cons (.wr .u8 (.c2 .rd xRmRoomA2 (.num 1))) (.cons (.wr .u8 (.c2 .rd xRmRoomA2 (.num 2))) (.cons (.wr .u8 (.c2 .rd xRmRoomA2 (.num 3))) (.cons (.wr .u8 (.c2 .rd xRmRoomA2 (.num 4))) (.cons (.wr .u8 (.c2 .rd xRmRoomA2 (.num 5))) (.cons (.wr .u8 (.c2 .rd xRmRoomA2 (.num 6))) (.cons (.wr .u8 (.c2 .rd xRmRoomA2 (.num 7))) (.cons (.wr .u8 (.c2 .rd xRmRoomA2 (.num 8))) (.cons (.wr .u8 (.c2 .rd xRmRoomA2 (.num 9))) (.cons (.wr .u8 (.c2 .rd xRmRoomA2 (.num 10))) (.cons (.wr .u8 (.c2 .rd xRmRoomA2 (.num 11))) (.cons (.wr .u8 (.c2 .rd xRmRoomA2 (.num 12))) (.cons (.wr .u16 (.c2 .rd xRmRoomA2 (.num 13))) (.cons (.wr .u8 (.c2 .rd xRmRoomA2 (.num 14))) (.cons (.wr .u16 (.c2 .rd xRmRoomA2 (.num 15))) (.cons (.wr .u16 (.c2 .rd xRmRoomA2 (.num 16))) (.cons (.wr .u8 (.c2 .rd xRmRoomA2 (.num 17))) (.cons (.wr .u8 (.c2 .rd xRmRoomA2 (.num 18))) (.cons (.wr .u8 (.c2 .rd xRmRoomA2 (.num 19))) (.cons (.wr .u16 (.c2 .rd xRmRoomA2 (.num 20))) (.cons (.wr .u8 (.c2 .rd xRmRoomA2 (.num 21))) (.cons (.wr .u8 (.c2 .rd xRmRoomA2 (.num 22))) (.cons (.wr .u8 (.c2 .rd xRmRoomA2 (.num 23))) (.cons (.wr .u8 (.c2 .rd xRmRoomA2 (.num 24))) (.cons (.wr .u8 (.c2 .rd xRmRoomA2 (.num 25))) (.cons (.wr .u8 (.c2 .rd xRmRoomA2 (.num 26))) (.cons (.wr .u8 (.c2 .rd xRmRoomA2 (.num 27))) (.cons (.wr .u8 (.c2 .rd xRmRoomA2 (.num 28))) (.cons (.wr .u8 (.c2 .rd xRmRoomA2 (.num 29))) (.cons (.wr .u32 (.c2 .rd xRmRoomA2 (.num 30))) (.cons (.wr .u8 (.c2 .rd xRmRoomA2 (.num 31))) (.cons (.wr .u8 (.c2 .rd xRmRoomA2 (.num 32))) (.cons (.wr .u8 (.c2 .rd xRmRoomA2 (.num 33))) (.cons (.wr .u8 (.c2 .rd xRmRoomA2 (.num 34))) (.cons (.wr .u8 (.c2 .rd xRmRoomA2 (.num 35))) (.cons (.wr .u8 (.c2 .rd xRmRoomA2 (.num 36))) (.cons (.wr .u8 (.c2 .rd xRmRoomA2 (.num 37))) (.cons (.wr .u8 (.c2 .rd xRmRoomA2 (.num 38))) (.cons (.wr .u8 (.c2 .rd xRmRoomA2 (.num 39))) (.cons (.wr .u8 (.c2 .rd xRmRoomA2 (.num 40))) (.cons (.wr .u8 (.c2 .rd xRmRoomA2 (.num 41))) (.cons (.wr .u8 (.c2 .rd xRmRoomA2 (.num 42))) (.cons (.wr .u8 (.c2 .rd xRmRoomA2 (.num 43))) (.cons (.wr .u8 (.c2 .rd xRmRoomA2 (.num 44))) (.cons (.wr .u8 (.c2 .rd xRmRoomA2 (.num 45))) (.cons (.wr .u8 (.c2 .rd xRmRoomA2 (.num 46))) (.cons (.wr .u8 (.c2 .rd xRmRoomA2 (.num 47))) (.cons (.wr .u8 (.c2 .rd xRmRoomA2 (.num 48))) (.cons (.wr .u8 (.c2 .rd xRmRoomA2 (.num 49))) (.cons (.wr .u8 (.c2 .rd xRmRoomA2 (.num 50))) (.cons (.wr .u8 (.c2 .rd xRmRoomA2 (.num 51))) (.cons (.wr .u8 (.c2 .rd xRmRoomA2 (.num 52))) (.cons (.wr .u8 (.c2 .rd xRmRoomA2 (.num 53))) (.cons (.wr .u8 (.c2 .rd xRmRoomA2 (.num 54))) (.cons (.wr .u8 (.c2 .rd xRmRoomA2 (.num 55))) (.cons (.wr .u8 (.c2 .rd xRmRoomA2 (.num 56))) (.cons (.wr .u8 (.c2 .rd xRmRoomA2 (.num 57))) (.cons (.wr .u8 (.c2 .rd xRmRoomA2 (.num 58))) (.cons (.wr .u8 (.c2 .rd xRmRoomA2 (.num 59))) (.cons (.wr .u8 (.c2 .rd xRmRoomA2 (.num 60))) (.cons (.wr .u8 (.c2 .rd xRmRoomA2 (.num 61))) (.cons (.wr .u8 (.c2 .rd xRmRoomA2 (.num 62))) (.cons (.wr .u8 (.c2 .rd xRmRoomA2 (.num 63))) (.cons (.wr .u8 (.c2 .rd xRmRoomA2 (.num 64))) (.cons (.wr .u16 (.c2 .rd xRmRoomA2 (.num 65))) (.cons (.wr .u16 (.c2 .rd xRmRoomA2 (.num 66))) (.cons (.wr .u32 (.c2 .rd xRmRoomA2 (.num 67))) (.cons (.wr .u32 (.c2 .rd xRmRoomA2 (.num 68))) (.cons (.wr .u8 (.c2 .rd xRmRoomA2 (.num 69))) (.cons (.wr .u16 (.c2 .rd xRmRoomA2 (.num 70))) (.cons (.wr .u16 (.c2 .rd xRmRoomA2 (.num 71))) (.cons (.wr .u16 (.c2 .rd xRmRoomA2 (.num 72))) .nil)))))))))))))))))))))))))))))))))))))))))))))))))))))))))))))))))))))))))
def xRmRoomA4 : T := (.fn 76 (.c2 .take (.c2 .sub (.var 14) (.var 13)) (.c2 .drop (.var 13) (.var 12))) (.c2 .rd (.var 6) (.c2 .add (.c2 .mul (.var 7) (.num 75)) (.num 1))) .nil)
def xRmRoomA5 : T := (.cons (.wr .u8 (.c2 .rd xRmRoomA4 (.num 0))) (.cons (.wr .u8 (.c2 .rd xRmRoomA4 (.num 1))) (.cons (.wr .u8 (.c2 .rd xRmRoomA4 (.num 2))) (.cons (.wr .u8 (.c2 .rd xRmRoomA4 (.num 3))) (.cons (.wr .u8 (.c2 .rd xRmRoomA4 (.num 4))) (.cons (.wr .u8 (.c2 .rd xRmRoomA4 (.num 5))) (.cons (.wr .u8 (.c2 .rd xRmRoomA4 (.num 6))) (.cons (.wr .u8 (.c2 .rd xRmRoomA4 (.num 7))) (.cons (.wr .u8 (.c2 .rd xRmRoomA4 (.num 8))) (.cons (.wr .u8 (.c2 .rd xRmRoomA4 (.num 9))) (.cons (.wr .u8 (.c2 .rd xRmRoomA4 (.num 10))) (.cons (.wr .u8 (.c2 .rd xRmRoomA4 (.num 11))) (.cons (.wr .u8 (.c2 .rd xRmRoomA4 (.num 12))) (.cons (.wr .u16 (.c2 .rd xRmRoomA4 (.num 13))) (.cons (.wr .u8 (.c2 .rd xRmRoomA4 (.num 14))) (.cons (.wr .u16 (.c2 .rd xRmRoomA4 (.num 15))) (.cons (.wr .u16 (.c2 .rd xRmRoomA4 (.num 16))) (.cons (.wr .u8 (.c2 .rd xRmRoomA4 (.num 17))) (.cons (.wr .u8 (.c2 .rd xRmRoomA4 (.num 18))) (.cons (.wr .u8 (.c2 .rd xRmRoomA4 (.num 19))) (.cons (.wr .u16 (.c2 .rd xRmRoomA4 (.num 20))) (.cons (.wr .u8 (.c2 .rd xRmRoomA4 (.num 21))) (.cons (.wr .u8 (.c2 .rd xRmRoomA4 (.num 22))) (.cons (.wr .u8 (.c2 .rd xRmRoomA4 (.num 23))) (.cons (.wr .u8 (.c2 .rd xRmRoomA4 (.num 24))) (.cons (.wr .u8 (.c2 .rd xRmRoomA4 (.num 25))) (.cons (.wr .u8 (.c2 .rd xRmRoomA4 (.num 26))) (.cons (.wr .u8 (.c2 .rd xRmRoomA4 (.num 27))) (.cons (.wr .u8 (.c2 .rd xRmRoomA4 (.num 28))) (.cons (.wr .u8 (.c2 .rd xRmRoomA4 (.num 29))) (.cons (.wr .u32 (.c2 .rd xRmRoomA4 (.num 30))) (.cons (.wr .u8 (.c2 .rd xRmRoomA4 (.num 31))) (.cons (.wr .u8 (.c2 .rd xRmRoomA4 (.num 32))) (.cons (.wr .u8 (.c2 .rd xRmRoomA4 (.num 33))) (.cons (.wr .u8 (.c2 .rd xRmRoomA4 (.num 34))) (.cons (.wr .u8 (.c2 .rd xRmRoomA4 (.num 35))) (.cons (.wr .u8 (.c2 .rd xRmRoomA4 (.num 36))) (.cons (.wr .u8 (.c2 .rd xRmRoomA4 (.num 37))) (.cons (.wr .u8 (.c2 .rd xRmRoomA4 (.num 38))) (.cons (.wr .u8 (.c2 .rd xRmRoomA4 (.num 39))) (.cons (.wr .u8 (.c2 .rd xRmRoomA4 (.num 40))) (.cons (.wr .u8 (.c2 .rd xRmRoomA4 (.num 41))) (.cons (.wr .u8 (.c2 .rd xRmRoomA4 (.num 42))) (.cons (.wr .u8 (.c2 .rd xRmRoomA4 (.num 43))) (.cons (.wr .u8 (.c2 .rd xRmRoomA4 (.num 44))) (.cons (.wr .u8 (.c2 .rd xRmRoomA4 (.num 45))) (.cons (.wr .u8 (.c2 .rd xRmRoomA4 (.num 46))) (.cons (.wr .u8 (.c2 .rd xRmRoomA4 (.num 47))) (.cons (.wr .u8 (.c2 .rd xRmRoomA4 (.num 48))) (.cons (.wr .u8 (.c2 .rd xRmRoomA4 (.num 49))) (.cons (.wr .u8 (.c2 .rd xRmRoomA4 (.num 50))) (.cons (.wr .u8 (.c2 .rd xRmRoomA4 (.num 51))) (.cons (.wr .u8 (.c2 .rd xRmRoomA4 (.num 52))) (.cons (.wr .u8 (.c2 .rd xRmRoomA4 (.num 53))) (.cons (.wr .u8 (.c2 .rd xRmRoomA4 (.num 54))) (.cons (.wr .u8 (.c2 .rd xRmRoomA4 (.num 55))) (.cons (.wr .u8 (.c2 .rd xRmRoomA4 (.num 56))) (.cons (.wr .u8 (.c2 .rd xRmRoomA4 (.num 57))) (.cons (.wr .u8 (.c2 .rd xRmRoomA4 (.num 58))) (.cons (.wr .u8 (.c2 .rd xRmRoomA4 (.num 59))) (.cons (.wr .u8 (.c2 .rd xRmRoomA4 (.num 60))) (.cons (.wr .u8 (.c2 .rd xRmRoomA4 (.num 61))) (.cons (.wr .u8 (.c2 .rd xRmRoomA4 (.num 62))) (.cons (.wr .u8 (.c2 .rd xRmRoomA4 (.num 63))) (.cons (.wr .u8 (.c2 .rd xRmRoomA4 (.num 64))) (.cons (.wr .u16 (.c2 .rd xRmRoomA4 (.num 65))) (.cons (.wr .u16 (.c2 .rd xRmRoomA4 (.num 66))) (.cons (.wr .u32 (.c2 .rd xRmRoomA4 (.num 67))) (.cons (.wr .u32 (.c2 .rd xRmRoomA4 (.num 68))) (.cons (.wr .u8 (.c2 .rd xRmRoomA4 (.num 69))) (.cons (.wr .u16 (.c2 .rd xRmRoomA4 (.num 70))) (.cons (.wr .u16 (.c2 .rd xRmRoomA4 (.num 71))) (.cons (.wr .u16 (.c2 .rd xRmRoomA4 (.num 72))) .nil)))))))))))))))))))))))))))))))))))))))))))))))))))))))))))))))))))))))))
def xRmRoomA6 : T := (.c2 .take (.c2 .sub (.var 10) (.c2 .add (.var 9) (.fn 73 (.c2 .rd (.var 6) (.c2 .add (.c2 .mul (.var 7) (.num 75)) (.num 1))) .nil .nil))) (.c2 .drop (.c2 .add (.var 9) (.fn 73 (.c2 .rd (.var 6) (.c2 .add (.c2 .mul (.var 7) (.num 75)) (.num 1))) .nil .nil)) (.var 8)))
def xRmRoomA7 : T := (.c2 .eq (.c2 .sub (.var 10) (.c2 .add (.var 9) (.fn 73 (.c2 .rd (.var 6) (.c2 .add (.c2 .mul (.var 7) (.num 75)) (.num 1))) .nil .nil))) (.c1 .len xRmRoomA6))
def xRmRoomA8 : T := (.c2 .take (.c2 .sub (.var 14) (.c2 .add (.var 13) (.fn 73 (.c2 .rd (.var 6) (.c2 .add (.c2 .mul (.var 7) (.num 75)) (.num 1))) .nil .nil))) (.c2 .drop (.c2 .add (.var 13) (.fn 73 (.c2 .rd (.var 6) (.c2 .add (.c2 .mul (.var 7) (.num 75)) (.num 1))) .nil .nil)) (.var 12)))
def xRmRoomA9 : T := (.cons (.num 0) (.cons (.num 0) (.cons (.num 0) (.cons (.num 0) (.cons (.num 0) (.cons (.num 0) (.cons (.num 0) (.cons (.num 0) (.cons (.num 0) (.cons (.num 0) (.cons (.num 0) (.cons (.num 0) (.cons (.num 0) (.cons (.num 0) (.cons (.num 0) (.cons (.num 0) (.cons (.num 0) (.cons (.num 0) (.cons (.num 0) (.cons (.num 0) (.cons (.num 0) (.cons (.num 0) (.cons (.num 0) (.cons (.num 0) (.cons (.num 0) (.cons (.num 0) (.cons (.num 0) (.cons (.num 0) (.cons (.num 0) (.cons (.num 0) (.cons (.num 0) (.cons (.num 0) (.cons (.num 0) (.cons (.num 0) (.cons (.num 0) (.cons (.num 0) (.cons (.num 0) (.cons (.num 0) (.cons (.num 0) (.cons (.num 0) (.cons (.num 0) (.cons (.num 0) (.cons (.num 0) (.cons (.num 0) (.cons (.num 0) (.cons (.num 0) (.cons (.num 0) (.cons (.num 0) (.cons (.num 0) (.cons (.num 0) (.cons (.num 0) (.cons (.num 0) (.cons (.num 0) (.cons (.num 0) (.cons (.num 0) (.cons (.num 0) (.cons (.num 0) (.cons (.num 0) (.cons (.num 0) (.cons (.num 0) (.cons (.num 0) (.cons (.num 0) (.cons (.num 0) (.cons (.num 0) (.cons (.num 0) (.cons (.num 0) (.cons (.num 0) (.cons (.num 0) (.cons (.num 0) (.cons (.num 0) (.cons (.num 0) (.cons (.num 0) (.cons (.num 0) .nil)))))))))))))))))))))))))))))))))))))))))))))))))))))))))))))))))))))))))
def xRmRoomA10 : T := (.c1 .not (.c2 .leq (.c2 .take (.c2 .sub (.var 10) (.var 9)) (.c2 .drop (.var 9) (.var 8))) (.c2 .take (.c2 .sub (.var 14) (.var 13)) (.c2 .drop (.var 13) (.var 12)))))
def xRmRoomA11 : T := (.cons (.c2 .rd (.var 6) (.c2 .add (.c2 .mul (.var 7) (.num 75)) (.num 2))) (.cons (.c2 .rd (.var 6) (.c2 .add (.c2 .mul (.var 7) (.num 75)) (.num 3))) (.cons (.c2 .rd (.var 6) (.c2 .add (.c2 .mul (.var 7) (.num 75)) (.num 4))) (.cons (.c2 .rd (.var 6) (.c2 .add (.c2 .mul (.var 7) (.num 75)) (.num 5))) (.cons (.c2 .rd (.var 6) (.c2 .add (.c2 .mul (.var 7) (.num 75)) (.num 6))) (.cons (.c2 .rd (.var 6) (.c2 .add (.c2 .mul (.var 7) (.num 75)) (.num 7))) (.cons (.c2 .rd (.var 6) (.c2 .add (.c2 .mul (.var 7) (.num 75)) (.num 8))) (.cons (.c2 .rd (.var 6) (.c2 .add (.c2 .mul (.var 7) (.num 75)) (.num 9))) (.cons (.c2 .rd (.var 6) (.c2 .add (.c2 .mul (.var 7) (.num 75)) (.num 10))) (.cons (.c2 .rd (.var 6) (.c2 .add (.c2 .mul (.var 7) (.num 75)) (.num 11))) (.cons (.c2 .rd (.var 6) (.c2 .add (.c2 .mul (.var 7) (.num 75)) (.num 12))) (.cons (.c2 .rd (.var 6) (.c2 .add (.c2 .mul (.var 7) (.num 75)) (.num 13))) (.cons (.c2 .rd (.var 6) (.c2 .add (.c2 .mul (.var 7) (.num 75)) (.num 14))) (.cons (.c2 .rd (.var 6) (.c2 .add (.c2 .mul (.var 7) (.num 75)) (.num 15))) (.cons (.c2 .rd (.var 6) (.c2 .add (.c2 .mul (.var 7) (.num 75)) (.num 16))) (.cons (.c2 .rd (.var 6) (.c2 .add (.c2 .mul (.var 7) (.num 75)) (.num 17))) (.cons (.c2 .rd (.var 6) (.c2 .add (.c2 .mul (.var 7) (.num 75)) (.num 18))) (.cons (.c2 .rd (.var 6) (.c2 .add (.c2 .mul (.var 7) (.num 75)) (.num 19))) (.cons (.c2 .rd (.var 6) (.c2 .add (.c2 .mul (.var 7) (.num 75)) (.num 20))) (.cons (.c2 .rd (.var 6) (.c2 .add (.c2 .mul (.var 7) (.num 75)) (.num 21))) (.cons (.c2 .rd (.var 6) (.c2 .add (.c2 .mul (.var 7) (.num 75)) (.num 22))) (.cons (.c2 .rd (.var 6) (.c2 .add (.c2 .mul (.var 7) (.num 75)) (.num 23))) (.cons (.c2 .rd (.var 6) (.c2 .add (.c2 .mul (.var 7) (.num 75)) (.num 24))) (.cons (.c2 .rd (.var 6) (.c2 .add (.c2 .mul (.var 7) (.num 75)) (.num 25))) (.cons (.c2 .rd (.var 6) (.c2 .add (.c2 .mul (.var 7) (.num 75)) (.num 26))) (.cons (.c2 .rd (.var 6) (.c2 .add (.c2 .mul (.var 7) (.num 75)) (.num 27))) (.cons (.c2 .rd (.var 6) (.c2 .add (.c2 .mul (.var 7) (.num 75)) (.num 28))) (.cons (.c2 .rd (.var 6) (.c2 .add (.c2 .mul (.var 7) (.num 75)) (.num 29))) (.cons (.c2 .rd (.var 6) (.c2 .add (.c2 .mul (.var 7) (.num 75)) (.num 30))) (.cons (.c2 .rd (.var 6) (.c2 .add (.c2 .mul (.var 7) (.num 75)) (.num 31))) (.cons (.c2 .rd (.var 6) (.c2 .add (.c2 .mul (.var 7) (.num 75)) (.num 32))) (.cons (.c2 .rd (.var 6) (.c2 .add (.c2 .mul (.var 7) (.num 75)) (.num 33))) (.cons (.c2 .rd (.var 6) (.c2 .add (.c2 .mul (.var 7) (.num 75)) (.num 34))) (.cons (.c2 .rd (.var 6) (.c2 .add (.c2 .mul (.var 7) (.num 75)) (.num 35))) (.cons (.c2 .rd (.var 6) (.c2 .add (.c2 .mul (.var 7) (.num 75)) (.num 36))) (.cons (.c2 .rd (.var 6) (.c2 .add (.c2 .mul (.var 7) (.num 75)) (.num 37))) (.cons (.c2 .rd (.var 6) (.c2 .add (.c2 .mul (.var 7) (.num 75)) (.num 38))) (.cons (.c2 .rd (.var 6) (.c2 .add (.c2 .mul (.var 7) (.num 75)) (.num 39))) (.cons (.c2 .rd (.var 6) (.c2 .add (.c2 .mul (.var 7) (.num 75)) (.num 40))) (.cons (.c2 .rd (.var 6) (.c2 .add (.c2 .mul (.var 7) (.num 75)) (.num 41))) (.cons (.c2 .rd (.var 6) (.c2 .add (.c2 .mul (.var 7) (.num 75)) (.num 42))) (.cons (.c2 .rd (.var 6) (.c2 .add (.c2 .mul (.var 7) (.num 75)) (.num 43))) (.cons (.c2 .rd (.var 6) (.c2 .add (.c2 .mul (.var 7) (.num 75)) (.num 44))) (.cons (.c2 .rd (.var 6) (.c2 .add (.c2 .mul (.var 7) (.num 75)) (.num 45))) (.cons (.c2 .rd (.var 6) (.c2 .add (.c2 .mul (.var 7) (.num 75)) (.num 46))) (.cons (.c2 .rd (.var 6) (.c2 .add (.c2 .mul (.var 7) (.num 75)) (.num 47))) (.cons (.c2 .rd (.var 6) (.c2 .add (.c2 .mul (.var 7) (.num 75)) (.num 48))) (.cons (.c2 .rd (.var 6) (.c2 .add (.c2 .mul (.var 7) (.num 75)) (.num 49))) (.cons (.c2 .rd (.var 6) (.c2 .add (.c2 .mul (.var 7) (.num 75)) (.num 50))) (.cons (.c2 .rd (.var 6) (.c2 .add (.c2 .mul (.var 7) (.num 75)) (.num 51))) (.cons (.c2 .rd (.var 6) (.c2 .add (.c2 .mul (.var 7) (.num 75)) (.num 52))) (.cons (.c2 .rd (.var 6) (.c2 .add (.c2 .mul (.var 7) (.num 75)) (.num 53))) (.cons (.c2 .rd (.var 6) (.c2 .add (.c2 .mul (.var 7) (.num 75)) (.num 54))) (.cons (.c2 .rd (.var 6) (.c2 .add (.c2 .mul (.var 7) (.num 75)) (.num 55))) (.cons (.c2 .rd (.var 6) (.c2 .add (.c2 .mul (.var 7) (.num 75)) (.num 56))) (.cons (.c2 .rd (.var 6) (.c2 .add (.c2 .mul (.var 7) (.num 75)) (.num 57))) (.cons (.c2 .rd (.var 6) (.c2 .add (.c2 .mul (.var 7) (.num 75)) (.num 58))) (.cons (.c2 .rd (.var 6) (.c2 .add (.c2 .mul (.var 7) (.num 75)) (.num 59))) (.cons (.c2 .rd (.var 6) (.c2 .add (.c2 .mul (.var 7) (.num 75)) (.num 60))) (.cons (.c2 .rd (.var 6) (.c2 .add (.c2 .mul (.var 7) (.num 75)) (.num 61))) (.cons (.c2 .rd (.var 6) (.c2 .add (.c2 .mul (.var 7) (.num 75)) (.num 62))) (.cons (.c2 .rd (.var 6) (.c2 .add (.c2 .mul (.var 7) (.num 75)) (.num 63))) (.cons (.c2 .rd (.var 6) (.c2 .add (.c2 .mul (.var 7) (.num 75)) (.num 64))) (.cons (.c2 .rd (.var 6) (.c2 .add (.c2 .mul (.var 7) (.num 75)) (.num 65))) (.cons (.c2 .rd (.var 6) (.c2 .add (.c2 .mul (.var 7) (.num 75)) (.num 66))) (.cons (.c2 .rd (.var 6) (.c2 .add (.c2 .mul (.var 7) (.num 75)) (.num 67))) (.cons (.c2 .rd (.var 6) (.c2 .add (.c2 .mul (.var 7) (.num 75)) (.num 68))) (.cons (.c2 .rd (.var 6) (.c2 .add (.c2 .mul (.var 7) (.num 75)) (.num 69))) (.cons (.c2 .rd (.var 6) (.c2 .add (.c2 .mul (.var 7) (.num 75)) (.num 70))) (.cons (.c2 .rd (.var 6) (.c2 .add (.c2 .mul (.var 7) (.num 75)) (.num 71))) (.cons (.c2 .rd (.var 6) (.c2 .add (.c2 .mul (.var 7) (.num 75)) (.num 72))) (.cons (.c2 .rd (.var 6) (.c2 .add (.c2 .mul (.var 7) (.num 75)) (.num 73))) (.cons (.c2 .rd (.var 6) (.c2 .add (.c2 .mul (.var 7) (.num 75)) (.num 74))) .nil)))))))))))))))))))))))))))))))))))))))))))))))))))))))))))))))))))))))))
def xRmRoomA12 : T := (.c2 .add (.fn 84 (.var 9) (.fn 73 (.c2 .rd (.var 6) (.c2 .add (.c2 .mul (.var 7) (.num 75)) (.num 2))) .nil .nil) .nil) (.c2 .add (.fn 73 (.c2 .rd (.var 6) (.c2 .add (.c2 .mul (.var 7) (.num 75)) (.num 2))) .nil .nil) (.c2 .sub (.var 10) (.var 9))))
def xRmRoomA13 : T := (.c2 .le (.c2 .add (.fn 73 (.c2 .rd (.var 6) (.c2 .add (.c2 .mul (.var 7) (.num 75)) (.num 2))) .nil .nil) (.c2 .sub (.var 14) (.var 13))) (.num 2048))
def xRmRoomA14 : T := (.c2 .add (.fn 84 (.var 13) (.fn 73 (.c2 .rd (.var 6) (.c2 .add (.c2 .mul (.var 7) (.num 75)) (.num 2))) .nil .nil) .nil) (.c2 .add (.fn 73 (.c2 .rd (.var 6) (.c2 .add (.c2 .mul (.var 7) (.num 75)) (.num 2))) .nil .nil) (.c2 .sub (.var 14) (.var 13))))
def xRmRoomA15 : T := (.c2 .take (.c2 .sub xRmRoomA12 (.fn 84 (.var 9) (.fn 73 (.c2 .rd (.var 6) (.c2 .add (.c2 .mul (.var 7) (.num 75)) (.num 2))) .nil .nil) .nil)) (.c2 .drop (.fn 84 (.var 9) (.fn 73 (.c2 .rd (.var 6) (.c2 .add (.c2 .mul (.var 7) (.num 75)) (.num 2))) .nil .nil) .nil) (.fn 82 (.var 8) (.cons (.var 9) (.cons (.var 10) .nil)) xRmRoomA11)))
def xRmRoomA16 : T := (.c2 .eq (.c2 .sub xRmRoomA12 (.fn 84 (.var 9) (.fn 73 (.c2 .rd (.var 6) (.c2 .add (.c2 .mul (.var 7) (.num 75)) (.num 2))) .nil .nil) .nil)) (.c1 .len xRmRoomA15))
def xRmRoomA17 : T := (.c2 .take (.c2 .sub xRmRoomA14 (.fn 84 (.var 13) (.fn 73 (.c2 .rd (.var 6) (.c2 .add (.c2 .mul (.var 7) (.num 75)) (.num 2))) .nil .nil) .nil)) (.c2 .drop (.fn 84 (.var 13) (.fn 73 (.c2 .rd (.var 6) (.c2 .add (.c2 .mul (.var 7) (.num 75)) (.num 2))) .nil .nil) .nil) (.fn 82 (.var 12) (.cons (.var 13) (.cons (.var 14) .nil)) xRmRoomA11)))
def treeRmRoomA : M (V × St) :=
(.chk (.c2 .le (.num 0) (.fn 66 (.var 1) (.num 257) .nil))
(.chk (.c2 .lt (.fn 66 (.var 1) (.num 257) .nil) (.num 257))
(.chk (.c2 .le (.num 0) (.fn 66 (.var 2) (.num 257) .nil))
(.chk (.c2 .lt (.fn 66 (.var 2) (.num 257) .nil) (.num 257))
(.chk (.c1 (.kin [.u8]) (.fn 83 (.var 0) (.fn 66 (.var 1) (.num 257) .nil) (.fn 66 (.var 2) (.num 257) .nil)))
(.chk (.c2 .eq (.c1 .len (.fn 83 (.var 0) (.fn 66 (.var 1) (.num 257) .nil) (.fn 66 (.var 2) (.num 257) .nil))) (.c2 .add (.c2 .add (.fn 66 (.var 1) (.num 257) .nil) (.c1 .len (.var 0))) (.fn 66 (.var 2) (.num 257) .nil)))
(.chk (.c2 .le (.num 0) (.fn 66 (.var 3) (.num 257) .nil))
(.chk (.c2 .lt (.fn 66 (.var 3) (.num 257) .nil) (.num 257))
(.chk (.c2 .le (.num 0) (.fn 66 (.var 4) (.num 257) .nil))
(.chk (.c2 .lt (.fn 66 (.var 4) (.num 257) .nil) (.num 257))
(.chk (.c1 (.kin [.u8]) (.fn 83 (.var 0) (.fn 66 (.var 3) (.num 257) .nil) (.fn 66 (.var 4) (.num 257) .nil)))
(.chk (.c2 .eq (.c1 .len (.fn 83 (.var 0) (.fn 66 (.var 3) (.num 257) .nil) (.fn 66 (.var 4) (.num 257) .nil))) (.c2 .add (.c2 .add (.fn 66 (.var 3) (.num 257) .nil) (.c1 .len (.var 0))) (.fn 66 (.var 4) (.num 257) .nil)))
(.loop 0 7 9 [(.num 0), (.fn 83 (.var 0) (.fn 66 (.var 1) (.num 257) .nil) (.fn 66 (.var 2) (.num 257) .nil)), (.fn 66 (.var 1) (.num 257) .nil), (.c2 .add (.fn 66 (.var 1) (.num 257) .nil) (.c1 .len (.var 0))), (.num 0), (.fn 83 (.var 0) (.fn 66 (.var 3) (.num 257) .nil) (.fn 66 (.var 4) (.num 257) .nil)), (.fn 66 (.var 3) (.num 257) .nil), (.c2 .add (.fn 66 (.var 3) (.num 257) .nil) (.c1 .len (.var 0))), (.num 0)] [((.c2 .le (.num 0) (.var 7)), true), ((.c2 .le (.num 0) (.var 9)), true), ((.c2 .le (.var 9) (.var 10)), true), ((.c2 .le (.var 10) (.c1 .len (.var 8))), true), ((.c2 .le (.c2 .sub (.var 10) (.var 9)) (.num 2048)), true), ((.c2 .le (.c1 .len (.var 8)) (.num 2560)), true), ((.c2 .le (.var 9) (.num 2560)), true), ((.c2 .le (.num 0) (.var 10)), true), ((.c2 .le (.var 10) (.num 2560)), true), ((.c2 .le (.num 0) (.var 11)), true), ((.c2 .le (.var 11) (.num 1000)), true), ((.c1 (.kin [.u8]) (.var 8)), true), ((.c2 .le (.num 0) (.var 13)), true), ((.c2 .le (.var 13) (.var 14)), true), ((.c2 .le (.var 14) (.c1 .len (.var 12))), true), ((.c2 .le (.c2 .sub (.var 14) (.var 13)) (.num 2048)), true), ((.c2 .le (.c1 .len (.var 12)) (.num 2560)), true), ((.c2 .le (.var 13) (.num 2560)), true), ((.c2 .le (.num 0) (.var 14)), true), ((.c2 .le (.var 14) (.num 2560)), true), ((.c2 .le (.num 0) (.var 15)), true), ((.c2 .le (.var 15) (.num 1000)), true), ((.c1 (.kin [.u8]) (.var 12)), true)]
 (.split (.c2 .lt (.var 7) (.var 5))
  (.split (.c2 .lt (.var 7) (.num 20))
   (.chk (.c2 .le (.c2 .add (.c2 .mul (.var 7) (.num 75)) (.num 1)) (.c1 .len (.var 6)))
   (.split (.c1 .not (.c2 .eq (.c2 .rd (.var 6) (.c2 .mul (.var 7) (.num 75))) (.num 0)))
    (.chk (.c2 .le (.c2 .add (.c2 .mul (.var 7) (.num 75)) (.num 2)) (.c1 .len (.var 6)))
    (.split (.c2 .eq xRmRoomA0 (.num 0))
     (.chk (.c2 .le (.num 4) (.fn 73 (.c2 .rd (.var 6) (.c2 .add (.c2 .mul (.var 7) (.num 75)) (.num 1))) .nil .nil))
     (.chk (.c2 .le (.fn 73 (.c2 .rd (.var 6) (.c2 .add (.c2 .mul (.var 7) (.num 75)) (.num 1))) .nil .nil) (.c2 .sub (.var 10) (.var 9)))
     (.split (.c2 .eq xRmRoomA1 (.num 0))
      (.chk (.c2 .le (.fn 73 (.c2 .rd (.var 6) (.c2 .add (.c2 .mul (.var 7) (.num 75)) (.num 1))) .nil .nil) (.c2 .sub (.var 14) (.var 13)))
      (.split (.c1 .not (.c2 .leq xRmRoomA3 xRmRoomA5))
       (.ret (.w (.c (.b (.bol false))), ⟨[], [], 5651, 16, []⟩))
       (.chk xRmRoomA7
       (.chk (.c2 .eq (.c2 .sub (.var 14) (.c2 .add (.var 13) (.fn 73 (.c2 .rd (.var 6) (.c2 .add (.c2 .mul (.var 7) (.num 75)) (.num 1))) .nil .nil))) (.c1 .len xRmRoomA8))
       (.split (.c1 .not (.c2 .leq xRmRoomA6 xRmRoomA8))
        (.ret (.w (.c (.b (.bol false))), ⟨[], [], 5657, 16, []⟩))
        (.split (.c1 .not (.c2 .eq (.c2 .add (.var 11) (.num 1)) (.c2 .add (.var 15) (.num 1))))
         (.ret (.w (.c (.b (.bol false))), ⟨[], [], 5657, 16, []⟩))
         (.back 0 7 [(.c2 .add (.var 7) (.num 1)), (.var 8), (.c2 .add (.var 9) (.fn 73 (.c2 .rd (.var 6) (.c2 .add (.c2 .mul (.var 7) (.num 75)) (.num 1))) .nil .nil)), (.var 10), (.c2 .add (.var 11) (.num 1)), (.var 12), (.c2 .add (.var 13) (.fn 73 (.c2 .rd (.var 6) (.c2 .add (.c2 .mul (.var 7) (.num 75)) (.num 1))) .nil .nil)), (.var 14), (.c2 .add (.var 15) (.num 1))])))))))
      (.split (.c1 .not (.c2 .leq xRmRoomA3 xRmRoomA9))
       (.ret (.w (.c (.b (.bol false))), ⟨[], [], 5651, 16, []⟩))
       (.split (.c1 .not (.c2 .eq (.num 0) xRmRoomA1))
        (.ret (.w (.c (.b (.bol false))), ⟨[], [], 5651, 16, []⟩))
        (.chk xRmRoomA7
        (.chk (.c2 .eq (.c2 .sub (.var 14) (.var 13)) (.c1 .len (.c2 .take (.c2 .sub (.var 14) (.var 13)) (.c2 .drop (.var 13) (.var 12)))))
        (.split (.c1 .not (.c2 .leq xRmRoomA6 (.c2 .take (.c2 .sub (.var 14) (.var 13)) (.c2 .drop (.var 13) (.var 12)))))
         (.ret (.w (.c (.b (.bol false))), ⟨[], [], 5657, 16, []⟩))
         (.split (.c1 .not (.c2 .eq (.c2 .add (.var 11) (.num 1)) (.var 15)))
          (.ret (.w (.c (.b (.bol false))), ⟨[], [], 5657, 16, []⟩))
          (.back 0 7 [(.c2 .add (.var 7) (.num 1)), (.var 8), (.c2 .add (.var 9) (.fn 73 (.c2 .rd (.var 6) (.c2 .add (.c2 .mul (.var 7) (.num 75)) (.num 1))) .nil .nil)), (.var 10), (.c2 .add (.var 11) (.num 1)), (.var 12), (.var 13), (.var 14), (.var 15)]))))))))))
     (.split (.c2 .eq xRmRoomA1 (.num 0))
      (.chk (.c2 .le (.num 4) (.fn 73 (.c2 .rd (.var 6) (.c2 .add (.c2 .mul (.var 7) (.num 75)) (.num 1))) .nil .nil))
      (.chk (.c2 .le (.fn 73 (.c2 .rd (.var 6) (.c2 .add (.c2 .mul (.var 7) (.num 75)) (.num 1))) .nil .nil) (.c2 .sub (.var 14) (.var 13)))
      (.split (.c1 .not (.c2 .leq xRmRoomA9 xRmRoomA5))
       (.ret (.w (.c (.b (.bol false))), ⟨[], [], 5651, 16, []⟩))
       (.ret (.w (.c (.b (.bol false))), ⟨[], [], 5651, 16, []⟩)))))
      (.split (.c1 .not (.c2 .eq xRmRoomA0 xRmRoomA1))
       (.ret (.w (.c (.b (.bol false))), ⟨[], [], 5651, 16, []⟩))
       (.chk (.c2 .eq (.c2 .sub (.var 10) (.var 9)) (.c1 .len (.c2 .take (.c2 .sub (.var 10) (.var 9)) (.c2 .drop (.var 9) (.var 8)))))
       (.chk (.c2 .eq (.c2 .sub (.var 14) (.var 13)) (.c1 .len (.c2 .take (.c2 .sub (.var 14) (.var 13)) (.c2 .drop (.var 13) (.var 12)))))
       (.split xRmRoomA10
        (.ret (.w (.c (.b (.bol false))), ⟨[], [], 5657, 16, []⟩))
        (.split (.c1 .not (.c2 .eq (.var 11) (.var 15)))
         (.ret (.w (.c (.b (.bol false))), ⟨[], [], 5657, 16, []⟩))
         (.back 0 7 [(.c2 .add (.var 7) (.num 1)), (.var 8), (.var 9), (.var 10), (.var 11), (.var 12), (.var 13), (.var 14), (.var 15)])))))))))
    (.chk (.c2 .le (.c2 .add (.c2 .mul (.var 7) (.num 75)) (.num 75)) (.c1 .len (.var 6)))
    (.split (.c2 .eq (.fn 70 xRmRoomA11 (.c2 .take (.c2 .sub (.var 10) (.var 9)) (.c2 .drop (.var 9) (.var 8))) .nil) (.num 0))
     (.chk (.c1 (.kin [.u8]) (.fn 82 (.var 8) (.cons (.var 9) (.cons (.var 10) .nil)) xRmRoomA11))
     (.chk (.c2 .le (.c1 .len (.fn 82 (.var 8) (.cons (.var 9) (.cons (.var 10) .nil)) xRmRoomA11)) (.num 2560))
     (.chk (.c2 .le (.num 4) (.fn 73 (.c2 .rd (.var 6) (.c2 .add (.c2 .mul (.var 7) (.num 75)) (.num 2))) .nil .nil))
     (.chk (.c2 .le (.fn 73 (.c2 .rd (.var 6) (.c2 .add (.c2 .mul (.var 7) (.num 75)) (.num 2))) .nil .nil) (.num 40))
     (.chk (.c2 .le (.c2 .add (.fn 73 (.c2 .rd (.var 6) (.c2 .add (.c2 .mul (.var 7) (.num 75)) (.num 2))) .nil .nil) (.c2 .sub (.var 10) (.var 9))) (.num 2048))
     (.chk (.c2 .le (.num 0) (.fn 84 (.var 9) (.fn 73 (.c2 .rd (.var 6) (.c2 .add (.c2 .mul (.var 7) (.num 75)) (.num 2))) .nil .nil) .nil))
     (.chk (.c2 .le (.fn 84 (.var 9) (.fn 73 (.c2 .rd (.var 6) (.c2 .add (.c2 .mul (.var 7) (.num 75)) (.num 2))) .nil .nil) .nil) (.num 2560))
     (.chk (.c2 .le xRmRoomA12 (.c1 .len (.fn 82 (.var 8) (.cons (.var 9) (.cons (.var 10) .nil)) xRmRoomA11)))
     (.split (.c2 .eq (.fn 70 xRmRoomA11 (.c2 .take (.c2 .sub (.var 14) (.var 13)) (.c2 .drop (.var 13) (.var 12))) .nil) (.num 0))
      (.chk (.c1 (.kin [.u8]) (.fn 82 (.var 12) (.cons (.var 13) (.cons (.var 14) .nil)) xRmRoomA11))
      (.chk (.c2 .le (.c1 .len (.fn 82 (.var 12) (.cons (.var 13) (.cons (.var 14) .nil)) xRmRoomA11)) (.num 2560))
      (.chk xRmRoomA13
      (.chk (.c2 .le (.num 0) (.fn 84 (.var 13) (.fn 73 (.c2 .rd (.var 6) (.c2 .add (.c2 .mul (.var 7) (.num 75)) (.num 2))) .nil .nil) .nil))
      (.chk (.c2 .le (.fn 84 (.var 13) (.fn 73 (.c2 .rd (.var 6) (.c2 .add (.c2 .mul (.var 7) (.num 75)) (.num 2))) .nil .nil) .nil) (.num 2560))
      (.chk (.c2 .le xRmRoomA14 (.c1 .len (.fn 82 (.var 12) (.cons (.var 13) (.cons (.var 14) .nil)) xRmRoomA11)))
      (.chk xRmRoomA16
      (.chk (.c2 .eq (.c2 .sub xRmRoomA14 (.fn 84 (.var 13) (.fn 73 (.c2 .rd (.var 6) (.c2 .add (.c2 .mul (.var 7) (.num 75)) (.num 2))) .nil .nil) .nil)) (.c1 .len xRmRoomA17))
      (.split (.c1 .not (.c2 .leq xRmRoomA15 xRmRoomA17))
       (.ret (.w (.c (.b (.bol false))), ⟨[], [], 5655, 16, []⟩))
       (.split (.c1 .not (.c2 .eq (.c2 .add (.var 11) (.num 1)) (.c2 .add (.var 15) (.num 1))))
        (.ret (.w (.c (.b (.bol false))), ⟨[], [], 5655, 16, []⟩))
        (.back 0 7 [(.c2 .add (.var 7) (.num 1)), (.fn 82 (.var 8) (.cons (.var 9) (.cons (.var 10) .nil)) xRmRoomA11), (.fn 84 (.var 9) (.fn 73 (.c2 .rd (.var 6) (.c2 .add (.c2 .mul (.var 7) (.num 75)) (.num 2))) .nil .nil) .nil), xRmRoomA12, (.c2 .add (.var 11) (.num 1)), (.fn 82 (.var 12) (.cons (.var 13) (.cons (.var 14) .nil)) xRmRoomA11), (.fn 84 (.var 13) (.fn 73 (.c2 .rd (.var 6) (.c2 .add (.c2 .mul (.var 7) (.num 75)) (.num 2))) .nil .nil) .nil), xRmRoomA14, (.c2 .add (.var 15) (.num 1))])))))))))))
      (.split (.c1 .not (.c2 .eq (.num 0) (.fn 70 xRmRoomA11 (.c2 .take (.c2 .sub (.var 14) (.var 13)) (.c2 .drop (.var 13) (.var 12))) .nil)))
       (.ret (.w (.c (.b (.bol false))), ⟨[], [], 5649, 16, []⟩))
       (.chk xRmRoomA16
       (.chk (.c2 .eq (.c2 .sub (.var 14) (.var 13)) (.c1 .len (.c2 .take (.c2 .sub (.var 14) (.var 13)) (.c2 .drop (.var 13) (.var 12)))))
       (.split (.c1 .not (.c2 .leq xRmRoomA15 (.c2 .take (.c2 .sub (.var 14) (.var 13)) (.c2 .drop (.var 13) (.var 12)))))
        (.ret (.w (.c (.b (.bol false))), ⟨[], [], 5655, 16, []⟩))
        (.split (.c1 .not (.c2 .eq (.c2 .add (.var 11) (.num 1)) (.var 15)))
         (.ret (.w (.c (.b (.bol false))), ⟨[], [], 5655, 16, []⟩))
         (.back 0 7 [(.c2 .add (.var 7) (.num 1)), (.fn 82 (.var 8) (.cons (.var 9) (.cons (.var 10) .nil)) xRmRoomA11), (.fn 84 (.var 9) (.fn 73 (.c2 .rd (.var 6) (.c2 .add (.c2 .mul (.var 7) (.num 75)) (.num 2))) .nil .nil) .nil), xRmRoomA12, (.c2 .add (.var 11) (.num 1)), (.var 12), (.var 13), (.var 14), (.var 15)])))))))))))))))
     (.split (.c2 .eq (.fn 70 xRmRoomA11 (.c2 .take (.c2 .sub (.var 14) (.var 13)) (.c2 .drop (.var 13) (.var 12))) .nil) (.num 0))
      (.chk (.c1 (.kin [.u8]) (.fn 82 (.var 12) (.cons (.var 13) (.cons (.var 14) .nil)) xRmRoomA11))
      (.chk (.c2 .le (.c1 .len (.fn 82 (.var 12) (.cons (.var 13) (.cons (.var 14) .nil)) xRmRoomA11)) (.num 2560))
      (.chk (.c2 .le (.num 4) (.fn 73 (.c2 .rd (.var 6) (.c2 .add (.c2 .mul (.var 7) (.num 75)) (.num 2))) .nil .nil))
      (.chk (.c2 .le (.fn 73 (.c2 .rd (.var 6) (.c2 .add (.c2 .mul (.var 7) (.num 75)) (.num 2))) .nil .nil) (.num 40))
      (.chk xRmRoomA13
      (.chk (.c2 .le (.num 0) (.fn 84 (.var 13) (.fn 73 (.c2 .rd (.var 6) (.c2 .add (.c2 .mul (.var 7) (.num 75)) (.num 2))) .nil .nil) .nil))
      (.chk (.c2 .le (.fn 84 (.var 13) (.fn 73 (.c2 .rd (.var 6) (.c2 .add (.c2 .mul (.var 7) (.num 75)) (.num 2))) .nil .nil) .nil) (.num 2560))
      (.chk (.c2 .le xRmRoomA14 (.c1 .len (.fn 82 (.var 12) (.cons (.var 13) (.cons (.var 14) .nil)) xRmRoomA11)))
      (.ret (.w (.c (.b (.bol false))), ⟨[], [], 5649, 16, []⟩))))))))))
      (.split (.c1 .not (.c2 .eq (.fn 70 xRmRoomA11 (.c2 .take (.c2 .sub (.var 10) (.var 9)) (.c2 .drop (.var 9) (.var 8))) .nil) (.fn 70 xRmRoomA11 (.c2 .take (.c2 .sub (.var 14) (.var 13)) (.c2 .drop (.var 13) (.var 12))) .nil)))
       (.ret (.w (.c (.b (.bol false))), ⟨[], [], 5649, 16, []⟩))
       (.chk (.c2 .eq (.c2 .sub (.var 10) (.var 9)) (.c1 .len (.c2 .take (.c2 .sub (.var 10) (.var 9)) (.c2 .drop (.var 9) (.var 8)))))
       (.chk (.c2 .eq (.c2 .sub (.var 14) (.var 13)) (.c1 .len (.c2 .take (.c2 .sub (.var 14) (.var 13)) (.c2 .drop (.var 13) (.var 12)))))
       (.split xRmRoomA10
        (.ret (.w (.c (.b (.bol false))), ⟨[], [], 5655, 16, []⟩))
        (.split (.c1 .not (.c2 .eq (.var 11) (.var 15)))
         (.ret (.w (.c (.b (.bol false))), ⟨[], [], 5655, 16, []⟩))
         (.back 0 7 [(.c2 .add (.var 7) (.num 1)), (.var 8), (.var 9), (.var 10), (.var 11), (.var 12), (.var 13), (.var 14), (.var 15)])))))))))))
   (.ret (.w (.c (.b (.bol true))), ⟨[], [], 5053, 16, []⟩)))
  (.ret (.w (.c (.b (.bol true))), ⟨[], [], 5053, 16, []⟩))))))))))))))))
theorem treeRmRoomA_is : funTree (ctxN Go.Proofs.Try.prog annsRm consRm 8) annsRm 3 tRoomA.vs tRoomA.bs tRoomA.n (preF tRoomA.res) = treeRmRoomA := by kernel_rfl
end Go.Proofs.Ytfhjlimdakphcaa.Sx
/- Sx: what Go function 3 does, as a tree of conditions (printed by a tool of this claim, proved by the kernel). Conditions: none. -/
set_option maxRecDepth 100000
namespace Go.Proofs.Ytfhjlimdakphcaa.Sx
open Go
def xRmRoomB0 : T := (.fn 75 (.c2 .take (.c2 .sub (.var 10) (.var 9)) (.c2 .drop (.var 9) (.var 8))) (.c2 .rd (.var 6) (.c2 .add (.c2 .mul (.var 7) (.num 75)) (.num 1))) .nil)
def xRmRoomB1 : T := (.fn 75 (.c2 .take (.c2 .sub (.var 14) (.var 13)) (.c2 .drop (.var 13) (.var 12))) (.c2 .rd (.var 6) (.c2 .add (.c2 .mul (.var 7) (.num 75)) (.num 1))) .nil)
def xRmRoomB2 : T := (.fn 76 (.c2 .take (.c2 .sub (.var 10) (.var 9)) (.c2 .drop (.var 9) (.var 8))) (.c2 .rd (.var 6) (.c2 .add (.c2 .mul (.var 7) (.num 75)) (.num 1))) .nil)
def xRmRoomB3 : T := (.cons (.wr .u8 (.c2 .rd xRmRoomB2 (.num 0))) (.cons (.wr .u8 (.c2 .rd xRmRoomB2 (.num 1))) (.cons (.wr .u8 (.c2 .rd xRmRoomB2 (.num 2))) (.cons (.wr .u8 (.c2 .rd xRmRoomB2 (.num 3))) (.cons (.wr .u8 (.c2 .rd xRmRoomB2 (.num 4))) (.cons (.wr .u8 (.c2 .rd xRmRoomB2 (.num 5))) (.cons (.wr .u8 (.c2 .rd xRmRoomB2 (.num 6))) (.cons (.wr .u8 (.c2 .rd xRmRoomB2 (.num 7))) (.cons (.wr .u8 (.c2 .rd xRmRoomB2 (.num 8))) (.cons (.wr .u8 (.c2 .rd xRmRoomB2 (.num 9))) (.cons (.wr .u8 (.c2 .rd xRmRoomB2 (.num 10))) (.cons (.wr .u8 (.c2 .rd xRmRoomB2 (.num 11))) (.cons (.wr .u8 (.c2 .rd xRmRoomB2 (.num 12))) (.cons (.wr .u16 (.c2 .rd xRmRoomB2 (.num 13))) (.cons (.wr .u8 (.c2 .rd xRmRoomB2 (.num 14))) (.cons (.wr .u16 (.c2 .rd xRmRoomB2 (.num 15))) (.cons (.wr .u16 (.c2 .rd xRmRoomB2 (.num 16))) (.cons (.wr .u8 (.c2 .rd xRmRoomB2 (.num 17))) (.cons (.wr .u8 (.c2 .rd xRmRoomB2 (.num 18))) (.cons (.wr .u8 (.c2 .rd xRmRoomB2 (.num 19))) (.cons (.wr .u16 (.c2 .rd xRmRoomB2 (.num 20))) (.cons (.wr .u8 (.c2 .rd xRmRoomB2 (.num 21))) (.cons (.wr .u8 (.c2 .rd xRmRoomB2 (.num 22))) (.cons (.wr .u8 (.c2 .rd xRmRoomB2 (.num 23))) (.cons (.wr .u8 (.c2 .rd xRmRoomB2 (.num 24))) (.cons (.wr .u8 (.c2 .rd xRmRoomB2 (.num 25))) (.cons (.wr .u8 (.c2 .rd xRmRoomB2 (.num 26))) (.cons (.wr .u8 (.c2 .rd xRmRoomB2 (.num 27))) (.cons (.wr .u8 (.c2 .rd xRmRoomB2 (.num 28))) (.cons (.wr .u8 (.c2 .rd xRmRoomB2 (.num 29))) (.cons (.wr .u32 (.c2 .rd xRmRoomB2 (.num 30))) (.cons (.wr .u8 (.c2 .rd xRmRoomB2 (.num 31))) (.cons (.wr .u8 (.c2 .rd xRmRoomB2 (.num 32))) (.cons (.wr .u8 (.c2 .rd xRmRoomB2 (.num 33))) (.cons (.wr .u8 (.c2 .rd xRmRoomB2 (.num 34))) (.cons (.wr .u8 (.c2 .rd xRmRoomB2 (.num 35))) (.cons (.wr .u8 (.c2 .rd xRmRoomB2 (.num 36))) (.cons (.wr .u8 (.c2 .rd xRmRoomB2 (.num 37))) (.cons (.wr .u8 (.c2 .rd xRmRoomB2 (.num 38))) (.cons (.wr .u8 (.c2 .rd xRmRoomB2 (.num 39))) (.cons (.wr .u8 (.c2 .rd xRmRoomB2 (.num 40))) (.cons (.wr .u8 (.c2 .rd xRmRoomB2 (.num 41))) (.cons (.wr .u8 (.c2 .rd xRmRoomB2 (.num 42))) (.cons (.wr .u8 (.c2 .rd xRmRoomB2 (.num 43))) (.cons (.wr .u8 (.c2 .rd xRmRoomB2 (.num 44))) (.cons (.wr .u8 (.c2 .rd xRmRoomB2 (.num 45))) (.cons (.wr .u8 (.c2 .rd xRmRoomB2 (.num 46))) (.cons (.wr .u8 (.c2 .rd xRmRoomB2 (.num 47))) (.cons (.wr .u8 (.c2 .rd xRmRoomB2 (.num 48))) (.cons (.wr .u8 (.c2 .rd xRmRoomB2 (.num 49))) (.cons (.wr .u8 (.c2 .rd xRmRoomB2 (.num 50))) (.cons (.wr .u8 (.c2 .rd xRmRoomB2 (.num 51))) (.cons (.wr .u8 (.c2 .rd xRmRoomB2 (.num 52))) (.cons (.wr .u8 (.c2 .rd xRmRoomB2 (.num 53))) (.cons (.wr .u8 (.c2 .rd xRmRoomB2 (.num 54))) (.cons (.wr .u8 (.c2 .rd xRmRoomB2 (.num 55))) (.cons (.wr .u8 (.c2 .rd xRmRoomB2 (.num 56))) (.cons (.wr .u8 (.c2 .rd xRmRoomB2 (.num 57))) (.cons (.wr .u8 (.c2 .rd xRmRoomB2 (.num 58))) (.cons (.wr .u8 (.c2 .rd xRmRoomB2 (.num 59))) (.cons (.wr .u8 (.c2 .rd xRmRoomB2 (.num 60))) (.cons (.wr .u8 (.c2 .rd xRmRoomB2 (.num 61))) (.cons (.wr .u8 (.c2 .rd xRmRoomB2 (.num 62))) (.cons (.wr .u8 (.c2 .rd xRmRoomB2 (.num 63))) (.cons (.wr .u8 (.c2 .rd xRmRoomB2 (.num 64))) (.cons (.wr .u16 (.c2 .rd xRmRoomB2 (.num 65))) (.cons (.wr .u16 (.c2 .rd xRmRoomB2 (.num 66))) (.cons (.wr .u32 (.c2 .rd xRmRoomB2 (.num 67))) (.cons (.wr .u32 (.c2 .rd xRmRoomB2 (.num 68))) (.cons (.wr .u8 (.c2 .rd xRmRoomB2 (.num 69))) (.cons (.wr .u16 (.c2 .rd xRmRoomB2 (.num 70))) (.cons (.wr .u16 (.c2 .rd xRmRoomB2 (.num 71))) (.cons (.wr .u16 (.c2 .rd xRmRoomB2 (.num 72))) .nil)))))))))))))))))))))))))))))))))))))))))))))))))))))))))))))))))))))))))
def xRmRoomB4 : T := (.fn 76 (.c2 .take (.c2 .sub (.var 14) (.var 13)) (.c2 .drop (.var 13) (.var 12))) (.c2 .rd (.var 6) (.c2 .add (.c2 .mul (.var 7) (.num 75)) (.num 1))) .nil)
def xRmRoomB5 : T := (.cons (.wr .u8 (.c2 .rd xRmRoomB4 (.num 0))) (.cons (.wr .u8 (.c2 .rd xRmRoomB4 (.num 1))) (.cons (.wr .u8 (.c2 .rd xRmRoomB4 (.num 2))) (.cons (.wr .u8 (.c2 .rd xRmRoomB4 (.num 3))) (.cons (.wr .u8 (.c2 .rd xRmRoomB4 (.num 4))) (.cons (.wr .u8 (.c2 .rd xRmRoomB4 (.num 5))) (.cons (.wr .u8 (.c2 .rd xRmRoomB4 (.num 6))) (.cons (.wr .u8 (.c2 .rd xRmRoomB4 (.num 7))) (.cons (.wr .u8 (.c2 .rd xRmRoomB4 (.num 8))) (.cons (.wr .u8 (.c2 .rd xRmRoomB4 (.num 9))) (.cons (.wr .u8 (.c2 .rd xRmRoomB4 (.num 10))) (.cons (.wr .u8 (.c2 .rd xRmRoomB4 (.num 11))) (.cons (.wr .u8 (.c2 .rd xRmRoomB4 (.num 12))) (.cons (.wr .u16 (.c2 .rd xRmRoomB4 (.num 13))) (.cons (.wr .u8 (.c2 .rd xRmRoomB4 (.num 14))) (.cons (.wr .u16 (.c2 .rd xRmRoomB4 (.num 15))) (.cons (.wr .u16 (.c2 .rd xRmRoomB4 (.num 16))) (.cons (.wr .u8 (.c2 .rd xRmRoomB4 (.num 17))) (.cons (.wr .u8 (.c2 .rd xRmRoomB4 (.num 18))) (.cons (.wr .u8 (.c2 .rd xRmRoomB4 (.num 19))) (.cons (.wr .u16 (.c2 .rd xRmRoomB4 (.num 20))) (.cons (.wr .u8 (.c2 .rd xRmRoomB4 (.num 21))) (.cons (.wr .u8 (.c2 .rd xRmRoomB4 (.num 22))) (.cons (.wr .u8 (.c2 .rd xRmRoomB4 (.num 23))) (.cons (.wr .u8 (.c2 .rd xRmRoomB4 (.num 24))) (.cons (.wr .u8 (.c2 .rd xRmRoomB4 (.num 25))) (.cons (.wr .u8 (.c2 .rd xRmRoomB4 (.num 26))) (.cons (.wr .u8 (.c2 .rd xRmRoomB4 (.num 27))) (.cons (.wr .u8 (.c2 .rd xRmRoomB4 (.num 28))) (.cons (.wr .u8 (.c2 .rd xRmRoomB4 (.num 29))) (.cons (.wr .u32 (.c2 .rd xRmRoomB4 (.num 30))) (.cons (.wr .u8 (.c2 .rd xRmRoomB4 (.num 31))) (.cons (.wr .u8 (.c2 .rd xRmRoomB4 (.num 32))) (.cons (.wr .u8 (.c2 .rd xRmRoomB4 (.num 33))) (.cons (.wr .u8 (.c2 .rd xRmRoomB4 (.num 34))) (.cons (.wr .u8 (.c2 .rd xRmRoomB4 (.num 35))) (.cons (.wr .u8 (.c2 .rd xRmRoomB4 (.num 36))) (.cons (.wr .u8 (.c2 .rd xRmRoomB4 (.num 37))) (.cons (.wr .u8 (.c2 .rd xRmRoomB4 (.num 38))) (.cons (.wr .u8 (.c2 .rd xRmRoomB4 (.num 39))) (.cons (.wr .u8 (.c2 .rd xRmRoomB4 (.num 40))) (.cons (.wr .u8 (.c2 .rd xRmRoomB4 (.num 41))) (.cons (.wr .u8 (.c2 .rd xRmRoomB4 (.num 42))) (.cons (.wr .u8 (.c2 .rd xRmRoomB4 (.num 43))) (.cons (.wr .u8 (.c2 .rd xRmRoomB4 (.num 44))) (.cons (.wr .u8 (.c2 .rd xRmRoomB4 (.num 45))) (.cons (.wr .u8 (.c2 .rd xRmRoomB4 (.num 46))) (.cons (.wr .u8 (.c2 .rd xRmRoomB4 (.num 47))) (.cons (.wr .u8 (.c2 .rd xRmRoomB4 (.num 48))) (.cons (.wr .u8 (.c2 .rd xRmRoomB4 (.num 49))) (.cons (.wr .u8 (.c2 .rd xRmRoomB4 (.num 50))) (.cons (.wr .u8 (.c2 .rd xRmRoomB4 (.num 51))) (.cons (.wr .u8 (.c2 .rd xRmRoomB4 (.num 52))) (.cons (.wr .u8 (.c2 .rd xRmRoomB4 (.num 53))) (.cons (.wr .u8 (.c2 .rd xRmRoomB4 (.num 54))) (.cons (.wr .u8 (.c2 .rd xRmRoomB4 (.num 55))) (.cons (.wr .u8 (.c2 .rd xRmRoomB4 (.num 56))) (.cons (.wr .u8 (.c2 .rd xRmRoomB4 (.num 57))) (.cons (.wr .u8 (.c2 .rd xRmRoomB4 (.num 58))) (.cons (.wr .u8 (.c2 .rd xRmRoomB4 (.num 59))) (.cons (.wr .u8 (.c2 .rd xRmRoomB4 (.num 60))) (.cons (.wr .u8 (.c2 .rd xRmRoomB4 (.num 61))) (.cons (.wr .u8 (.c2 .rd xRmRoomB4 (.num 62))) (.cons (.wr .u8 (.c2 .rd xRmRoomB4 (.num 63))) (.cons (.wr .u8 (.c2 .rd xRmRoomB4 (.num 64))) (.cons (.wr .u16 (.c2 .rd xRmRoomB4 (.num 65))) (.cons (.wr .u16 (.c2 .rd xRmRoomB4 (.num 66))) (.cons (.wr .u32 (.c2 .rd xRmRoomB4 (.num 67))) (.cons (.wr .u32 (.c2 .rd xRmRoomB4 (.num 68))) (.cons (.wr .u8 (.c2 .rd xRmRoomB4 (.num 69))) (.cons (.wr .u16 (.c2 .rd xRmRoomB4 (.num 70))) (.cons (.wr .u16 (.c2 .rd xRmRoomB4 (.num 71))) (.cons (.wr .u16 (.c2 .rd xRmRoomB4 (.num 72))) .nil)))))))))))))))))))))))))))))))))))))))))))))))))))))))))))))))))))))))))
def xRmRoomB6 : T := (.c2 .take (.c2 .sub (.var 10) (.c2 .add (.var 9) (.fn 73 (.c2 .rd (.var 6) (.c2 .add (.c2 .mul (.var 7) (.num 75)) (.num 1))) .nil .nil))) (.c2 .drop (.c2 .add (.var 9) (.fn 73 (.c2 .rd (.var 6) (.c2 .add (.c2 .mul (.var 7) (.num 75)) (.num 1))) .nil .nil)) (.var 8)))
def xRmRoomB7 : T := (.c2 .eq (.c2 .sub (.var 10) (.c2 .add (.var 9) (.fn 73 (.c2 .rd (.var 6) (.c2 .add (.c2 .mul (.var 7) (.num 75)) (.num 1))) .nil .nil))) (.c1 .len xRmRoomB6))
def xRmRoomB8 : T := (.c2 .take (.c2 .sub (.var 14) (.c2 .add (.var 13) (.fn 73 (.c2 .rd (.var 6) (.c2 .add (.c2 .mul (.var 7) (.num 75)) (.num 1))) .nil .nil))) (.c2 .drop (.c2 .add (.var 13) (.fn 73 (.c2 .rd (.var 6) (.c2 .add (.c2 .mul (.var 7) (.num 75)) (.num 1))) .nil .nil)) (.var 12)))
def xRmRoomB9 : T := (.cons (.num 0) (.cons (.num 0) (.cons (.num 0) (.cons (.num 0) (.cons (.num 0) (.cons (.num 0) (.cons (.num 0) (.cons (.num 0) (.cons (.num 0) (.cons (.num 0) (.cons (.num 0) (.cons (.num 0) (.cons (.num 0) (.cons (.num 0) (.cons (.num 0) (.cons (.num 0) (.cons (.num 0) (.cons (.num 0) (.cons (.num 0) (.cons (.num 0) (.cons (.num 0) (.cons (.num 0) (.cons (.num 0) (.cons (.num 0) (.cons (.num 0) (.cons (.num 0) (.cons (.num 0) (.cons (.num 0) (.cons (.num 0) (.cons (.num 0) (.cons (.num 0) (.cons (.num 0) (.cons (.num 0) (.cons (.num 0) (.cons (.num 0) (.cons (.num 0) (.cons (.num 0) (.cons (.num 0) (.cons (.num 0) (.cons (.num 0) (.cons (.num 0) (.cons (.num 0) (.cons (.num 0) (.cons (.num 0) (.cons (.num 0) (.cons (.num 0) (.cons (.num 0) (.cons (.num 0) (.cons (.num 0) (.cons (.num 0) (.cons (.num 0) (.cons (.num 0) (.cons (.num 0) (.cons (.num 0) (.cons (.num 0) (.cons (.num 0) (.cons (.num 0) (.cons (.num 0) (.cons (.num 0) (.cons (.num 0) (.cons (.num 0) (.cons (.num 0) (.cons (.num 0) (.cons (.num 0) (.cons (.num 0) (.cons (.num 0) (.cons (.num 0) (.cons (.num 0) (.cons (.num 0) (.cons (.num 0) (.cons (.num 0) (.cons (.num 0) (.cons (.num 0) .nil)))))))))))))))))))))))))))))))))))))))))))))))))))))))))))))))))))))))))
def xRmRoomB10 : T := (.c1 .not (.c2 .leq (.c2 .take (.c2 .sub (.var 10) (.var 9)) (.c2 .drop (.var 9) (.var 8))) (.c2 .take (.c2 .sub (.var 14) (.var 13)) (.c2 .drop (.var 13) (.var 12)))))
def xRmRoomB11 : T := (.cons (.c2 .rd (.var 6) (.c2 .add (.c2 .mul (.var 7) (.num 75)) (.num 2))) (.cons (.c2 .rd (.var 6) (.c2 .add (.c2 .mul (.var 7) (.num 75)) (.num 3))) (.cons (.c2 .rd (.var 6) (.c2 .add (.c2 .mul (.var 7) (.num 75)) (.num 4))) (.cons (.c2 .rd (.var 6) (.c2 .add (.c2 .mul (.var 7) (.num 75)) (.num 5))) (.cons (.c2 .rd (.var 6) (.c2 .add (.c2 .mul (.var 7) (.num 75)) (.num 6))) (.cons (.c2 .rd (.var 6) (.c2 .add (.c2 .mul (.var 7) (.num 75)) (.num 7))) (.cons (.c2 .rd (.var 6) (.c2 .add (.c2 .mul (.var 7) (.num 75)) (.num 8))) (.cons (.c2 .rd (.var 6) (.c2 .add (.c2 .mul (.var 7) (.num 75)) (.num 9))) (.cons (.c2 .rd (.var 6) (.c2 .add (.c2 .mul (.var 7) (.num 75)) (.num 10))) (.cons (.c2 .rd (.var 6) (.c2 .add (.c2 .mul (.var 7) (.num 75)) (.num 11))) (.cons (.c2 .rd (.var 6) (.c2 .add (.c2 .mul (.var 7) (.num 75)) (.num 12))) (.cons (.c2 .rd (.var 6) (.c2 .add (.c2 .mul (.var 7) (.num 75)) (.num 13))) (.cons (.c2 .rd (.var 6) (.c2 .add (.c2 .mul (.var 7) (.num 75)) (.num 14))) (.cons (.c2 .rd (.var 6) (.c2 .add (.c2 .mul (.var 7) (.num 75)) (.num 15))) (.cons (.c2 .rd (.var 6) (.c2 .add (.c2 .mul (.var 7) (.num 75)) (.num 16))) (.cons (.c2 .rd (.var 6) (.c2 .add (.c2 .mul (.var 7) (.num 75)) (.num 17))) (.cons (.c2 .rd (.var 6) (.c2 .add (.c2 .mul (.var 7) (.num 75)) (.num 18))) (.cons (.c2 .rd (.var 6) (.c2 .add (.c2 .mul (.var 7) (.num 75)) (.num 19))) (.cons (.c2 .rd (.var 6) (.c2 .add (.c2 .mul (.var 7) (.num 75)) (.num 20))) (.cons (.c2 .rd (.var 6) (.c2 .add (.c2 .mul (.var 7) (.num 75)) (.num 21))) (.cons (.c2 .rd (.var 6) (.c2 .add (.c2 .mul (.var 7) (.num 75)) (.num 22))) (.cons (.c2 .rd (.var 6) (.c2 .add (.c2 .mul (.var 7) (.num 75)) (.num 23))) (.cons (.c2 .rd (.var 6) (.c2 .add (.c2 .mul (.var 7) (.num 75)) (.num 24))) (.cons (.c2 .rd (.var 6) (.c2 .add (.c2 .mul (.var 7) (.num 75)) (.num 25))) (.cons (.c2 .rd (.var 6) (.c2 .add (.c2 .mul (.var 7) (.num 75)) (.num 26))) (.cons (.c2 .rd (.var 6) (.c2 .add (.c2 .mul (.var 7) (.num 75)) (.num 27))) (.cons (.c2 .rd (.var 6) (.c2 .add (.c2 .mul (.var 7) (.num 75)) (.num 28))) (.cons (.c2 .rd (.var 6) (.c2 .add (.c2 .mul (.var 7) (.num 75)) (.num 29))) (.cons (.c2 .rd (.var 6) (.c2 .add (.c2 .mul (.var 7) (.num 75)) (.num 30))) (.cons (.c2 .rd (.var 6) (.c2 .add (.c2 .mul (.var 7) (.num 75)) (.num 31))) (.cons (.c2 .rd (.var 6) (.c2 .add (.c2 .mul (.var 7) (.num 75)) (.num 32))) (.cons (.c2 .rd (.var 6) (.c2 .add (.c2 .mul (.var 7) (.num 75)) (.num 33))) (.cons (.c2 .rd (.var 6) (.c2 .add (.c2 .mul (.var 7) (.num 75)) (.num 34))) (.cons (.c2 .rd (.var 6) (.c2 .add (.c2 .mul (.var 7) (.num 75)) (.num 35))) (.cons (.c2 .rd (.var 6) (.c2 .add (.c2 .mul (.var 7) (.num 75)) (.num 36))) (.cons (.c2 .rd (.var 6) (.c2 .add (.c2 .mul (.var 7) (.num 75)) (.num 37))) (.cons (.c2 .rd (.var 6) (.c2 .add (.c2 .mul (.var 7) (.num 75)) (.num 38))) (.cons (.c2 .rd (.var 6) (.c2 .add (.c2 .mul (.var 7) (.num 75)) (.num 39))) (.cons (.c2 .rd (.var 6) (.c2 .add (.c2 .mul (.var 7) (.num 75)) (.num 40))) (.cons (.c2 .rd (.var 6) (.c2 .add (.c2 .mul (.var 7) (.num 75)) (.num 41))) (.cons (.c2 .rd (.var 6) (.c2 .add (.c2 .mul (.var 7) (.num 75)) (.num 42))) (.cons (.c2 .rd (.var 6) (.c2 .add (.c2 .mul (.var 7) (.num 75)) (.num 43))) (.cons (.c2 .rd (.var 6) (.c2 .add (.c2 .mul (.var 7) (.num 75)) (.num 44))) (.cons (.c2 .rd (.var 6) (.c2 .add (.c2 .mul (.var 7) (.num 75)) (.num 45))) (.cons (.c2 .rd (.var 6) (.c2 .add (.c2 .mul (.var 7) (.num 75)) (.num 46))) (.cons (.c2 .rd (.var 6) (.c2 .add (.c2 .mul (.var 7) (.num 75)) (.num 47))) (.cons (.c2 .rd (.var 6) (.c2 .add (.c2 .mul (.var 7) (.num 75)) (.num 48))) (.cons (.c2 .rd (.var 6) (.c2 .add (.c2 .mul (.var 7) (.num 75)) (.num 49))) (.cons (.c2 .rd (.var 6) (.c2 .add (.c2 .mul (.var 7) (.num 75)) (.num 50))) (.cons (.c2 .rd (.var 6) (.c2 .add (.c2 .mul (.var 7) (.num 75)) (.num 51))) (.cons (.c2 .rd (.var 6) (.c2 .add (.c2 .mul (.var 7) (.num 75)) (.num 52))) (.cons (.c2 .rd (.var 6) (.c2 .add (.c2 .mul (.var 7) (.num 75)) (.num 53))) (.cons (.c2 .rd (.var 6) (.c2 .add (.c2 .mul (.var 7) (.num 75)) (.num 54))) (.cons (.c2 .rd (.var 6) (.c2 .add (.c2 .mul (.var 7) (.num 75)) (.num 55))) (.cons (.c2 .rd (.var 6) (.c2 .add (.c2 .mul (.var 7) (.num 75)) (.num 56))) (.cons (.c2 .rd (.var 6) (.c2 .add (.c2 .mul (.var 7) (.num 75)) (.num 57))) (.cons (.c2 .rd (.var 6) (.c2 .add (.c2 .mul (.var 7) (.num 75)) (.num 58))) (.cons (.c2 .rd (.var 6) (.c2 .add (.c2 .mul (.var 7) (.num 75)) (.num 59))) (.cons (.c2 .rd (.var 6) (.c2 .add (.c2 .mul (.var 7) (.num 75)) (.num 60))) (.cons (.c2 .rd (.var 6) (.c2 .add (.c2 .mul (.var 7) (.num 75)) (.num 61))) (.cons (.c2 .rd (.var 6) (.c2 .add (.c2 .mul (.var 7) (.num 75)) (.num 62))) (.cons (.c2 .rd (.var 6) (.c2 .add (.c2 .mul (.var 7) (.num 75)) (.num 63))) (.cons (.c2 .rd (.var 6) (.c2 .add (.c2 .mul (.var 7) (.num 75)) (.num 64))) (.cons (.c2 .rd (.var 6) (.c2 .add (.c2 .mul (.var 7) (.num 75)) (.num 65))) (.cons (.c2 .rd (.var 6) (.c2 .add (.c2 .mul (.var 7) (.num 75)) (.num 66))) (.cons (.c2 .rd (.var 6) (.c2 .add (.c2 .mul (.var 7) (.num 75)) (.num 67))) (.cons (.c2 .rd (.var 6) (.c2 .add (.c2 .mul (.var 7) (.num 75)) (.num 68))) (.cons (.c2 .rd (.var 6) (.c2 .add (.c2 .mul (.var 7) (.num 75)) (.num 69))) (.cons (.c2 .rd (.var 6) (.c2 .add (.c2 .mul (.var 7) (.num 75)) (.num 70))) (.cons (.c2 .rd (.var 6) (.c2 .add (.c2 .mul (.var 7) (.num 75)) (.num 71))) (.cons (.c2 .rd (.var 6) (.c2 .add (.c2 .mul (.var 7) (.num 75)) (.num 72))) (.cons (.c2 .rd (.var 6) (.c2 .add (.c2 .mul (.var 7) (.num 75)) (.num 73))) (.cons (.c2 .rd (.var 6) (.c2 .add (.c2 .mul (.var 7) (.num 75)) (.num 74))) .nil)))))))))))))))))))))))))))))))))))))))))))))))))))))))))))))))))))))))))
def xRmRoomB12 : T := (.c2 .add (.fn 84 (.var 9) (.fn 73 (.c2 .rd (.var 6) (.c2 .add (.c2 .mul (.var 7) (.num 75)) (.num 2))) .nil .nil) .nil) (.c2 .add (.fn 73 (.c2 .rd (.var 6) (.c2 .add (.c2 .mul (.var 7) (.num 75)) (.num 2))) .nil .nil) (.c2 .sub (.var 10) (.var 9))))
def xRmRoomB13 : T := (.c2 .le (.c2 .add (.fn 73 (.c2 .rd (.var 6) (.c2 .add (.c2 .mul (.var 7) (.num 75)) (.num 2))) .nil .nil) (.c2 .sub (.var 14) (.var 13))) (.num 2048))
def xRmRoomB14 : T := (.c2 .add (.fn 84 (.var 13) (.fn 73 (.c2 .rd (.var 6) (.c2 .add (.c2 .mul (.var 7) (.num 75)) (.num 2))) .nil .nil) .nil) (.c2 .add (.fn 73 (.c2 .rd (.var 6) (.c2 .add (.c2 .mul (.var 7) (.num 75)) (.num 2))) .nil .nil) (.c2 .sub (.var 14) (.var 13))))
def xRmRoomB15 : T := (.c2 .take (.c2 .sub xRmRoomB12 (.fn 84 (.var 9) (.fn 73 (.c2 .rd (.var 6) (.c2 .add (.c2 .mul (.var 7) (.num 75)) (.num 2))) .nil .nil) .nil)) (.c2 .drop (.fn 84 (.var 9) (.fn 73 (.c2 .rd (.var 6) (.c2 .add (.c2 .mul (.var 7) (.num 75)) (.num 2))) .nil .nil) .nil) (.fn 82 (.var 8) (.cons (.var 9) (.cons (.var 10) .nil)) xRmRoomB11)))
def xRmRoomB16 : T := (.c2 .eq (.c2 .sub xRmRoomB12 (.fn 84 (.var 9) (.fn 73 (.c2 .rd (.var 6) (.c2 .add (.c2 .mul (.var 7) (.num 75)) (.num 2))) .nil .nil) .nil)) (.c1 .len xRmRoomB15))
def xRmRoomB17 : T := (.c2 .take (.c2 .sub xRmRoomB14 (.fn 84 (.var 13) (.fn 73 (.c2 .rd (.var 6) (.c2 .add (.c2 .mul (.var 7) (.num 75)) (.num 2))) .nil .nil) .nil)) (.c2 .drop (.fn 84 (.var 13) (.fn 73 (.c2 .rd (.var 6) (.c2 .add (.c2 .mul (.var 7) (.num 75)) (.num 2))) .nil .nil) .nil) (.fn 82 (.var 12) (.cons (.var 13) (.cons (.var 14) .nil)) xRmRoomB11)))
def treeRmRoomB : M (V × St) :=
(.chk (.c2 .le (.num 0) (.fn 66 (.var 1) (.num 257) .nil))
(.chk (.c2 .lt (.fn 66 (.var 1) (.num 257) .nil) (.num 257))
(.chk (.c2 .le (.num 0) (.fn 66 (.var 2) (.num 257) .nil))
(.chk (.c2 .lt (.fn 66 (.var 2) (.num 257) .nil) (.num 257))
(.chk (.c1 (.kin [.u8]) (.fn 83 (.c2 .take (.num 2048) (.var 0)) (.fn 66 (.var 1) (.num 257) .nil) (.fn 66 (.var 2) (.num 257) .nil)))
(.chk (.c2 .eq (.c1 .len (.fn 83 (.c2 .take (.num 2048) (.var 0)) (.fn 66 (.var 1) (.num 257) .nil) (.fn 66 (.var 2) (.num 257) .nil))) (.c2 .add (.c2 .add (.fn 66 (.var 1) (.num 257) .nil) (.num 2048)) (.fn 66 (.var 2) (.num 257) .nil)))
(.chk (.c2 .le (.num 0) (.fn 66 (.var 3) (.num 257) .nil))
(.chk (.c2 .lt (.fn 66 (.var 3) (.num 257) .nil) (.num 257))
(.chk (.c2 .le (.num 0) (.fn 66 (.var 4) (.num 257) .nil))
(.chk (.c2 .lt (.fn 66 (.var 4) (.num 257) .nil) (.num 257))
(.chk (.c1 (.kin [.u8]) (.fn 83 (.c2 .take (.num 2048) (.var 0)) (.fn 66 (.var 3) (.num 257) .nil) (.fn 66 (.var 4) (.num 257) .nil)))
(.chk (.c2 .eq (.c1 .len (.fn 83 (.c2 .take (.num 2048) (.var 0)) (.fn 66 (.var 3) (.num 257) .nil) (.fn 66 (.var 4) (.num 257) .nil))) (.c2 .add (.c2 .add (.fn 66 (.var 3) (.num 257) .nil) (.num 2048)) (.fn 66 (.var 4) (.num 257) .nil)))
(.loop 0 7 9 [(.num 0), (.fn 83 (.c2 .take (.num 2048) (.var 0)) (.fn 66 (.var 1) (.num 257) .nil) (.fn 66 (.var 2) (.num 257) .nil)), (.fn 66 (.var 1) (.num 257) .nil), (.c2 .add (.fn 66 (.var 1) (.num 257) .nil) (.c1 .len (.c2 .take (.num 2048) (.var 0)))), (.num 0), (.fn 83 (.c2 .take (.num 2048) (.var 0)) (.fn 66 (.var 3) (.num 257) .nil) (.fn 66 (.var 4) (.num 257) .nil)), (.fn 66 (.var 3) (.num 257) .nil), (.c2 .add (.fn 66 (.var 3) (.num 257) .nil) (.c1 .len (.c2 .take (.num 2048) (.var 0)))), (.num 0)] [((.c2 .le (.num 0) (.var 7)), true), ((.c2 .le (.num 0) (.var 9)), true), ((.c2 .le (.var 9) (.var 10)), true), ((.c2 .le (.var 10) (.c1 .len (.var 8))), true), ((.c2 .le (.c2 .sub (.var 10) (.var 9)) (.num 2048)), true), ((.c2 .le (.c1 .len (.var 8)) (.num 2560)), true), ((.c2 .le (.var 9) (.num 2560)), true), ((.c2 .le (.num 0) (.var 10)), true), ((.c2 .le (.var 10) (.num 2560)), true), ((.c2 .le (.num 0) (.var 11)), true), ((.c2 .le (.var 11) (.num 1000)), true), ((.c1 (.kin [.u8]) (.var 8)), true), ((.c2 .le (.num 0) (.var 13)), true), ((.c2 .le (.var 13) (.var 14)), true), ((.c2 .le (.var 14) (.c1 .len (.var 12))), true), ((.c2 .le (.c2 .sub (.var 14) (.var 13)) (.num 2048)), true), ((.c2 .le (.c1 .len (.var 12)) (.num 2560)), true), ((.c2 .le (.var 13) (.num 2560)), true), ((.c2 .le (.num 0) (.var 14)), true), ((.c2 .le (.var 14) (.num 2560)), true), ((.c2 .le (.num 0) (.var 15)), true), ((.c2 .le (.var 15) (.num 1000)), true), ((.c1 (.kin [.u8]) (.var 12)), true)]
 (.split (.c2 .lt (.var 7) (.var 5))
  (.split (.c2 .lt (.var 7) (.num 20))
   (.chk (.c2 .le (.c2 .add (.c2 .mul (.var 7) (.num 75)) (.num 1)) (.c1 .len (.var 6)))
   (.split (.c1 .not (.c2 .eq (.c2 .rd (.var 6) (.c2 .mul (.var 7) (.num 75))) (.num 0)))
    (.chk (.c2 .le (.c2 .add (.c2 .mul (.var 7) (.num 75)) (.num 2)) (.c1 .len (.var 6)))
    (.split (.c2 .eq xRmRoomB0 (.num 0))
     (.chk (.c2 .le (.num 4) (.fn 73 (.c2 .rd (.var 6) (.c2 .add (.c2 .mul (.var 7) (.num 75)) (.num 1))) .nil .nil))
     (.chk (.c2 .le (.fn 73 (.c2 .rd (.var 6) (.c2 .add (.c2 .mul (.var 7) (.num 75)) (.num 1))) .nil .nil) (.c2 .sub (.var 10) (.var 9)))
     (.split (.c2 .eq xRmRoomB1 (.num 0))
      (.chk (.c2 .le (.fn 73 (.c2 .rd (.var 6) (.c2 .add (.c2 .mul (.var 7) (.num 75)) (.num 1))) .nil .nil) (.c2 .sub (.var 14) (.var 13)))
      (.split (.c1 .not (.c2 .leq xRmRoomB3 xRmRoomB5))
       (.ret (.w (.c (.b (.bol false))), ⟨[], [], 5651, 16, []⟩))
       (.chk xRmRoomB7
       (.chk (.c2 .eq (.c2 .sub (.var 14) (.c2 .add (.var 13) (.fn 73 (.c2 .rd (.var 6) (.c2 .add (.c2 .mul (.var 7) (.num 75)) (.num 1))) .nil .nil))) (.c1 .len xRmRoomB8))
       (.split (.c1 .not (.c2 .leq xRmRoomB6 xRmRoomB8))
        (.ret (.w (.c (.b (.bol false))), ⟨[], [], 5657, 16, []⟩))
        (.split (.c1 .not (.c2 .eq (.c2 .add (.var 11) (.num 1)) (.c2 .add (.var 15) (.num 1))))
         (.ret (.w (.c (.b (.bol false))), ⟨[], [], 5657, 16, []⟩))
         (.back 0 7 [(.c2 .add (.var 7) (.num 1)), (.var 8), (.c2 .add (.var 9) (.fn 73 (.c2 .rd (.var 6) (.c2 .add (.c2 .mul (.var 7) (.num 75)) (.num 1))) .nil .nil)), (.var 10), (.c2 .add (.var 11) (.num 1)), (.var 12), (.c2 .add (.var 13) (.fn 73 (.c2 .rd (.var 6) (.c2 .add (.c2 .mul (.var 7) (.num 75)) (.num 1))) .nil .nil)), (.var 14), (.c2 .add (.var 15) (.num 1))])))))))
      (.split (.c1 .not (.c2 .leq xRmRoomB3 xRmRoomB9))
       (.ret (.w (.c (.b (.bol false))), ⟨[], [], 5651, 16, []⟩))
       (.split (.c1 .not (.c2 .eq (.num 0) xRmRoomB1))
        (.ret (.w (.c (.b (.bol false))), ⟨[], [], 5651, 16, []⟩))
        (.chk xRmRoomB7
        (.chk (.c2 .eq (.c2 .sub (.var 14) (.var 13)) (.c1 .len (.c2 .take (.c2 .sub (.var 14) (.var 13)) (.c2 .drop (.var 13) (.var 12)))))
        (.split (.c1 .not (.c2 .leq xRmRoomB6 (.c2 .take (.c2 .sub (.var 14) (.var 13)) (.c2 .drop (.var 13) (.var 12)))))
         (.ret (.w (.c (.b (.bol false))), ⟨[], [], 5657, 16, []⟩))
         (.split (.c1 .not (.c2 .eq (.c2 .add (.var 11) (.num 1)) (.var 15)))
          (.ret (.w (.c (.b (.bol false))), ⟨[], [], 5657, 16, []⟩))
          (.back 0 7 [(.c2 .add (.var 7) (.num 1)), (.var 8), (.c2 .add (.var 9) (.fn 73 (.c2 .rd (.var 6) (.c2 .add (.c2 .mul (.var 7) (.num 75)) (.num 1))) .nil .nil)), (.var 10), (.c2 .add (.var 11) (.num 1)), (.var 12), (.var 13), (.var 14), (.var 15)]))))))))))
     (.split (.c2 .eq xRmRoomB1 (.num 0))
      (.chk (.c2 .le (.num 4) (.fn 73 (.c2 .rd (.var 6) (.c2 .add (.c2 .mul (.var 7) (.num 75)) (.num 1))) .nil .nil))
      (.chk (.c2 .le (.fn 73 (.c2 .rd (.var 6) (.c2 .add (.c2 .mul (.var 7) (.num 75)) (.num 1))) .nil .nil) (.c2 .sub (.var 14) (.var 13)))
      (.split (.c1 .not (.c2 .leq xRmRoomB9 xRmRoomB5))
       (.ret (.w (.c (.b (.bol false))), ⟨[], [], 5651, 16, []⟩))
       (.ret (.w (.c (.b (.bol false))), ⟨[], [], 5651, 16, []⟩)))))
      (.split (.c1 .not (.c2 .eq xRmRoomB0 xRmRoomB1))
       (.ret (.w (.c (.b (.bol false))), ⟨[], [], 5651, 16, []⟩))
       (.chk (.c2 .eq (.c2 .sub (.var 10) (.var 9)) (.c1 .len (.c2 .take (.c2 .sub (.var 10) (.var 9)) (.c2 .drop (.var 9) (.var 8)))))
       (.chk (.c2 .eq (.c2 .sub (.var 14) (.var 13)) (.c1 .len (.c2 .take (.c2 .sub (.var 14) (.var 13)) (.c2 .drop (.var 13) (.var 12)))))
       (.split xRmRoomB10
        (.ret (.w (.c (.b (.bol false))), ⟨[], [], 5657, 16, []⟩))
        (.split (.c1 .not (.c2 .eq (.var 11) (.var 15)))
         (.ret (.w (.c (.b (.bol false))), ⟨[], [], 5657, 16, []⟩))
         (.back 0 7 [(.c2 .add (.var 7) (.num 1)), (.var 8), (.var 9), (.var 10), (.var 11), (.var 12), (.var 13), (.var 14), (.var 15)])))))))))
    (.chk (.c2 .le (.c2 .add (.c2 .mul (.var 7) (.num 75)) (.num 75)) (.c1 .len (.var 6)))
    (.split (.c2 .eq (.fn 70 xRmRoomB11 (.c2 .take (.c2 .sub (.var 10) (.var 9)) (.c2 .drop (.var 9) (.var 8))) .nil) (.num 0))
     (.chk (.c1 (.kin [.u8]) (.fn 82 (.var 8) (.cons (.var 9) (.cons (.var 10) .nil)) xRmRoomB11))
     (.chk (.c2 .le (.c1 .len (.fn 82 (.var 8) (.cons (.var 9) (.cons (.var 10) .nil)) xRmRoomB11)) (.num 2560))
     (.chk (.c2 .le (.num 4) (.fn 73 (.c2 .rd (.var 6) (.c2 .add (.c2 .mul (.var 7) (.num 75)) (.num 2))) .nil .nil))
     (.chk (.c2 .le (.fn 73 (.c2 .rd (.var 6) (.c2 .add (.c2 .mul (.var 7) (.num 75)) (.num 2))) .nil .nil) (.num 40))
     (.chk (.c2 .le (.c2 .add (.fn 73 (.c2 .rd (.var 6) (.c2 .add (.c2 .mul (.var 7) (.num 75)) (.num 2))) .nil .nil) (.c2 .sub (.var 10) (.var 9))) (.num 2048))
     (.chk (.c2 .le (.num 0) (.fn 84 (.var 9) (.fn 73 (.c2 .rd (.var 6) (.c2 .add (.c2 .mul (.var 7) (.num 75)) (.num 2))) .nil .nil) .nil))
     (.chk (.c2 .le (.fn 84 (.var 9) (.fn 73 (.c2 .rd (.var 6) (.c2 .add (.c2 .mul (.var 7) (.num 75)) (.num 2))) .nil .nil) .nil) (.num 2560))
     (.chk (.c2 .le xRmRoomB12 (.c1 .len (.fn 82 (.var 8) (.cons (.var 9) (.cons (.var 10) .nil)) xRmRoomB11)))
     (.split (.c2 .eq (.fn 70 xRmRoomB11 (.c2 .take (.c2 .sub (.var 14) (.var 13)) (.c2 .drop (.var 13) (.var 12))) .nil) (.num 0))
      (.chk (.c1 (.kin [.u8]) (.fn 82 (.var 12) (.cons (.var 13) (.cons (.var 14) .nil)) xRmRoomB11))
      (.chk (.c2 .le (.c1 .len (.fn 82 (.var 12) (.cons (.var 13) (.cons (.var 14) .nil)) xRmRoomB11)) (.num 2560))
      (.chk xRmRoomB13
      (.chk (.c2 .le (.num 0) (.fn 84 (.var 13) (.fn 73 (.c2 .rd (.var 6) (.c2 .add (.c2 .mul (.var 7) (.num 75)) (.num 2))) .nil .nil) .nil))
      (.chk (.c2 .le (.fn 84 (.var 13) (.fn 73 (.c2 .rd (.var 6) (.c2 .add (.c2 .mul (.var 7) (.num 75)) (.num 2))) .nil .nil) .nil) (.num 2560))
      (.chk (.c2 .le xRmRoomB14 (.c1 .len (.fn 82 (.var 12) (.cons (.var 13) (.cons (.var 14) .nil)) xRmRoomB11)))
      (.chk xRmRoomB16
      (.chk (.c2 .eq (.c2 .sub xRmRoomB14 (.fn 84 (.var 13) (.fn 73 (.c2 .rd (.var 6) (.c2 .add (.c2 .mul (.var 7) (.num 75)) (.num 2))) .nil .nil) .nil)) (.c1 .len xRmRoomB17))
      (.split (.c1 .not (.c2 .leq xRmRoomB15 xRmRoomB17))
       (.ret (.w (.c (.b (.bol false))), ⟨[], [], 5655, 16, []⟩))
       (.split (.c1 .not (.c2 .eq (.c2 .add (.var 11) (.num 1)) (.c2 .add (.var 15) (.num 1))))
        (.ret (.w (.c (.b (.bol false))), ⟨[], [], 5655, 16, []⟩))
        (.back 0 7 [(.c2 .add (.var 7) (.num 1)), (.fn 82 (.var 8) (.cons (.var 9) (.cons (.var 10) .nil)) xRmRoomB11), (.fn 84 (.var 9) (.fn 73 (.c2 .rd (.var 6) (.c2 .add (.c2 .mul (.var 7) (.num 75)) (.num 2))) .nil .nil) .nil), xRmRoomB12, (.c2 .add (.var 11) (.num 1)), (.fn 82 (.var 12) (.cons (.var 13) (.cons (.var 14) .nil)) xRmRoomB11), (.fn 84 (.var 13) (.fn 73 (.c2 .rd (.var 6) (.c2 .add (.c2 .mul (.var 7) (.num 75)) (.num 2))) .nil .nil) .nil), xRmRoomB14, (.c2 .add (.var 15) (.num 1))])))))))))))
      (.split (.c1 .not (.c2 .eq (.num 0) (.fn 70 xRmRoomB11 (.c2 .take (.c2 .sub (.var 14) (.var 13)) (.c2 .drop (.var 13) (.var 12))) .nil)))
       (.ret (.w (.c (.b (.bol false))), ⟨[], [], 5649, 16, []⟩))
       (.chk xRmRoomB16
       (.chk (.c2 .eq (.c2 .sub (.var 14) (.var 13)) (.c1 .len (.c2 .take (.c2 .sub (.var 14) (.var 13)) (.c2 .drop (.var 13) (.var 12)))))
       (.split (.c1 .not (.c2 .leq xRmRoomB15 (.c2 .take (.c2 .sub (.var 14) (.var 13)) (.c2 .drop (.var 13) (.var 12)))))
        (.ret (.w (.c (.b (.bol false))), ⟨[], [], 5655, 16, []⟩))
        (.split (.c1 .not (.c2 .eq (.c2 .add (.var 11) (.num 1)) (.var 15)))
         (.ret (.w (.c (.b (.bol false))), ⟨[], [], 5655, 16, []⟩))
         (.back 0 7 [(.c2 .add (.var 7) (.num 1)), (.fn 82 (.var 8) (.cons (.var 9) (.cons (.var 10) .nil)) xRmRoomB11), (.fn 84 (.var 9) (.fn 73 (.c2 .rd (.var 6) (.c2 .add (.c2 .mul (.var 7) (.num 75)) (.num 2))) .nil .nil) .nil), xRmRoomB12, (.c2 .add (.var 11) (.num 1)), (.var 12), (.var 13), (.var 14), (.var 15)])))))))))))))))
     (.split (.c2 .eq (.fn 70 xRmRoomB11 (.c2 .take (.c2 .sub (.var 14) (.var 13)) (.c2 .drop (.var 13) (.var 12))) .nil) (.num 0))
      (.chk (.c1 (.kin [.u8]) (.fn 82 (.var 12) (.cons (.var 13) (.cons (.var 14) .nil)) xRmRoomB11))
      (.chk (.c2 .le (.c1 .len (.fn 82 (.var 12) (.cons (.var 13) (.cons (.var 14) .nil)) xRmRoomB11)) (.num 2560))
      (.chk (.c2 .le (.num 4) (.fn 73 (.c2 .rd (.var 6) (.c2 .add (.c2 .mul (.var 7) (.num 75)) (.num 2))) .nil .nil))
      (.chk (.c2 .le (.fn 73 (.c2 .rd (.var 6) (.c2 .add (.c2 .mul (.var 7) (.num 75)) (.num 2))) .nil .nil) (.num 40))
      (.chk xRmRoomB13
      (.chk (.c2 .le (.num 0) (.fn 84 (.var 13) (.fn 73 (.c2 .rd (.var 6) (.c2 .add (.c2 .mul (.var 7) (.num 75)) (.num 2))) .nil .nil) .nil))
      (.chk (.c2 .le (.fn 84 (.var 13) (.fn 73 (.c2 .rd (.var 6) (.c2 .add (.c2 .mul (.var 7) (.num 75)) (.num 2))) .nil .nil) .nil) (.num 2560))
      (.chk (.c2 .le xRmRoomB14 (.c1 .len (.fn 82 (.var 12) (.cons (.var 13) (.cons (.var 14) .nil)) xRmRoomB11)))
      (.ret (.w (.c (.b (.bol false))), ⟨[], [], 5649, 16, []⟩))))))))))
      (.split (.c1 .not (.c2 .eq (.fn 70 xRmRoomB11 (.c2 .take (.c2 .sub (.var 10) (.var 9)) (.c2 .drop (.var 9) (.var 8))) .nil) (.fn 70 xRmRoomB11 (.c2 .take (.c2 .sub (.var 14) (.var 13)) (.c2 .drop (.var 13) (.var 12))) .nil)))
       (.ret (.w (.c (.b (.bol false))), ⟨[], [], 5649, 16, []⟩))
       (.chk (.c2 .eq (.c2 .sub (.var 10) (.var 9)) (.c1 .len (.c2 .take (.c2 .sub (.var 10) (.var 9)) (.c2 .drop (.var 9) (.var 8)))))
       (.chk (.c2 .eq (.c2 .sub (.var 14) (.var 13)) (.c1 .len (.c2 .take (.c2 .sub (.var 14) (.var 13)) (.c2 .drop (.var 13) (.var 12)))))
       (.split xRmRoomB10
        (.ret (.w (.c (.b (.bol false))), ⟨[], [], 5655, 16, []⟩))
        (.split (.c1 .not (.c2 .eq (.var 11) (.var 15)))
         (.ret (.w (.c (.b (.bol false))), ⟨[], [], 5655, 16, []⟩))
         (.back 0 7 [(.c2 .add (.var 7) (.num 1)), (.var 8), (.var 9), (.var 10), (.var 11), (.var 12), (.var 13), (.var 14), (.var 15)])))))))))))
   (.ret (.w (.c (.b (.bol true))), ⟨[], [], 5053, 16, []⟩)))
  (.ret (.w (.c (.b (.bol true))), ⟨[], [], 5053, 16, []⟩))))))))))))))))
theorem treeRmRoomB_is : funTree (ctxN Go.Proofs.Try.prog annsRm consRm 8) annsRm 3 tRoomB.vs tRoomB.bs tRoomB.n (preF tRoomB.res) = treeRmRoomB := by kernel_rfl
end Go.Proofs.Ytfhjlimdakphcaa.Sx
/- Sx laws of wrapping: what is done to packets does not hang on their room: the trees' leaves are true. Conditions: none. -/
set_option linter.unusedVariables false
set_option linter.unusedSimpArgs false
set_option maxRecDepth 100000
namespace Go.Proofs.Ytfhjlimdakphcaa.Sx
open Go
theorem consRm_ok : ConsOk Go.Proofs.Try.prog ΦP consRm := moreCons (con_ok wlAwake_ok) (moreCons (con_ok wlEq_ok) (moreCons (con_ok clone_ok) (moreCons (con_ok bring_ok) (moreCons (con_ok new_ok) (moreCons (con_ok on_ok) (moreCons (con_ok off_ok) noCons))))))
theorem chk_val {ρ : Env} {t : T} {x : O Res} {res : Res} (h : (T.den ΦP ρ t).bool = true) (hx : x.val (T.den ΦP ρ) = some res) : (O.chk t x).val (T.den ΦP ρ) = some res := by simp only [O.val]; rw [if_pos h]; exact hx
/-- The row of a row's cells, wrapped. -/
def rowT (X : T) : Nat → List IntKind → T
  | _, [] => .nil
  | i, k :: ks => .cons (.wr k (.c2 .rd X (.num (.ofNat i)))) (rowT X (i + 1) ks)
theorem rowT_same {ρ : Env} {X Y : T} (h : (T.den ΦP ρ X).list = (T.den ΦP ρ Y).list) : ∀ (ks : List IntKind) (i : Nat), (T.den ΦP ρ (rowT X i ks)).list = (T.den ΦP ρ (rowT Y i ks)).list
  | [], i => rfl
  | k :: ks, i => by
    show k.wrap ((T.den ΦP ρ X).list[(i : Int).toNat]?.getD 0) :: (T.den ΦP ρ (rowT X (i + 1) ks)).list = k.wrap ((T.den ΦP ρ Y).list[(i : Int).toNat]?.getD 0) :: _
    rw [h, rowT_same h ks (i + 1)]
theorem pkFs_ok {ρ : Env} {v : Nat} (h : PkL (ρ v).list (ρ (v + 1)).int (ρ (v + 2)).int) (m0 : 0 ≤ (ρ (v + 3)).int) (m1 : (ρ (v + 3)).int ≤ 1000) : (pkFs v).hold ΦP ρ := by
  intro t p hm
  have h1 := h.f0
  have h2 := h.ft
  have h3 := h.tm
  have h4 := h.d
  have h5 := h.ml
  simp only [pkFs, List.mem_cons, Prod.mk.injEq, List.not_mem_nil, or_false] at hm
  rcases hm with ⟨rfl, rfl⟩ | ⟨rfl, rfl⟩ | ⟨rfl, rfl⟩ | ⟨rfl, rfl⟩ | ⟨rfl, rfl⟩ | ⟨rfl, rfl⟩ | ⟨rfl, rfl⟩ | ⟨rfl, rfl⟩ | ⟨rfl, rfl⟩ | ⟨rfl, rfl⟩ | ⟨rfl, rfl⟩
  · rw [le_t, den_var]; exact h1
  · rw [le_t, den_var, den_var]; exact h2
  · rw [le_t, int_len, den_var, den_var]; exact h3
  · rw [le_t, int_sub, den_var, den_var]; exact h4
  · rw [le_t, int_len, den_var]; show ((ρ v).list.length : Int) ≤ 2560; omega
  · rw [le_t, den_var]; show (ρ (v + 1)).int ≤ (2560 : Int); omega
  · rw [le_t, den_var]; show (0 : Int) ≤ (ρ (v + 2)).int; omega
  · rw [le_t, den_var]; show (ρ (v + 2)).int ≤ (2560 : Int); omega
  · rw [le_t, den_var]; exact m0
  · rw [le_t, den_var]; exact m1
  · rw [bytes_t, den_var]; exact h.bytes
/-- What holds at the head of the loop. -/
structure AtRr (ρ ρ' : Env) (i : Nat) : Prop where
  same : ∀ j, j < 7 → ρ' j = ρ j
  v7 : (ρ' 7).int = i
  hi : i ≤ 20
  p : PkL (ρ' 8).list (ρ' 9).int (ρ' 10).int
  q : PkL (ρ' 12).list (ρ' 13).int (ρ' 14).int
  mv : (ρ' 11).int = (ρ' 15).int
  m0 : 0 ≤ (ρ' 11).int
  m1 : (ρ' 11).int ≤ i
  dat : dataOf (ρ' 8).list (ρ' 9).int (ρ' 10).int = dataOf (ρ' 12).list (ρ' 13).int (ρ' 14).int
def rrJ : Inv := ⟨fun _ ρ ds => ∃ i : Nat, (nthD ds 0).int = i ∧ i ≤ 20 ∧ PkL (nthD ds 1).list (nthD ds 2).int (nthD ds 3).int ∧ PkL (nthD ds 5).list (nthD ds 6).int (nthD ds 7).int ∧ (nthD ds 4).int = (nthD ds 8).int ∧ 0 ≤ (nthD ds 4).int ∧ (nthD ds 4).int ≤ i ∧
  dataOf (nthD ds 1).list (nthD ds 2).int (nthD ds 3).int = dataOf (nthD ds 5).list (nthD ds 6).int (nthD ds 7).int, fun _ ρ ds => 20 - (nthD ds 0).int.toNat⟩
def rrFs : Facts := (.c2 .le (.num 0) (.var 7), true) :: (pkFs 8 ++ pkFs 12)
theorem rrFs_ok {ρ ρ' : Env} {i : Nat} (h : AtRr ρ ρ' i) : rrFs.hold ΦP ρ' := by
  have h7 := h.m1
  have h8 := h.hi
  have h9 := h.mv
  have h6 := h.m0
  intro t p hm
  simp only [rrFs, List.mem_cons, List.mem_append] at hm
  rcases hm with e | hm | hm
  · injection e with e1 e2
    subst e1 e2
    rw [le_t, den_var, h.v7]; exact Int.natCast_nonneg _
  · exact pkFs_ok (v := 8) h.p h6 (by show (ρ' 11).int ≤ 1000; omega) t p hm
  · exact pkFs_ok (v := 12) h.q (by show 0 ≤ (ρ' 15).int; omega) (by show (ρ' 15).int ≤ 1000; omega) t p hm
/-- The step's turn: what a round hands back fits. -/
theorem rr_back {ρ : Env} {i : Nat} {ds ds' : List D} (h0 : (nthD ds 0).int = i) (h20 : i < 20) (e0 : (nthD ds' 0).int = i + 1) (hp : PkL (nthD ds' 1).list (nthD ds' 2).int (nthD ds' 3).int) (hq : PkL (nthD ds' 5).list (nthD ds' 6).int (nthD ds' 7).int)
    (hd : dataOf (nthD ds' 1).list (nthD ds' 2).int (nthD ds' 3).int = dataOf (nthD ds' 5).list (nthD ds' 6).int (nthD ds' 7).int) (hv : (nthD ds' 4).int = (nthD ds' 8).int) (hv0 : 0 ≤ (nthD ds' 4).int) (hv1 : (nthD ds' 4).int ≤ i + 1) : rrJ.I 0 ρ ds' ∧ rrJ.μ 0 ρ ds' < rrJ.μ 0 ρ ds := by
  refine ⟨⟨i + 1, e0, by omega, hp, hq, hv, hv0, by omega, hd⟩, ?_⟩
  show 20 - (nthD ds' 0).int.toNat < 20 - (nthD ds 0).int.toNat
  rw [h0, e0]; omega
theorem at_rr {ρ : Env} {ds : List D} (hn : ds.length = 9) (h : rrJ.I 0 ρ ds) : ∃ i : Nat, (nthD ds 0).int = i ∧ AtRr ρ (upd ρ 7 ds) i := by
  obtain ⟨i, i0, i20, hp, hq, hmv, hm0, hm1, hd⟩ := h
  have e : ∀ j, j < 9 → upd ρ 7 ds (7 + j) = nthD ds j := fun j hj => upd_at (by omega)
  refine ⟨i, i0, fun j hj => upd_lo ds hj, ?_, i20, ?_, ?_, ?_, ?_, ?_, ?_⟩
  · rw [e 0 (by decide)]; exact i0
  · rw [e 1 (by decide), e 2 (by decide), e 3 (by decide)]; exact hp
  · rw [e 5 (by decide), e 6 (by decide), e 7 (by decide)]; exact hq
  · rw [e 4 (by decide), e 8 (by decide)]; exact hmv
  · rw [e 4 (by decide)]; exact hm0
  · rw [e 4 (by decide)]; exact hm1
  · rw [e 1 (by decide), e 2 (by decide), e 3 (by decide), e 5 (by decide), e 6 (by decide), e 7 (by decide)]; exact hd
/-- The data's terms. -/
def pT : T := .c2 .take (.c2 .sub (.var 10) (.var 9)) (.c2 .drop (.var 9) (.var 8))
def qT : T := .c2 .take (.c2 .sub (.var 14) (.var 13)) (.c2 .drop (.var 13) (.var 12))
theorem den_dat {ρ : Env} {a b m : T} (h0 : 0 ≤ (T.den ΦP ρ a).int) (h1 : (T.den ΦP ρ a).int ≤ (T.den ΦP ρ b).int) : (T.den ΦP ρ (.c2 .take (.c2 .sub b a) (.c2 .drop a m))).list = dataOf (T.den ΦP ρ m).list (T.den ΦP ρ a).int (T.den ΦP ρ b).int := by
  rw [list_take, list_drop, int_sub, dataOf, show ((T.den ΦP ρ b).int - (T.den ΦP ρ a).int).toNat = (T.den ΦP ρ b).int.toNat - (T.den ΦP ρ a).int.toNat from by omega]
theorem den_pT {ρ ρ' : Env} {i : Nat} (h : AtRr ρ ρ' i) : (T.den ΦP ρ' pT).list = dataOf (ρ' 8).list (ρ' 9).int (ρ' 10).int := by
  rw [pT, den_dat (a := .var 9) (b := .var 10) (m := .var 8) h.p.f0 h.p.ft]; rfl
theorem den_qT {ρ ρ' : Env} {i : Nat} (h : AtRr ρ ρ' i) : (T.den ΦP ρ' qT).list = dataOf (ρ' 12).list (ρ' 13).int (ρ' 14).int := by
  rw [qT, den_dat (a := .var 13) (b := .var 14) (m := .var 12) h.q.f0 h.q.ft]; rfl
/-- The head of what is done: cells 2 to 74 of 75. -/
def hdRd : Nat → Nat → T
  | _, 0 => .nil
  | j, n + 1 => .cons (.c2 .rd (.var 6) (.c2 .add (.c2 .mul (.var 7) (.num 75)) (.num (.ofNat j)))) (hdRd (j + 1) n)
theorem den_hdRd {ρ' : Env} {i : Nat} (v7 : (ρ' 7).int = i) : ∀ (n j : Nat), 75 * i + j + n ≤ (ρ' 6).list.length → (T.den ΦP ρ' (hdRd j n)).list = ((ρ' 6).list.drop (75 * i + j)).take n
  | 0, j, _ => rfl
  | n + 1, j, h => by
    show (ρ' 6).list[((ρ' 7).int * 75 + ((j : Nat) : Int)).toNat]?.getD 0 :: (T.den ΦP ρ' (hdRd (j + 1) n)).list = _
    rw [den_hdRd v7 n (j + 1) (by omega), v7, show ((i : Int) * 75 + (j : Int)).toNat = 75 * i + j from by omega, List.drop_eq_getElem_cons (show 75 * i + j < _ by omega), List.take_succ_cons, List.getElem?_eq_getElem (by omega)]; rfl
theorem doHead_good {l : List Int} {i n : Nat} (hk : inKinds kDo 0 l = true) (hl : l.length = 75 * n) (hi : i < n) : GoodInts kHead ((l.drop (75 * i + 2)).take 73) := by
  rw [inKinds_iff] at hk
  have h73 : ((l.drop (75 * i + 2)).take 73).length = 73 := by rw [List.length_take, List.length_drop]; omega
  refine ⟨by rw [h73]; rfl, fun j k z h1 h2 => ?_⟩
  have hj : j < 73 := (List.getElem?_eq_some_iff.1 h1).1
  rw [List.getElem?_take, if_pos hj, List.getElem?_drop] at h2
  have := hk _ _ h2
  have e : kAt kDo (0 + (75 * i + 2 + j)) = k := by
    rw [Nat.zero_add, kAt, show kDo.length = 75 from rfl, Nat.add_assoc, Nat.mul_add_mod, Nat.mod_eq_of_lt (by omega), List.getD_eq_getElem?_getD, show 2 + j = j + 1 + 1 from by omega]
    show (kHead[j]?).getD _ = k
    rw [h1]; rfl
  rw [e] at this; exact this
theorem roomA_ok : TmplOk Go.Proofs.Try.prog ΦP 3 tRoomA := by
  refine tmpl_of consRm_ok treeRmRoomA_is (fun ρ res hres => ⟨rrJ, ?_⟩)
  obtain ⟨hcut, hres⟩ := chk_some hres
  obtain ⟨h0, hres⟩ := short_some hres
  obtain ⟨hb0, hres⟩ := bytes_some hres
  obtain ⟨hk, hres⟩ := inKs_some hres
  obtain ⟨n0, hres⟩ := chk_some hres
  obtain ⟨n1, hres⟩ := chk_some hres
  obtain ⟨hlen, hres⟩ := chk_some hres
  obtain ⟨hkin, hres⟩ := chk_some hres
  obtain rfl := ret_some hres
  rw [le_t, int_len, den_var] at hcut
  replace hcut : ((ρ 0).list.length : Int) ≤ 2048 := hcut
  have hb := hb0
  rw [eq_t, int_len, int_mul, den_var, den_var] at hlen
  replace hlen : ((ρ 6).list.length : Int) = (ρ 5).int * 75 := hlen
  have r1 := bring_range (ρ 1).int (n := 257) (by decide)
  have r2 := bring_range (ρ 2).int (n := 257) (by decide)
  have r3 := bring_range (ρ 3).int (n := 257) (by decide)
  have r4 := bring_range (ρ 4).int (n := 257) (by decide)
  obtain ⟨hp, hd⟩ := new_l (b := (ρ 0).list) hb (by omega) r1.1 r1.2 r2.1 r2.2
  obtain ⟨hp2, hd2⟩ := new_l (b := (ρ 0).list) hb (by omega) r3.1 r3.2 r4.1 r4.2
  have nl : ∀ x y : Int, 0 ≤ x → 0 ≤ y → ((newMem (ρ 0).list x y).length : Int) = x + ((ρ 0).list.length : Int) + y := by
    intro x y hx hy
    rw [newMem, List.length_append, List.length_append, List.length_replicate, List.length_replicate]
    omega
  refine ⟨by rw [le_t]; exact r1.1, by rw [lt_t]; exact r1.2, by rw [le_t]; exact r2.1, by rw [lt_t]; exact r2.2, ?_, ?_, by rw [le_t]; exact r3.1, by rw [lt_t]; exact r3.2, by rw [le_t]; exact r4.1, by rw [lt_t]; exact r4.2, ?_, ?_, ⟨0, rfl, Nat.zero_le _, ?_, ?_, rfl, Int.le_refl _, Int.le_refl _, ?_⟩, ?_⟩
  · rw [bytes_t]; exact hp.bytes
  · rw [eq_t]; exact nl _ _ r1.1 r2.1
  · rw [bytes_t]; exact hp2.bytes
  · rw [eq_t]; exact nl _ _ r3.1 r4.1
  · exact hp
  · exact hp2
  · exact hd.trans hd2.symm
  rintro ds hds hI
  obtain ⟨i, i0, a⟩ := at_rr hds hI
  generalize upd ρ 7 ds = ρ' at *
  refine ⟨rrFs_ok a, fun c => ⟨fun c' => ?_, fun _ => leaf_true rfl (by decide)⟩, fun _ => leaf_true rfl (by decide)⟩
  rw [lt_t, den_var, den_var, a.v7, a.same 5 (by decide)] at c
  rw [lt_t, den_var, a.v7] at c'
  replace c' : (i : Int) < 20 := c'
  have i20 : i < 20 := by omega
  have v6 : (ρ' 6).list.length = (ρ 5).int * 75 := by rw [a.same 6 (by decide)]; exact hlen
  have hidx : (T.den ΦP ρ' (.c2 .mul (.var 7) (.num 75))).int = i * 75 := by rw [int_mul, den_var, a.v7]; rfl
  have hp := den_pT a
  have hq := den_qT a
  obtain ⟨dd, hdd⟩ : ∃ dd, dataOf (ρ' 8).list (ρ' 9).int (ρ' 10).int = dd := ⟨_, rfl⟩
  have hdq : dataOf (ρ' 12).list (ρ' 13).int (ρ' 14).int = dd := by rw [← a.dat]; exact hdd
  rw [hdd] at hp
  rw [hdq] at hq
  have hpl : (ρ' 10).int - (ρ' 9).int = dd.length := by rw [← hdd]; exact a.p.len.symm
  have hql : (ρ' 14).int - (ρ' 13).int = dd.length := by rw [← hdq]; exact a.q.len.symm
  have same_len : (T.den ΦP ρ' (.c2 .eq (.c2 .sub (.var 10) (.var 9)) (.c1 .len pT))).bool = true := by rw [eq_t, int_len, hp, int_sub, den_var, den_var]; exact hpl
  have same_lenq : (T.den ΦP ρ' (.c2 .eq (.c2 .sub (.var 14) (.var 13)) (.c1 .len qT))).bool = true := by rw [eq_t, int_len, hq, int_sub, den_var, den_var]; exact hql
  have stay : ∀ {ds' : List D}, ds' = [(T.den ΦP ρ' (.c2 .add (.var 7) (.num 1))), ρ' 8, ρ' 9, ρ' 10, ρ' 11, ρ' 12, ρ' 13, ρ' 14, ρ' 15] → rrJ.I 0 ρ ds' ∧ rrJ.μ 0 ρ ds' < rrJ.μ 0 ρ ds := by
    rintro ds' rfl
    refine rr_back i0 i20 ?_ a.p a.q a.dat a.mv a.m0 ?_
    · show (ρ' 7).int + 1 = _; rw [a.v7]
    · show (ρ' 11).int ≤ _; have := a.m1; omega
  refine ⟨by rw [le_t, int_add, hidx, int_len, den_var, v6]; show (i : Int) * 75 + 1 ≤ _; omega, fun o => ?_, fun o => ?_⟩
  · refine ⟨by rw [le_t, int_add, hidx, int_len, den_var, v6]; show (i : Int) * 75 + 2 ≤ _; omega, ?_⟩
    obtain ⟨k, hk⟩ : ∃ k, (T.den ΦP ρ' (.c2 .rd (.var 6) (.c2 .add (.c2 .mul (.var 7) (.num 75)) (.num 1)))).int = k := ⟨_, rfl⟩
    have hE1 : (T.den ΦP ρ' xRmRoomA0).int = popErr dd k := by
      show popErr (T.den ΦP ρ' pT).list (T.den ΦP ρ' (.c2 .rd (.var 6) (.c2 .add (.c2 .mul (.var 7) (.num 75)) (.num 1)))).int = _
      rw [hp, hk]
    have hE2 : (T.den ΦP ρ' xRmRoomA1).int = popErr dd k := by
      show popErr (T.den ΦP ρ' qT).list (T.den ΦP ρ' (.c2 .rd (.var 6) (.c2 .add (.c2 .mul (.var 7) (.num 75)) (.num 1)))).int = _
      rw [hq, hk]
    have hN : (T.den ΦP ρ' (.fn 73 (.c2 .rd (.var 6) (.c2 .add (.c2 .mul (.var 7) (.num 75)) (.num 1))) .nil .nil)).int = hdSize k.toNat := by
      show ((hdSize (T.den ΦP ρ' (.c2 .rd (.var 6) (.c2 .add (.c2 .mul (.var 7) (.num 75)) (.num 1)))).int.toNat : Nat) : Int) = _; rw [hk]
    refine ⟨fun e1 => ?_, fun e1 => ?_⟩
    · rw [eq_t, hE1] at e1
      replace e1 : popErr dd k = 0 := e1
      have L1 := off_l a.p (k := k) (by rw [hdd]; exact e1)
      have L2 := off_l a.q (k := k) (by rw [hdq]; exact e1)
      have n4 := L1.n4
      have nle := L1.le
      have nle2 := L2.le
      have hX6 : (T.den ΦP ρ' xRmRoomA6).list = popRest dd k := by
        have f0 := a.p.f0
        have e9 : (T.den ΦP ρ' (.c2 .add (.var 9) (.fn 73 (.c2 .rd (.var 6) (.c2 .add (.c2 .mul (.var 7) (.num 75)) (.num 1))) .nil .nil))).int = (ρ' 9).int + hdSize k.toNat := by rw [int_add, hN, den_var]
        refine (den_dat (a := .c2 .add (.var 9) (.fn 73 (.c2 .rd (.var 6) (.c2 .add (.c2 .mul (.var 7) (.num 75)) (.num 1))) .nil .nil)) (b := .var 10) (m := .var 8) (by rw [e9]; omega) (by rw [e9, den_var]; omega)).trans ?_
        rw [e9, ← hdd]; exact L1.data
      have hX8 : (T.den ΦP ρ' xRmRoomA8).list = popRest dd k := by
        have f0 := a.q.f0
        have e9 : (T.den ΦP ρ' (.c2 .add (.var 13) (.fn 73 (.c2 .rd (.var 6) (.c2 .add (.c2 .mul (.var 7) (.num 75)) (.num 1))) .nil .nil))).int = (ρ' 13).int + hdSize k.toNat := by rw [int_add, hN, den_var]
        refine (den_dat (a := .c2 .add (.var 13) (.fn 73 (.c2 .rd (.var 6) (.c2 .add (.c2 .mul (.var 7) (.num 75)) (.num 1))) .nil .nil)) (b := .var 14) (m := .var 12) (by rw [e9]; omega) (by rw [e9, den_var]; omega)).trans ?_
        rw [e9, ← hdq]; exact L2.data
      have hll : (popRest dd k).length = (ρ' 10).int - ((ρ' 9).int + hdSize k.toNat) := by have := L1.pk.len; rw [L1.data, hdd] at this; exact this
      have hll2 : (popRest dd k).length = (ρ' 14).int - ((ρ' 13).int + hdSize k.toNat) := by have := L2.pk.len; rw [L2.data, hdq] at this; exact this
      have hH : (T.den ΦP ρ' xRmRoomA3).list = (T.den ΦP ρ' xRmRoomA5).list := by
        refine rowT_same (X := xRmRoomA2) (Y := xRmRoomA4) ?_ kHead 0
        show popHead (T.den ΦP ρ' pT).list _ = popHead (T.den ΦP ρ' qT).list _
        rw [hp, hq]
      refine ⟨by rw [le_t, hN]; exact n4, by rw [le_t, hN, int_sub, den_var, den_var]; exact nle, fun e2 => ?_, fun e2 => ?_⟩
      · refine ⟨by rw [le_t, hN, int_sub, den_var, den_var]; exact nle2, fun q => ?_, fun _ => ⟨?_, ?_, fun q => ?_, fun _ => ⟨fun q => ?_, fun _ => ?_⟩⟩⟩
        · exfalso; rw [not_t, leq_f] at q; exact q hH
        · show (T.den ΦP ρ' (.c2 .eq (.c2 .sub (.var 10) (.c2 .add (.var 9) (.fn 73 (.c2 .rd (.var 6) (.c2 .add (.c2 .mul (.var 7) (.num 75)) (.num 1))) .nil .nil))) (.c1 .len xRmRoomA6))).bool = true
          rw [eq_t, int_len, hX6, int_sub, int_add, hN, den_var, den_var]; exact hll.symm
        · show (T.den ΦP ρ' (.c2 .eq (.c2 .sub (.var 14) (.c2 .add (.var 13) (.fn 73 (.c2 .rd (.var 6) (.c2 .add (.c2 .mul (.var 7) (.num 75)) (.num 1))) .nil .nil))) (.c1 .len xRmRoomA8))).bool = true
          rw [eq_t, int_len, hX8, int_sub, int_add, hN, den_var, den_var]; exact hll2.symm
        · exfalso; rw [not_t, leq_f] at q; exact q (hX6.trans hX8.symm)
        · exfalso; rw [not_t, eq_f, int_add, int_add, den_var, den_var, a.mv] at q; exact q rfl
        · refine ok_back (rr_back i0 i20 ?_ ?_ ?_ ?_ ?_ ?_ ?_)
          · show (ρ' 7).int + 1 = _; rw [a.v7]
          · show PkL (ρ' 8).list ((ρ' 9).int + (T.den ΦP ρ' (.fn 73 (.c2 .rd (.var 6) (.c2 .add (.c2 .mul (.var 7) (.num 75)) (.num 1))) .nil .nil)).int) (ρ' 10).int; rw [hN]; exact L1.pk
          · show PkL (ρ' 12).list ((ρ' 13).int + (T.den ΦP ρ' (.fn 73 (.c2 .rd (.var 6) (.c2 .add (.c2 .mul (.var 7) (.num 75)) (.num 1))) .nil .nil)).int) (ρ' 14).int; rw [hN]; exact L2.pk
          · show dataOf (ρ' 8).list ((ρ' 9).int + (T.den ΦP ρ' (.fn 73 (.c2 .rd (.var 6) (.c2 .add (.c2 .mul (.var 7) (.num 75)) (.num 1))) .nil .nil)).int) (ρ' 10).int = dataOf (ρ' 12).list ((ρ' 13).int + (T.den ΦP ρ' (.fn 73 (.c2 .rd (.var 6) (.c2 .add (.c2 .mul (.var 7) (.num 75)) (.num 1))) .nil .nil)).int) (ρ' 14).int
            rw [hN, L1.data, L2.data, hdd, hdq]
          · show (ρ' 11).int + 1 = (ρ' 15).int + 1; rw [a.mv]
          · show 0 ≤ (ρ' 11).int + 1; have := a.m0; omega
          · show (ρ' 11).int + 1 ≤ _; have := a.m1; omega
      · exfalso; rw [eq_f, hE2] at e2; exact e2 e1
    · rw [eq_f, hE1] at e1
      refine ⟨fun e2 => ?_, fun e2 => ⟨fun q => ?_, fun _ => ⟨same_len, same_lenq, fun q => ?_, fun _ => ⟨fun q => ?_, fun _ => ?_⟩⟩⟩⟩
      · exfalso; rw [eq_t, hE2] at e2; exact e1 e2
      · exfalso; rw [not_t, eq_f] at q; exact q (hE1.trans hE2.symm)
      · exfalso; replace q : (T.den ΦP ρ' (.c1 .not (.c2 .leq pT qT))).bool = true := q; rw [not_t, leq_f] at q; exact q (hp.trans hq.symm)
      · exfalso; rw [not_t, eq_f, den_var, den_var] at q; exact q a.mv
      · exact ok_back (stay rfl)
  · have hl6 : (ρ' 6).list.length = 75 * (ρ 5).int.toNat := by omega
    have hi3 : i < (ρ 5).int.toNat := by omega
    obtain ⟨H, hHd⟩ : ∃ H, ((ρ' 6).list.drop (75 * i + 2)).take 73 = H := ⟨_, rfl⟩
    have hH : (T.den ΦP ρ' xRmRoomA11).list = H := (den_hdRd a.v7 73 2 (by omega)).trans hHd
    have hg : GoodInts kHead H := by rw [← hHd]; exact doHead_good (by rw [a.same 6 (by decide)]; exact hkin) hl6 hi3
    have hk0 : (T.den ΦP ρ' (.c2 .rd (.var 6) (.c2 .add (.c2 .mul (.var 7) (.num 75)) (.num 2)))).int = g H 0 := by
      rw [← hH]; rfl
    refine ⟨by rw [le_t, int_add, hidx, int_len, den_var, v6]; show (i : Int) * 75 + 75 ≤ _; omega, ?_⟩
    have hE1 : (T.den ΦP ρ' (.fn 70 xRmRoomA11 pT .nil)).int = pushErr H dd := by
      show pushErr (T.den ΦP ρ' xRmRoomA11).list (T.den ΦP ρ' pT).list = _; rw [hH, hp]
    have hE2 : (T.den ΦP ρ' (.fn 70 xRmRoomA11 qT .nil)).int = pushErr H dd := by
      show pushErr (T.den ΦP ρ' xRmRoomA11).list (T.den ΦP ρ' qT).list = _; rw [hH, hq]
    refine ⟨fun e1 => ?_, fun e1 => ⟨fun e2 => ?_, fun e2 => ⟨fun q => ?_, fun _ => ⟨same_len, same_lenq, fun q => ?_, fun _ => ⟨fun q => ?_, fun _ => ?_⟩⟩⟩⟩⟩
    · replace e1 : (T.den ΦP ρ' (.c2 .eq (.fn 70 xRmRoomA11 pT .nil) (.num 0))).bool = true := e1
      rw [eq_t, hE1] at e1
      replace e1 : pushErr H dd = 0 := e1
      have L1 := on_l a.p hg (by rw [hdd]; exact e1)
      have L2 := on_l a.q hg (by rw [hdq]; exact e1)
      have hN : (T.den ΦP ρ' (.fn 73 (.c2 .rd (.var 6) (.c2 .add (.c2 .mul (.var 7) (.num 75)) (.num 2))) .nil .nil)).int = hdSize (g H 0).toNat := by
        show ((hdSize (T.den ΦP ρ' (.c2 .rd (.var 6) (.c2 .add (.c2 .mul (.var 7) (.num 75)) (.num 2)))).int.toNat : Nat) : Int) = _; rw [hk0]
      have hM1 : (T.den ΦP ρ' (.fn 82 (.var 8) (.cons (.var 9) (.cons (.var 10) .nil)) xRmRoomA11)).list = onMem (ρ' 8).list [(ρ' 9).int, (ρ' 10).int] H := by
        show onMem _ _ (T.den ΦP ρ' xRmRoomA11).list = _; rw [hH]; rfl
      have hM2 : (T.den ΦP ρ' (.fn 82 (.var 12) (.cons (.var 13) (.cons (.var 14) .nil)) xRmRoomA11)).list = onMem (ρ' 12).list [(ρ' 13).int, (ρ' 14).int] H := by
        show onMem _ _ (T.den ΦP ρ' xRmRoomA11).list = _; rw [hH]; rfl
      have hF1 : (T.den ΦP ρ' (.fn 84 (.var 9) (.fn 73 (.c2 .rd (.var 6) (.c2 .add (.c2 .mul (.var 7) (.num 75)) (.num 2))) .nil .nil) .nil)).int = onFrom (ρ' 9).int (hdSize (g H 0).toNat) := by
        show onFrom (ρ' 9).int (T.den ΦP ρ' (.fn 73 (.c2 .rd (.var 6) (.c2 .add (.c2 .mul (.var 7) (.num 75)) (.num 2))) .nil .nil)).int = _; rw [hN]
      have hF2 : (T.den ΦP ρ' (.fn 84 (.var 13) (.fn 73 (.c2 .rd (.var 6) (.c2 .add (.c2 .mul (.var 7) (.num 75)) (.num 2))) .nil .nil) .nil)).int = onFrom (ρ' 13).int (hdSize (g H 0).toNat) := by
        show onFrom (ρ' 13).int (T.den ΦP ρ' (.fn 73 (.c2 .rd (.var 6) (.c2 .add (.c2 .mul (.var 7) (.num 75)) (.num 2))) .nil .nil)).int = _; rw [hN]
      have hT1 : (T.den ΦP ρ' xRmRoomA12).int = onFrom (ρ' 9).int (hdSize (g H 0).toNat) + ((hdSize (g H 0).toNat : Int) + ((ρ' 10).int - (ρ' 9).int)) := by
        rw [xRmRoomA12, int_add, int_add, int_sub, hF1, hN]; rfl
      have hT2 : (T.den ΦP ρ' xRmRoomA14).int = onFrom (ρ' 13).int (hdSize (g H 0).toNat) + ((hdSize (g H 0).toNat : Int) + ((ρ' 14).int - (ρ' 13).int)) := by
        rw [xRmRoomA14, int_add, int_add, int_sub, hF2, hN]; rfl
      have p0 := L1.pk.f0
      have p1 := L1.pk.ft
      have p2 := L1.pk.tm
      have p3 := L1.pk.ml
      have q0 := L2.pk.f0
      have q1 := L2.pk.ft
      have q2 := L2.pk.tm
      have q3 := L2.pk.ml
      have hX15 : (T.den ΦP ρ' xRmRoomA15).list = pushRow H dd := by
        rw [xRmRoomA15, den_dat (by rw [hF1]; exact p0) (by rw [hF1, hT1]; exact p1), hF1, hT1, hM1, L1.data, hdd]
      have hX17 : (T.den ΦP ρ' xRmRoomA17).list = pushRow H dd := by
        rw [xRmRoomA17, den_dat (by rw [hF2]; exact q0) (by rw [hF2, hT2]; exact q1), hF2, hT2, hM2, L2.data, hdq]
      have hl1 : (pushRow H dd).length = onFrom (ρ' 9).int (hdSize (g H 0).toNat) + ((hdSize (g H 0).toNat : Int) + ((ρ' 10).int - (ρ' 9).int)) - onFrom (ρ' 9).int (hdSize (g H 0).toNat) := by have := L1.pk.len; rw [L1.data, hdd] at this; exact this
      have hl2 : (pushRow H dd).length = onFrom (ρ' 13).int (hdSize (g H 0).toNat) + ((hdSize (g H 0).toNat : Int) + ((ρ' 14).int - (ρ' 13).int)) - onFrom (ρ' 13).int (hdSize (g H 0).toNat) := by have := L2.pk.len; rw [L2.data, hdq] at this; exact this
      refine ⟨by rw [bytes_t, hM1]; exact L1.pk.bytes, by rw [le_t, int_len, hM1]; show _ ≤ (2560 : Int); omega, by rw [le_t, hN]; exact L1.n4, by rw [le_t, hN]; exact L1.n40, by rw [le_t, int_add, hN, int_sub]; exact L1.short,
        by rw [le_t, hF1]; exact p0, by rw [le_t, hF1]; show _ ≤ (2560 : Int); omega, by rw [le_t, hT1, int_len, hM1]; exact p2, fun e2 => ?_, fun e2 => ?_⟩
      · refine ⟨by rw [bytes_t, hM2]; exact L2.pk.bytes, by rw [le_t, int_len, hM2]; show _ ≤ (2560 : Int); omega, by rw [xRmRoomA13, le_t, int_add, hN, int_sub]; exact L2.short,
          by rw [le_t, hF2]; exact q0, by rw [le_t, hF2]; show _ ≤ (2560 : Int); omega, by rw [le_t, hT2, int_len, hM2]; exact q2, ?_, ?_, fun q => ?_, fun _ => ⟨fun q => ?_, fun _ => ?_⟩⟩
        · rw [xRmRoomA16, eq_t, int_sub, hT1, hF1, int_len, hX15]; exact hl1.symm
        · rw [eq_t, int_sub, hT2, hF2, int_len, hX17]; exact hl2.symm
        · exfalso; rw [not_t, leq_f] at q; exact q (hX15.trans hX17.symm)
        · exfalso; rw [not_t, eq_f, int_add, int_add, den_var, den_var, a.mv] at q; exact q rfl
        · refine ok_back (rr_back i0 i20 ?_ ?_ ?_ ?_ ?_ ?_ ?_)
          · show (ρ' 7).int + 1 = _; rw [a.v7]
          · show PkL (T.den ΦP ρ' (.fn 82 (.var 8) (.cons (.var 9) (.cons (.var 10) .nil)) xRmRoomA11)).list (T.den ΦP ρ' (.fn 84 (.var 9) (.fn 73 (.c2 .rd (.var 6) (.c2 .add (.c2 .mul (.var 7) (.num 75)) (.num 2))) .nil .nil) .nil)).int (T.den ΦP ρ' xRmRoomA12).int
            rw [hM1, hF1, hT1]; exact L1.pk
          · show PkL (T.den ΦP ρ' (.fn 82 (.var 12) (.cons (.var 13) (.cons (.var 14) .nil)) xRmRoomA11)).list (T.den ΦP ρ' (.fn 84 (.var 13) (.fn 73 (.c2 .rd (.var 6) (.c2 .add (.c2 .mul (.var 7) (.num 75)) (.num 2))) .nil .nil) .nil)).int (T.den ΦP ρ' xRmRoomA14).int
            rw [hM2, hF2, hT2]; exact L2.pk
          · show dataOf (T.den ΦP ρ' (.fn 82 (.var 8) (.cons (.var 9) (.cons (.var 10) .nil)) xRmRoomA11)).list (T.den ΦP ρ' (.fn 84 (.var 9) (.fn 73 (.c2 .rd (.var 6) (.c2 .add (.c2 .mul (.var 7) (.num 75)) (.num 2))) .nil .nil) .nil)).int (T.den ΦP ρ' xRmRoomA12).int = dataOf (T.den ΦP ρ' (.fn 82 (.var 12) (.cons (.var 13) (.cons (.var 14) .nil)) xRmRoomA11)).list (T.den ΦP ρ' (.fn 84 (.var 13) (.fn 73 (.c2 .rd (.var 6) (.c2 .add (.c2 .mul (.var 7) (.num 75)) (.num 2))) .nil .nil) .nil)).int (T.den ΦP ρ' xRmRoomA14).int
            rw [hM1, hF1, hT1, hM2, hF2, hT2, L1.data, L2.data, hdd, hdq]
          · show (ρ' 11).int + 1 = (ρ' 15).int + 1; rw [a.mv]
          · show 0 ≤ (ρ' 11).int + 1; have := a.m0; omega
          · show (ρ' 11).int + 1 ≤ _; have := a.m1; omega
      · exfalso; rw [eq_f] at e2; exact e2 (hE2.trans e1)
    · exfalso; rw [eq_f] at e1; rw [eq_t] at e2; exact e1 (hE1.trans (hE2.symm.trans e2))
    · exfalso; rw [not_t, eq_f] at q; exact q (hE1.trans hE2.symm)
    · exfalso; replace q : (T.den ΦP ρ' (.c1 .not (.c2 .leq pT qT))).bool = true := q; rw [not_t, leq_f] at q; exact q (hp.trans hq.symm)
    · exfalso; rw [not_t, eq_f, den_var, den_var] at q; exact q a.mv
    · exact ok_back (stay rfl)
theorem roomB_ok : TmplOk Go.Proofs.Try.prog ΦP 3 tRoomB := by
  refine tmpl_of consRm_ok treeRmRoomB_is (fun ρ res hres => ⟨rrJ, ?_⟩)
  obtain ⟨hcut, hres⟩ := chk_some hres
  obtain ⟨h0, hres⟩ := short_some hres
  obtain ⟨hb0, hres⟩ := bytes_some hres
  obtain ⟨hk, hres⟩ := inKs_some hres
  obtain ⟨n0, hres⟩ := chk_some hres
  obtain ⟨n1, hres⟩ := chk_some hres
  obtain ⟨hlen, hres⟩ := chk_some hres
  obtain ⟨hkin, hres⟩ := chk_some hres
  obtain rfl := ret_some hres
  rw [lt_t, int_len, den_var] at hcut
  replace hcut : (2048 : Int) < ((ρ 0).list.length : Int) := hcut
  have hb := bytes_take hb0 2048
  have hl0 : ((ρ 0).list.take 2048).length = 2048 := by rw [List.length_take]; omega
  rw [eq_t, int_len, int_mul, den_var, den_var] at hlen
  replace hlen : ((ρ 6).list.length : Int) = (ρ 5).int * 75 := hlen
  have r1 := bring_range (ρ 1).int (n := 257) (by decide)
  have r2 := bring_range (ρ 2).int (n := 257) (by decide)
  have r3 := bring_range (ρ 3).int (n := 257) (by decide)
  have r4 := bring_range (ρ 4).int (n := 257) (by decide)
  obtain ⟨hp, hd⟩ := new_l (b := ((ρ 0).list.take 2048)) hb (by omega) r1.1 r1.2 r2.1 r2.2
  obtain ⟨hp2, hd2⟩ := new_l (b := ((ρ 0).list.take 2048)) hb (by omega) r3.1 r3.2 r4.1 r4.2
  have nl : ∀ x y : Int, 0 ≤ x → 0 ≤ y → ((newMem ((ρ 0).list.take 2048) x y).length : Int) = x + (((ρ 0).list.take 2048).length : Int) + y := by
    intro x y hx hy
    rw [newMem, List.length_append, List.length_append, List.length_replicate, List.length_replicate]
    omega
  refine ⟨by rw [le_t]; exact r1.1, by rw [lt_t]; exact r1.2, by rw [le_t]; exact r2.1, by rw [lt_t]; exact r2.2, ?_, ?_, by rw [le_t]; exact r3.1, by rw [lt_t]; exact r3.2, by rw [le_t]; exact r4.1, by rw [lt_t]; exact r4.2, ?_, ?_, ⟨0, rfl, Nat.zero_le _, ?_, ?_, rfl, Int.le_refl _, Int.le_refl _, ?_⟩, ?_⟩
  · rw [bytes_t]; exact hp.bytes
  · rw [eq_t]; refine (nl _ _ r1.1 r2.1).trans ?_; rw [hl0]; rfl
  · rw [bytes_t]; exact hp2.bytes
  · rw [eq_t]; refine (nl _ _ r3.1 r4.1).trans ?_; rw [hl0]; rfl
  · exact hp
  · exact hp2
  · exact hd.trans hd2.symm
  rintro ds hds hI
  obtain ⟨i, i0, a⟩ := at_rr hds hI
  generalize upd ρ 7 ds = ρ' at *
  refine ⟨rrFs_ok a, fun c => ⟨fun c' => ?_, fun _ => leaf_true rfl (by decide)⟩, fun _ => leaf_true rfl (by decide)⟩
  rw [lt_t, den_var, den_var, a.v7, a.same 5 (by decide)] at c
  rw [lt_t, den_var, a.v7] at c'
  replace c' : (i : Int) < 20 := c'
  have i20 : i < 20 := by omega
  have v6 : (ρ' 6).list.length = (ρ 5).int * 75 := by rw [a.same 6 (by decide)]; exact hlen
  have hidx : (T.den ΦP ρ' (.c2 .mul (.var 7) (.num 75))).int = i * 75 := by rw [int_mul, den_var, a.v7]; rfl
  have hp := den_pT a
  have hq := den_qT a
  obtain ⟨dd, hdd⟩ : ∃ dd, dataOf (ρ' 8).list (ρ' 9).int (ρ' 10).int = dd := ⟨_, rfl⟩
  have hdq : dataOf (ρ' 12).list (ρ' 13).int (ρ' 14).int = dd := by rw [← a.dat]; exact hdd
  rw [hdd] at hp
  rw [hdq] at hq
  have hpl : (ρ' 10).int - (ρ' 9).int = dd.length := by rw [← hdd]; exact a.p.len.symm
  have hql : (ρ' 14).int - (ρ' 13).int = dd.length := by rw [← hdq]; exact a.q.len.symm
  have same_len : (T.den ΦP ρ' (.c2 .eq (.c2 .sub (.var 10) (.var 9)) (.c1 .len pT))).bool = true := by rw [eq_t, int_len, hp, int_sub, den_var, den_var]; exact hpl
  have same_lenq : (T.den ΦP ρ' (.c2 .eq (.c2 .sub (.var 14) (.var 13)) (.c1 .len qT))).bool = true := by rw [eq_t, int_len, hq, int_sub, den_var, den_var]; exact hql
  have stay : ∀ {ds' : List D}, ds' = [(T.den ΦP ρ' (.c2 .add (.var 7) (.num 1))), ρ' 8, ρ' 9, ρ' 10, ρ' 11, ρ' 12, ρ' 13, ρ' 14, ρ' 15] → rrJ.I 0 ρ ds' ∧ rrJ.μ 0 ρ ds' < rrJ.μ 0 ρ ds := by
    rintro ds' rfl
    refine rr_back i0 i20 ?_ a.p a.q a.dat a.mv a.m0 ?_
    · show (ρ' 7).int + 1 = _; rw [a.v7]
    · show (ρ' 11).int ≤ _; have := a.m1; omega
  refine ⟨by rw [le_t, int_add, hidx, int_len, den_var, v6]; show (i : Int) * 75 + 1 ≤ _; omega, fun o => ?_, fun o => ?_⟩
  · refine ⟨by rw [le_t, int_add, hidx, int_len, den_var, v6]; show (i : Int) * 75 + 2 ≤ _; omega, ?_⟩
    obtain ⟨k, hk⟩ : ∃ k, (T.den ΦP ρ' (.c2 .rd (.var 6) (.c2 .add (.c2 .mul (.var 7) (.num 75)) (.num 1)))).int = k := ⟨_, rfl⟩
    have hE1 : (T.den ΦP ρ' xRmRoomB0).int = popErr dd k := by
      show popErr (T.den ΦP ρ' pT).list (T.den ΦP ρ' (.c2 .rd (.var 6) (.c2 .add (.c2 .mul (.var 7) (.num 75)) (.num 1)))).int = _
      rw [hp, hk]
    have hE2 : (T.den ΦP ρ' xRmRoomB1).int = popErr dd k := by
      show popErr (T.den ΦP ρ' qT).list (T.den ΦP ρ' (.c2 .rd (.var 6) (.c2 .add (.c2 .mul (.var 7) (.num 75)) (.num 1)))).int = _
      rw [hq, hk]
    have hN : (T.den ΦP ρ' (.fn 73 (.c2 .rd (.var 6) (.c2 .add (.c2 .mul (.var 7) (.num 75)) (.num 1))) .nil .nil)).int = hdSize k.toNat := by
      show ((hdSize (T.den ΦP ρ' (.c2 .rd (.var 6) (.c2 .add (.c2 .mul (.var 7) (.num 75)) (.num 1)))).int.toNat : Nat) : Int) = _; rw [hk]
    refine ⟨fun e1 => ?_, fun e1 => ?_⟩
    · rw [eq_t, hE1] at e1
      replace e1 : popErr dd k = 0 := e1
      have L1 := off_l a.p (k := k) (by rw [hdd]; exact e1)
      have L2 := off_l a.q (k := k) (by rw [hdq]; exact e1)
      have n4 := L1.n4
      have nle := L1.le
      have nle2 := L2.le
      have hX6 : (T.den ΦP ρ' xRmRoomB6).list = popRest dd k := by
        have f0 := a.p.f0
        have e9 : (T.den ΦP ρ' (.c2 .add (.var 9) (.fn 73 (.c2 .rd (.var 6) (.c2 .add (.c2 .mul (.var 7) (.num 75)) (.num 1))) .nil .nil))).int = (ρ' 9).int + hdSize k.toNat := by rw [int_add, hN, den_var]
        refine (den_dat (a := .c2 .add (.var 9) (.fn 73 (.c2 .rd (.var 6) (.c2 .add (.c2 .mul (.var 7) (.num 75)) (.num 1))) .nil .nil)) (b := .var 10) (m := .var 8) (by rw [e9]; omega) (by rw [e9, den_var]; omega)).trans ?_
        rw [e9, ← hdd]; exact L1.data
      have hX8 : (T.den ΦP ρ' xRmRoomB8).list = popRest dd k := by
        have f0 := a.q.f0
        have e9 : (T.den ΦP ρ' (.c2 .add (.var 13) (.fn 73 (.c2 .rd (.var 6) (.c2 .add (.c2 .mul (.var 7) (.num 75)) (.num 1))) .nil .nil))).int = (ρ' 13).int + hdSize k.toNat := by rw [int_add, hN, den_var]
        refine (den_dat (a := .c2 .add (.var 13) (.fn 73 (.c2 .rd (.var 6) (.c2 .add (.c2 .mul (.var 7) (.num 75)) (.num 1))) .nil .nil)) (b := .var 14) (m := .var 12) (by rw [e9]; omega) (by rw [e9, den_var]; omega)).trans ?_
        rw [e9, ← hdq]; exact L2.data
      have hll : (popRest dd k).length = (ρ' 10).int - ((ρ' 9).int + hdSize k.toNat) := by have := L1.pk.len; rw [L1.data, hdd] at this; exact this
      have hll2 : (popRest dd k).length = (ρ' 14).int - ((ρ' 13).int + hdSize k.toNat) := by have := L2.pk.len; rw [L2.data, hdq] at this; exact this
      have hH : (T.den ΦP ρ' xRmRoomB3).list = (T.den ΦP ρ' xRmRoomB5).list := by
        refine rowT_same (X := xRmRoomB2) (Y := xRmRoomB4) ?_ kHead 0
        show popHead (T.den ΦP ρ' pT).list _ = popHead (T.den ΦP ρ' qT).list _
        rw [hp, hq]
      refine ⟨by rw [le_t, hN]; exact n4, by rw [le_t, hN, int_sub, den_var, den_var]; exact nle, fun e2 => ?_, fun e2 => ?_⟩
      · refine ⟨by rw [le_t, hN, int_sub, den_var, den_var]; exact nle2, fun q => ?_, fun _ => ⟨?_, ?_, fun q => ?_, fun _ => ⟨fun q => ?_, fun _ => ?_⟩⟩⟩
        · exfalso; rw [not_t, leq_f] at q; exact q hH
        · show (T.den ΦP ρ' (.c2 .eq (.c2 .sub (.var 10) (.c2 .add (.var 9) (.fn 73 (.c2 .rd (.var 6) (.c2 .add (.c2 .mul (.var 7) (.num 75)) (.num 1))) .nil .nil))) (.c1 .len xRmRoomB6))).bool = true
          rw [eq_t, int_len, hX6, int_sub, int_add, hN, den_var, den_var]; exact hll.symm
        · show (T.den ΦP ρ' (.c2 .eq (.c2 .sub (.var 14) (.c2 .add (.var 13) (.fn 73 (.c2 .rd (.var 6) (.c2 .add (.c2 .mul (.var 7) (.num 75)) (.num 1))) .nil .nil))) (.c1 .len xRmRoomB8))).bool = true
          rw [eq_t, int_len, hX8, int_sub, int_add, hN, den_var, den_var]; exact hll2.symm
        · exfalso; rw [not_t, leq_f] at q; exact q (hX6.trans hX8.symm)
        · exfalso; rw [not_t, eq_f, int_add, int_add, den_var, den_var, a.mv] at q; exact q rfl
        · refine ok_back (rr_back i0 i20 ?_ ?_ ?_ ?_ ?_ ?_ ?_)
          · show (ρ' 7).int + 1 = _; rw [a.v7]
          · show PkL (ρ' 8).list ((ρ' 9).int + (T.den ΦP ρ' (.fn 73 (.c2 .rd (.var 6) (.c2 .add (.c2 .mul (.var 7) (.num 75)) (.num 1))) .nil .nil)).int) (ρ' 10).int; rw [hN]; exact L1.pk
          · show PkL (ρ' 12).list ((ρ' 13).int + (T.den ΦP ρ' (.fn 73 (.c2 .rd (.var 6) (.c2 .add (.c2 .mul (.var 7) (.num 75)) (.num 1))) .nil .nil)).int) (ρ' 14).int; rw [hN]; exact L2.pk
          · show dataOf (ρ' 8).list ((ρ' 9).int + (T.den ΦP ρ' (.fn 73 (.c2 .rd (.var 6) (.c2 .add (.c2 .mul (.var 7) (.num 75)) (.num 1))) .nil .nil)).int) (ρ' 10).int = dataOf (ρ' 12).list ((ρ' 13).int + (T.den ΦP ρ' (.fn 73 (.c2 .rd (.var 6) (.c2 .add (.c2 .mul (.var 7) (.num 75)) (.num 1))) .nil .nil)).int) (ρ' 14).int
            rw [hN, L1.data, L2.data, hdd, hdq]
          · show (ρ' 11).int + 1 = (ρ' 15).int + 1; rw [a.mv]
          · show 0 ≤ (ρ' 11).int + 1; have := a.m0; omega
          · show (ρ' 11).int + 1 ≤ _; have := a.m1; omega
      · exfalso; rw [eq_f, hE2] at e2; exact e2 e1
    · rw [eq_f, hE1] at e1
      refine ⟨fun e2 => ?_, fun e2 => ⟨fun q => ?_, fun _ => ⟨same_len, same_lenq, fun q => ?_, fun _ => ⟨fun q => ?_, fun _ => ?_⟩⟩⟩⟩
      · exfalso; rw [eq_t, hE2] at e2; exact e1 e2
      · exfalso; rw [not_t, eq_f] at q; exact q (hE1.trans hE2.symm)
      · exfalso; replace q : (T.den ΦP ρ' (.c1 .not (.c2 .leq pT qT))).bool = true := q; rw [not_t, leq_f] at q; exact q (hp.trans hq.symm)
      · exfalso; rw [not_t, eq_f, den_var, den_var] at q; exact q a.mv
      · exact ok_back (stay rfl)
  · have hl6 : (ρ' 6).list.length = 75 * (ρ 5).int.toNat := by omega
    have hi3 : i < (ρ 5).int.toNat := by omega
    obtain ⟨H, hHd⟩ : ∃ H, ((ρ' 6).list.drop (75 * i + 2)).take 73 = H := ⟨_, rfl⟩
    have hH : (T.den ΦP ρ' xRmRoomB11).list = H := (den_hdRd a.v7 73 2 (by omega)).trans hHd
    have hg : GoodInts kHead H := by rw [← hHd]; exact doHead_good (by rw [a.same 6 (by decide)]; exact hkin) hl6 hi3
    have hk0 : (T.den ΦP ρ' (.c2 .rd (.var 6) (.c2 .add (.c2 .mul (.var 7) (.num 75)) (.num 2)))).int = g H 0 := by
      rw [← hH]; rfl
    refine ⟨by rw [le_t, int_add, hidx, int_len, den_var, v6]; show (i : Int) * 75 + 75 ≤ _; omega, ?_⟩
    have hE1 : (T.den ΦP ρ' (.fn 70 xRmRoomB11 pT .nil)).int = pushErr H dd := by
      show pushErr (T.den ΦP ρ' xRmRoomB11).list (T.den ΦP ρ' pT).list = _; rw [hH, hp]
    have hE2 : (T.den ΦP ρ' (.fn 70 xRmRoomB11 qT .nil)).int = pushErr H dd := by
      show pushErr (T.den ΦP ρ' xRmRoomB11).list (T.den ΦP ρ' qT).list = _; rw [hH, hq]
    refine ⟨fun e1 => ?_, fun e1 => ⟨fun e2 => ?_, fun e2 => ⟨fun q => ?_, fun _ => ⟨same_len, same_lenq, fun q => ?_, fun _ => ⟨fun q => ?_, fun _ => ?_⟩⟩⟩⟩⟩
    · replace e1 : (T.den ΦP ρ' (.c2 .eq (.fn 70 xRmRoomB11 pT .nil) (.num 0))).bool = true := e1
      rw [eq_t, hE1] at e1
      replace e1 : pushErr H dd = 0 := e1
      have L1 := on_l a.p hg (by rw [hdd]; exact e1)
      have L2 := on_l a.q hg (by rw [hdq]; exact e1)
      have hN : (T.den ΦP ρ' (.fn 73 (.c2 .rd (.var 6) (.c2 .add (.c2 .mul (.var 7) (.num 75)) (.num 2))) .nil .nil)).int = hdSize (g H 0).toNat := by
        show ((hdSize (T.den ΦP ρ' (.c2 .rd (.var 6) (.c2 .add (.c2 .mul (.var 7) (.num 75)) (.num 2)))).int.toNat : Nat) : Int) = _; rw [hk0]
      have hM1 : (T.den ΦP ρ' (.fn 82 (.var 8) (.cons (.var 9) (.cons (.var 10) .nil)) xRmRoomB11)).list = onMem (ρ' 8).list [(ρ' 9).int, (ρ' 10).int] H := by
        show onMem _ _ (T.den ΦP ρ' xRmRoomB11).list = _; rw [hH]; rfl
      have hM2 : (T.den ΦP ρ' (.fn 82 (.var 12) (.cons (.var 13) (.cons (.var 14) .nil)) xRmRoomB11)).list = onMem (ρ' 12).list [(ρ' 13).int, (ρ' 14).int] H := by
        show onMem _ _ (T.den ΦP ρ' xRmRoomB11).list = _; rw [hH]; rfl
      have hF1 : (T.den ΦP ρ' (.fn 84 (.var 9) (.fn 73 (.c2 .rd (.var 6) (.c2 .add (.c2 .mul (.var 7) (.num 75)) (.num 2))) .nil .nil) .nil)).int = onFrom (ρ' 9).int (hdSize (g H 0).toNat) := by
        show onFrom (ρ' 9).int (T.den ΦP ρ' (.fn 73 (.c2 .rd (.var 6) (.c2 .add (.c2 .mul (.var 7) (.num 75)) (.num 2))) .nil .nil)).int = _; rw [hN]
      have hF2 : (T.den ΦP ρ' (.fn 84 (.var 13) (.fn 73 (.c2 .rd (.var 6) (.c2 .add (.c2 .mul (.var 7) (.num 75)) (.num 2))) .nil .nil) .nil)).int = onFrom (ρ' 13).int (hdSize (g H 0).toNat) := by
        show onFrom (ρ' 13).int (T.den ΦP ρ' (.fn 73 (.c2 .rd (.var 6) (.c2 .add (.c2 .mul (.var 7) (.num 75)) (.num 2))) .nil .nil)).int = _; rw [hN]
      have hT1 : (T.den ΦP ρ' xRmRoomB12).int = onFrom (ρ' 9).int (hdSize (g H 0).toNat) + ((hdSize (g H 0).toNat : Int) + ((ρ' 10).int - (ρ' 9).int)) := by
        rw [xRmRoomB12, int_add, int_add, int_sub, hF1, hN]; rfl
      have hT2 : (T.den ΦP ρ' xRmRoomB14).int = onFrom (ρ' 13).int (hdSize (g H 0).toNat) + ((hdSize (g H 0).toNat : Int) + ((ρ' 14).int - (ρ' 13).int)) := by
        rw [xRmRoomB14, int_add, int_add, int_sub, hF2, hN]; rfl
      have p0 := L1.pk.f0
      have p1 := L1.pk.ft
      have p2 := L1.pk.tm
      have p3 := L1.pk.ml
      have q0 := L2.pk.f0
      have q1 := L2.pk.ft
      have q2 := L2.pk.tm
      have q3 := L2.pk.ml
      have hX15 : (T.den ΦP ρ' xRmRoomB15).list = pushRow H dd := by
        rw [xRmRoomB15, den_dat (by rw [hF1]; exact p0) (by rw [hF1, hT1]; exact p1), hF1, hT1, hM1, L1.data, hdd]
      have hX17 : (T.den ΦP ρ' xRmRoomB17).list = pushRow H dd := by
        rw [xRmRoomB17, den_dat (by rw [hF2]; exact q0) (by rw [hF2, hT2]; exact q1), hF2, hT2, hM2, L2.data, hdq]
      have hl1 : (pushRow H dd).length = onFrom (ρ' 9).int (hdSize (g H 0).toNat) + ((hdSize (g H 0).toNat : Int) + ((ρ' 10).int - (ρ' 9).int)) - onFrom (ρ' 9).int (hdSize (g H 0).toNat) := by have := L1.pk.len; rw [L1.data, hdd] at this; exact this
      have hl2 : (pushRow H dd).length = onFrom (ρ' 13).int (hdSize (g H 0).toNat) + ((hdSize (g H 0).toNat : Int) + ((ρ' 14).int - (ρ' 13).int)) - onFrom (ρ' 13).int (hdSize (g H 0).toNat) := by have := L2.pk.len; rw [L2.data, hdq] at this; exact this
      refine ⟨by rw [bytes_t, hM1]; exact L1.pk.bytes, by rw [le_t, int_len, hM1]; show _ ≤ (2560 : Int); omega, by rw [le_t, hN]; exact L1.n4, by rw [le_t, hN]; exact L1.n40, by rw [le_t, int_add, hN, int_sub]; exact L1.short,
        by rw [le_t, hF1]; exact p0, by rw [le_t, hF1]; show _ ≤ (2560 : Int); omega, by rw [le_t, hT1, int_len, hM1]; exact p2, fun e2 => ?_, fun e2 => ?_⟩
      · refine ⟨by rw [bytes_t, hM2]; exact L2.pk.bytes, by rw [le_t, int_len, hM2]; show _ ≤ (2560 : Int); omega, by rw [xRmRoomB13, le_t, int_add, hN, int_sub]; exact L2.short,
          by rw [le_t, hF2]; exact q0, by rw [le_t, hF2]; show _ ≤ (2560 : Int); omega, by rw [le_t, hT2, int_len, hM2]; exact q2, ?_, ?_, fun q => ?_, fun _ => ⟨fun q => ?_, fun _ => ?_⟩⟩
        · rw [xRmRoomB16, eq_t, int_sub, hT1, hF1, int_len, hX15]; exact hl1.symm
        · rw [eq_t, int_sub, hT2, hF2, int_len, hX17]; exact hl2.symm
        · exfalso; rw [not_t, leq_f] at q; exact q (hX15.trans hX17.symm)
        · exfalso; rw [not_t, eq_f, int_add, int_add, den_var, den_var, a.mv] at q; exact q rfl
        · refine ok_back (rr_back i0 i20 ?_ ?_ ?_ ?_ ?_ ?_ ?_)
          · show (ρ' 7).int + 1 = _; rw [a.v7]
          · show PkL (T.den ΦP ρ' (.fn 82 (.var 8) (.cons (.var 9) (.cons (.var 10) .nil)) xRmRoomB11)).list (T.den ΦP ρ' (.fn 84 (.var 9) (.fn 73 (.c2 .rd (.var 6) (.c2 .add (.c2 .mul (.var 7) (.num 75)) (.num 2))) .nil .nil) .nil)).int (T.den ΦP ρ' xRmRoomB12).int
            rw [hM1, hF1, hT1]; exact L1.pk
          · show PkL (T.den ΦP ρ' (.fn 82 (.var 12) (.cons (.var 13) (.cons (.var 14) .nil)) xRmRoomB11)).list (T.den ΦP ρ' (.fn 84 (.var 13) (.fn 73 (.c2 .rd (.var 6) (.c2 .add (.c2 .mul (.var 7) (.num 75)) (.num 2))) .nil .nil) .nil)).int (T.den ΦP ρ' xRmRoomB14).int
            rw [hM2, hF2, hT2]; exact L2.pk
          · show dataOf (T.den ΦP ρ' (.fn 82 (.var 8) (.cons (.var 9) (.cons (.var 10) .nil)) xRmRoomB11)).list (T.den ΦP ρ' (.fn 84 (.var 9) (.fn 73 (.c2 .rd (.var 6) (.c2 .add (.c2 .mul (.var 7) (.num 75)) (.num 2))) .nil .nil) .nil)).int (T.den ΦP ρ' xRmRoomB12).int = dataOf (T.den ΦP ρ' (.fn 82 (.var 12) (.cons (.var 13) (.cons (.var 14) .nil)) xRmRoomB11)).list (T.den ΦP ρ' (.fn 84 (.var 13) (.fn 73 (.c2 .rd (.var 6) (.c2 .add (.c2 .mul (.var 7) (.num 75)) (.num 2))) .nil .nil) .nil)).int (T.den ΦP ρ' xRmRoomB14).int
            rw [hM1, hF1, hT1, hM2, hF2, hT2, L1.data, L2.data, hdd, hdq]
          · show (ρ' 11).int + 1 = (ρ' 15).int + 1; rw [a.mv]
          · show 0 ≤ (ρ' 11).int + 1; have := a.m0; omega
          · show (ρ' 11).int + 1 ≤ _; have := a.m1; omega
      · exfalso; rw [eq_f] at e2; exact e2 (hE2.trans e1)
    · exfalso; rw [eq_f] at e1; rw [eq_t] at e2; exact e1 (hE1.trans (hE2.symm.trans e2))
    · exfalso; rw [not_t, eq_f] at q; exact q (hE1.trans hE2.symm)
    · exfalso; replace q : (T.den ΦP ρ' (.c1 .not (.c2 .leq pT qT))).bool = true := q; rw [not_t, leq_f] at q; exact q (hp.trans hq.symm)
    · exfalso; rw [not_t, eq_f, den_var, den_var] at q; exact q a.mv
    · exact ok_back (stay rfl)
theorem room_ok : TmplOk Go.Proofs.Try.prog ΦP 3 tRoom := by
  intro ρ res hres
  by_cases c : (T.den ΦP ρ (.c2 .le (.c1 .len (.var 0)) (.num 2048))).bool = true
  · exact roomA_ok ρ res (chk_val c hres)
  · refine roomB_ok ρ res (chk_val ?_ hres)
    rw [le_t] at c
    rw [lt_t]
    omega
end Go.Proofs.Ytfhjlimdakphcaa.Sx
/- Sx laws, part 3: slices of structs of whole numbers (and Bools) that came in. Conditions: none. -/
set_option linter.unusedVariables false
set_option linter.unusedSimpArgs false
namespace Go.Proofs.Ytfhjlimdakphcaa.Sx
open Go Go.RowKit Go.WideShapes Go.ChangeShapes
/-! Kinds of a flat type's cells; none: a Bool. -/
def flatS (K : TypeId → Option (List (Option IntKind))) (sz : TypeId → Nat) : List Field → Nat → Option (List (Option IntKind))
  | [], _ => some []
  | f :: fs, o => match K f.type with
    | some ks => if f.offset = o ∧ ks.length = sz f.type then (flatS K sz fs (o + ks.length)).map (ks ++ ·) else none
    | none => none
def repK (ks : List (Option IntKind)) : Nat → List (Option IntKind)
  | 0 => []
  | n + 1 => repK ks n ++ ks
def kflat (P : Program) : Nat → TypeId → Option (List (Option IntKind))
  | 0, _ => none
  | n + 1, t => match P.underlying t with
    | some .bool => some [none]
    | some (.int k) => some [some k]
    | some (.struct fs) => match flatS (kflat P n) P.cellsOf fs.toList 0 with
      | some ks => if ks.length = P.cellsOf t then some ks else none
      | none => none
    | some (.array m e) => match kflat P n e with
      | some ks => if ks.length = P.cellsOf e ∧ m * ks.length = P.cellsOf t then some (repK ks m) else none
      | none => none
    | _ => none
def fitC : Option IntKind → Value → Prop
  | none, v => ∃ b, v = .bool b
  | some k, v => ∃ n, v = .int k n ∧ (kmin k ≤ n ∧ n ≤ kmax k)
def fitsL : List (Option IntKind) → List Value → Prop
  | [], [] => True
  | k :: ks, v :: vs => fitC k v ∧ fitsL ks vs
  | _, _ => False
theorem fits_app : ∀ {a b : List (Option IntKind)} {x y : List Value}, fitsL a x → fitsL b y → fitsL (a ++ b) (x ++ y)
  | [], _, [], _, _, h => h
  | [], _, _ :: _, _, h, _ => h.elim
  | _ :: _, _, [], _, h, _ => h.elim
  | _ :: _, _, _ :: _, _, h, k => ⟨h.1, fits_app h.2 k⟩
theorem fits_len : ∀ {a : List (Option IntKind)} {x : List Value}, fitsL a x → a.length = x.length
  | [], [], _ => rfl
  | [], _ :: _, h => h.elim
  | _ :: _, [], h => h.elim
  | _ :: _, _ :: _, h => by simp [fits_len h.2]
theorem fits_get : ∀ {a : List (Option IntKind)} {x : List Value}, fitsL a x → ∀ {i : Nat} {k : Option IntKind}, a[i]? = some k → ∃ v, x[i]? = some v ∧ fitC k v
  | [], [], _, i, k, h => by simp at h
  | [], _ :: _, h, _, _, _ => h.elim
  | _ :: _, [], h, _, _, _ => h.elim
  | k :: a, v :: x, h, 0, k', e => by
    simp only [List.getElem?_cons_zero, Option.some.injEq] at e
    subst e; exact ⟨v, rfl, h.1⟩
  | k :: a, v :: x, h, i + 1, k', e => by
    simp only [List.getElem?_cons_succ] at e ⊢
    exact fits_get h.2 e
section
variable {H : Type} {enc : TypeId × Value → H} {P : Program} {W : World} {base : Nat} {spare : Nat → Bool} {held : Bool}
theorem flatS_fits {K : TypeId → Option (List (Option IntKind))} {sz : TypeId → Nat} {m : Nat} {cs : List Value} (ih : ∀ {t : TypeId} {ks : List (Option IntKind)}, K t = some ks → ∀ {cs : List Value} {x : DataW H × List MemPlace}, DataW.trod enc P W base spare held m t cs = some x → fitsL ks cs) :
    ∀ (l : List Field) (o : Nat) (ks : List (Option IntKind)), flatS K sz l o = some ks → (∀ f ∈ l, ∃ x, DataW.trod enc P W base spare held m f.type ((cs.drop f.offset).take (sz f.type)) = some x) → fitsL ks ((cs.drop o).take ks.length)
  | [], o, ks, h, _ => by
    simp only [flatS, Option.some.injEq] at h
    subst h; simp [fitsL]
  | f :: fs, o, ks, h, hx => by
    simp only [flatS] at h
    split at h
    · rename_i k1 hk1
      split at h
      · rename_i hc
        obtain ⟨k2, hk2, rfl⟩ := Option.map_eq_some_iff.mp h
        obtain ⟨x, hx1⟩ := hx f (List.mem_cons_self ..)
        have h1 := ih hk1 hx1
        rw [hc.1, ← hc.2] at h1
        have h2 := flatS_fits ih fs _ _ hk2 (fun g hg => hx g (List.mem_cons_of_mem _ hg))
        rw [List.length_append, List.take_add, List.drop_drop]
        exact fits_app h1 h2
      · cases h
    · cases h
theorem flat_trod : ∀ (F : Nat) {t : TypeId} {ks : List (Option IntKind)}, kflat P F t = some ks → ∀ {fuel : Nat} {cs : List Value} {x : DataW H × List MemPlace}, DataW.trod enc P W base spare held fuel t cs = some x → fitsL ks cs
  | 0, t, ks, h, _, _, _, _ => by cases h
  | F + 1, t, ks, h, fuel, cs, x, hx => by
    simp only [kflat] at h
    split at h
    · rename_i hu
      injection h with h; subst h
      obtain ⟨b, rfl, _⟩ := DataW.trod_bool hu hx
      exact ⟨⟨b, rfl⟩, trivial⟩
    · rename_i k hu
      injection h with h; subst h
      obtain ⟨n, rfl, _, hw⟩ := DataW.trod_int hu hx
      exact ⟨⟨n, rfl, wf_bounds hw⟩, trivial⟩
    · rename_i fs hu
      split at h
      · rename_i k1 hk1
        split at h
        · rename_i hc
          injection h with h; subst h
          obtain ⟨xs, n, rfl, _, hl, hxl, hf⟩ := DataW.trod_struct hu hx
          have := flatS_fits (m := n) (cs := cs) (fun hk => fun {cs x} hx => flat_trod F hk hx) fs.toList 0 k1 hk1 (fun f hf' => by
            obtain ⟨i, hi⟩ := List.getElem?_of_mem hf'
            have hi' : fs[i]? = some f := by rw [← Array.getElem?_toList]; exact hi
            have hlt : i < xs.length := by rw [hxl]; exact (Array.getElem?_eq_some_iff.1 hi').1
            exact ⟨xs[i], by rw [hf i f hi', List.getElem?_eq_getElem hlt]⟩)
          rw [List.drop_zero, List.take_of_length_le (by omega)] at this
          exact this
        · cases h
      · cases h
    · rename_i m e hu
      split at h
      · rename_i k1 hk1
        split at h
        · rename_i hc
          injection h with h; subst h
          obtain ⟨xs, n, rfl, _, hl, hxl, hf⟩ := DataW.trod_array hu hx
          have each : ∀ j, j ≤ m → fitsL (repK k1 j) (cs.take (j * k1.length)) := by
            intro j
            induction j with
            | zero => intro _; simp [repK, fitsL]
            | succ j ihj =>
              intro hj
              rw [Nat.succ_mul, List.take_add]
              refine fits_app (ihj (by omega)) ?_
              have := hf j (by omega)
              rw [List.getElem?_eq_getElem (by omega), ← hc.1] at this
              exact flat_trod F hk1 this
          have := each m (Nat.le_refl _)
          rw [List.take_of_length_le (by omega)] at this
          exact this
        · cases h
      · cases h
    · cases h
end
/-! A row of such elements. -/
def encV : Value → Int
  | .int _ n => n
  | .bool b => if b then 1 else 0
  | _ => 0
def kAtM (mix : Bool) (ks : List IntKind) (i : Nat) : Option IntKind := if mix ∧ i = 0 then none else some (ks.getD i .u8)
structure RowS (mix : Bool) (ks : List IntKind) (w : World) (a : Option Addr) (len cap : Nat) (l : List Int) (pl : Place) : Prop where
  heap : pl.sz ≠ 0 → pl.b < w.heap.size
  row : (mix = false → rowRep w pl ks l) ∧ (mix = true → mixRep w pl ks l)
  long : l.length = len * ks.length
  le : len ≤ cap
  fit : cap * ks.length ≤ pl.sz
  at_ : 0 < cap → a = some ⟨pl.b, pl.o, none⟩
  kin : inKinds ks 0 l = true
theorem addr_add2 (b o i j : Nat) : ((⟨b, o, none⟩ : Addr).add i).add j = ⟨b, o + i + j, none⟩ := by
  simp only [Addr.add]
  by_cases hi : i = 0
  · subst hi
    by_cases hj : j = 0
    · subst hj; rfl
    · simp [hj]
  · by_cases hj : j = 0
    · subst hj; simp [hi]
    · simp [hi, hj]
theorem cell_spot {w : World} {x : Addr} {v : Value} (h : w.cell? x = some v) (hv : ∃ k, fitC k v) : x.spot = none := by
  cases hs : x.spot with
  | none => rfl
  | some s =>
    exfalso
    unfold World.cell? at h
    rw [hs] at h
    obtain ⟨k, hk⟩ := hv
    cases k with
    | none => obtain ⟨b, rfl⟩ := hk; revert h; split <;> simp
    | some k => obtain ⟨n, rfl, _⟩ := hk; revert h; split <;> simp
theorem rows_of {H : Type} {enc : TypeId × Value → H} {P : Program} {W : World} {base : Nat} {spare : Nat → Bool} {held : Bool} {t e F : Nat} {ks : List IntKind} {mix : Bool} {ko : List (Option IntKind)} {a : Option Addr} {len cap : Nat} {d : DataW H} {ps : List MemPlace} (hsp : ∀ b, spare b = true)
    (hu : P.underlying t = some (.slice e)) (hk : kflat P F e = some ko) (hko : ko = (List.range ks.length).map (kAtM mix ks)) (hc : P.cellsOf e = ks.length) (hpos : 0 < ks.length) (hm0 : mix = true → ks.getD 0 .u8 = .u8) (h : DataW.Trod enc P W base spare held t (.slice a len cap) d ps) :
    ∃ l pl, RowS mix ks W a len cap l pl := by
  obtain ⟨fuel, hf⟩ := h
  rcases DataW.trod_slice hu hf with ⟨hcs, _⟩ | ⟨x, len', cap', elems, rest, n, _, hcs, _, _, hl, hm, hlen, hel, hre, _⟩
  · simp [Value.cells] at hcs
    obtain ⟨rfl, rfl, rfl⟩ := hcs
    exact ⟨[], ⟨0, 0, 0⟩, fun h => absurd rfl h, ⟨fun _ => ⟨hpos, by simp, fun i z hz => by simp at hz⟩, fun _ => ⟨hpos, by simp, fun i z hz => by simp at hz⟩⟩, by simp, Nat.le_refl _, by simp, fun h => absurd h (by omega), by simp [inKinds]⟩
  · simp [Value.cells] at hcs
    obtain ⟨rfl, rfl, rfl⟩ := hcs
    have each : ∀ i, i < cap → ∃ cs, (∀ j, j < ks.length → W.cell? ((x.add (i * ks.length)).add j) = cs[j]?) ∧ fitsL ko cs := by
      intro i hi
      have : ∃ y, (W.cells? base (x.add (i * P.cellsOf e)) (P.cellsOf e)).bind (DataW.trod enc P W base spare held n e) = some y := by
        by_cases hil : i < len
        · exact ⟨elems[i]'(by omega), by rw [hel i hil, List.getElem?_eq_getElem (by omega)]⟩
        · obtain ⟨hrl, hr⟩ := hre (hsp _)
          have := hr (i - len) (by omega)
          rw [show len + (i - len) = i by omega] at this
          exact ⟨rest[i - len]'(by omega), by rw [this, List.getElem?_eq_getElem (by omega)]⟩
      obtain ⟨y, hy⟩ := this
      rw [Option.bind_eq_some_iff] at hy
      obtain ⟨cs, h1, h2⟩ := hy
      rw [hc] at h1
      exact ⟨cs, (World.cells?_some h1).2.2, flat_trod F hk h2⟩
    by_cases h0 : cap = 0
    · have : len = 0 := by omega
      subst this
      exact ⟨[], ⟨0, 0, 0⟩, fun h => absurd rfl h, ⟨fun _ => ⟨hpos, by simp, fun i z hz => by simp at hz⟩, fun _ => ⟨hpos, by simp, fun i z hz => by simp at hz⟩⟩, by simp, hl, by simp [h0], fun h => absurd h (by omega), by simp [inKinds]⟩
    · have hkol : ko.length = ks.length := by rw [hko]; simp
      have first : ∀ i, i < cap → ∀ j, j < ks.length → ∃ v, W.cell? ((x.add (i * ks.length)).add j) = some v ∧ fitC (kAtM mix ks j) v := by
        intro i hi j hj
        obtain ⟨cs, h1, h2⟩ := each i hi
        obtain ⟨v, hv, hfit⟩ := fits_get h2 (i := j) (k := kAtM mix ks j) (by rw [hko, List.getElem?_map, List.getElem?_range hj]; rfl)
        exact ⟨v, by rw [h1 j hj, hv], hfit⟩
      have hx : x.spot = none := by
        obtain ⟨v, hv, hfit⟩ := first 0 (by omega) 0 hpos
        have := cell_spot hv ⟨_, hfit⟩
        rw [Nat.zero_mul] at this
        cases x with
        | mk b o s =>
          cases s with
          | none => rfl
          | some s => simp [Addr.add] at this
      have ha : ∀ i j, (x.add i).add j = ⟨x.block, x.off + i + j, none⟩ := fun i j => by
        have e : x = ⟨x.block, x.off, none⟩ := by cases x; cases hx; rfl
        rw [e]; exact addr_add2 _ _ i j
      have cell : ∀ p, p < cap * ks.length → ∃ v, W.cell? ⟨x.block, x.off + p, none⟩ = some v ∧ fitC (kAtM mix ks (p % ks.length)) v := by
        intro p hp
        have h1 : p / ks.length < cap := (Nat.div_lt_iff_lt_mul hpos).mpr hp
        obtain ⟨v, hv, hfit⟩ := first (p / ks.length) h1 (p % ks.length) (Nat.mod_lt _ hpos)
        rw [ha] at hv
        refine ⟨v, ?_, hfit⟩
        rw [← hv]
        congr 2
        have := Nat.div_add_mod' p ks.length
        omega
      obtain ⟨l, hl'⟩ : ∃ l : List Int, l = (List.range (len * ks.length)).map fun p => encV ((W.cell? ⟨x.block, x.off + p, none⟩).getD undef) := ⟨_, rfl⟩
      have hll : l.length = len * ks.length := by rw [hl']; simp
      have get : ∀ p z, l[p]? = some z → ∃ v, W.cell? ⟨x.block, x.off + p, none⟩ = some v ∧ fitC (kAtM mix ks (p % ks.length)) v ∧ z = encV v := by
        intro p z hz
        have hp : p < len * ks.length := by rw [← hll]; exact (List.getElem?_eq_some_iff.1 hz).1
        obtain ⟨v, hv, hfit⟩ := cell p (Nat.lt_of_lt_of_le hp (Nat.mul_le_mul_right _ hl))
        rw [hl', List.getElem?_map, List.getElem?_range hp, Option.map_some, hv] at hz
        exact ⟨v, hv, hfit, by simpa using hz.symm⟩
      have hsz : len * ks.length ≤ cap * ks.length := Nat.mul_le_mul_right _ hl
      refine ⟨l, ⟨x.block, x.off, cap * ks.length⟩, fun _ => ?_, ⟨fun hm => ⟨hpos, by rw [hll]; exact hsz, fun i z hz => ?_⟩, fun hm => ⟨hpos, by rw [hll]; exact hsz, fun i z hz => ?_⟩⟩, hll, hl, Nat.le_refl _, fun _ => by rw [← hx], ?_⟩
      · obtain ⟨v, hv, _⟩ := cell 0 (Nat.mul_pos (by omega) hpos)
        exact cell_heap hv
      · obtain ⟨v, hv, hfit, rfl⟩ := get i z hz
        rw [hm] at hfit
        obtain ⟨n, rfl, _⟩ := hfit
        exact hv
      · obtain ⟨v, hv, hfit, rfl⟩ := get i z hz
        unfold mixV
        split
        · rename_i e
          rw [hm, e] at hfit
          obtain ⟨b, rfl⟩ := hfit
          rw [hv]; cases b <;> rfl
        · rename_i e
          have : kAtM mix ks (i % ks.length) = some (ks.getD (i % ks.length) .u8) := by simp [kAtM, e]
          rw [this] at hfit
          obtain ⟨n, rfl, _⟩ := hfit
          exact hv
      · rw [inKinds_iff]
        intro j z hz
        obtain ⟨v, hv, hfit, rfl⟩ := get j z hz
        rw [Nat.zero_add, kAt]
        by_cases e : mix = true ∧ j % ks.length = 0
        · have : kAtM mix ks (j % ks.length) = none := by simp [kAtM, e]
          rw [this] at hfit
          obtain ⟨b, rfl⟩ := hfit
          rw [e.2, hm0 e.1]
          cases b <;> decide
        · have : kAtM mix ks (j % ks.length) = some (ks.getD (j % ks.length) .u8) := by simp only [kAtM]; rw [if_neg e]
          rw [this] at hfit
          obtain ⟨n, rfl, hb⟩ := hfit
          exact hb
theorem rows_sized {H : Type} {enc : TypeId × Value → H} {P : Program} {W : World} {base : Nat} {spare : Nat → Bool} {held : Bool} {t e : TypeId} {a : Option Addr} {len cap : Nat} {d : DataW H} {ps : List MemPlace} {ts : List TypeId} {ds : List (DataW H)} {j : Nat}
    (hsz : (DataW.weightsEach P ts ds).all (· ≤ reachBytes) = true) (ht : ts[j]? = some t) (hd : ds[j]? = some d) (hu : P.underlying t = some (.slice e)) {B : Nat} (hB : P.bytesOf e = B) (hb1 : 1 ≤ B)
    (h : DataW.Trod enc P W base spare held t (.slice a len cap) d ps) : len ≤ 140737488351232 := by
  obtain ⟨fuel, hf⟩ := h
  rcases DataW.trod_slice hu hf with ⟨hcs, _⟩ | ⟨x, len', cap', elems, rest, n, _, hcs, hd', _, hl, hm, hlen, _, _, _⟩
  · simp [Value.cells] at hcs
    obtain ⟨rfl, rfl, rfl⟩ := hcs
    simp
  · simp [Value.cells] at hcs
    obtain ⟨rfl, rfl, rfl⟩ := hcs
    obtain ⟨hx, _⟩ := Prod.mk.inj hd'
    subst hx
    have z := sized_slice hsz ht hd hu
    rw [hB, List.length_map, List.length_map, hlen] at z
    have h1 : len * 1 ≤ (len + rest.length) * B := Nat.mul_le_mul (Nat.le_add_right _ _) hb1
    have : (len + rest.length) * B ≤ 140737488351232 := z
    omega
section
variable {Φ : Sig} {ρ : Env} {β : Map} {w : World}
theorem slcS_rep {j v st : Nat} {a : Option Addr} {len cap : Nat} {l : List Int} {pl : Place} {ks : List IntKind} {mix : Bool} (hj : β j = some pl) (hst : ks.length = st) (hn : ρ v = .i len) (h : RowS mix ks w a len cap l pl) : (V.c (.s j st 0 (.num 0) (.var v))).rep (T.den Φ ρ) β (.slice a len cap) := by
  refine ⟨pl, hj, a, len, cap, rfl, ?_, h.le, by simp [T.den], ?_, fun hc => ?_⟩
  · simp [T.den, hn]
  · have := h.fit
    rw [hst] at this
    simp [T.den]; omega
  · have := h.at_ hc
    simpa [T.den] using this
theorem rowS_mem {v : Nat} {a : Option Addr} {len cap : Nat} {l : List Int} {pl : Place} {ks : List IntKind} (hv : ρ v = .l l) (h : RowS false ks w a len cap l pl) : (MB.mk false (.row ks (.var v))).rep (T.den Φ ρ) β w pl := by
  refine ⟨?_, fun h => by cases h⟩
  have := h.row.1 rfl
  simpa [Blk.rep, T.den, hv] using this
theorem mixS_mem {v : Nat} {a : Option Addr} {len cap : Nat} {l : List Int} {pl : Place} {ks : List IntKind} (hv : ρ v = .l l) (h : RowS true ks w a len cap l pl) : (MB.mk false (.mix ks (.var v))).rep (T.den Φ ρ) β w pl := by
  refine ⟨?_, fun h => by cases h⟩
  have := h.row.2 rfl
  simpa [Blk.rep, T.den, hv] using this
/-- What a contract asks of such a slice. -/
theorem rowS_val {n v st : Nat} {a : Option Addr} {len cap : Nat} {l : List Int} {pl : Place} {ks : List IntKind} {mix : Bool} {x : O Res} {res : Res} (hn : ρ n = .i len) (hv : ρ v = .l l) (hst : ks.length = st) (h : RowS mix ks w a len cap l pl) (hs : len ≤ 140737488351232) (hx : x.val (T.den Φ ρ) = some res) :
    (O.chk (.c2 .le (.num 0) (.var n)) (.chk (.c2 .le (.var n) (.num 140737488351232)) (.chk (.c2 .eq (.c1 .len (.var v)) (.c2 .mul (.var n) (.num (st : Int)))) (.chk (.c1 (.kin ks) (.var v)) x)))).val (T.den Φ ρ) = some res := by
  have h1 : (0 : Int) ≤ len := Int.natCast_nonneg _
  have h2 : (len : Int) ≤ 140737488351232 := by omega
  have h3 : (l.length : Int) = (len : Int) * (st : Int) := by rw [h.long, hst]; exact Int.natCast_mul _ _
  simp only [O.val, T.den, O2.den, U1.den, hn, hv, D.int_i, D.list_l, D.bool_b, h1, h2, h3, h.kin, decide_true, beq_self_eq_true, if_true]
  exact hx
end
end Go.Proofs.Ytfhjlimdakphcaa.Sx
