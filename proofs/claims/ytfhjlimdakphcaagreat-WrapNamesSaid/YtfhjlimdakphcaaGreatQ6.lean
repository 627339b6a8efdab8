/- Sx: texts of this claim put together: TWdSeg, TWrSeg, HdWSeg, TWdDgram, TWrDgram, HdWDgram, WrK, SkK, SkF, SkE, SkH, WlM, TWlEq, TWlAwake, WlC, TSkRef, SkR, TSkSame, SkS, TSkStacks, SkL, TPeNext, TPePeel. Conditions: none. -/
import Derived.Test.YtfhjlimdakphcaaGreatQ5
import Derived.Test.YtfhjlimdakphcaaGreatProg
import Derived.KernelRfl
import Derived.Deep.MidRow
set_option maxRecDepth 100000
namespace Go.Proofs.YtfhjlimdakphcaaGreat.Sx
open Go
def treeWdSeg : M (V × St) :=
(.split (.c2 .le (.num 64) (.var 4))
 (.ret (.t [.c (.sn), .c (.i .i64 (.num 90))], ⟨[], [], 3, 7, []⟩))
 (.split (.c2 .lt (.num 2028) (.c1 .len (.var 6)))
 (.ret (.t [.c (.sn), .c (.i .i64 (.num 5))], ⟨[], [], 3, 7, []⟩))
 (.ret (.t [.c (.s 3 1 0 (.num 0) (.num 20)), .c (.i .i64 (.num 0))], ⟨[], [(3, some ⟨true, .row [.u8] (.cons (.c2 .fdiv (.var 0) (.num 256)) (.cons (.c2 .sub (.var 0) (.c2 .mul (.c2 .fdiv (.var 0) (.num 256)) (.num 256))) (.cons (.c2 .fdiv (.var 1) (.num 256)) (.cons (.c2 .sub (.var 1) (.c2 .mul (.c2 .fdiv (.var 1) (.num 256)) (.num 256))) (.cons (.c2 .fdiv (.c2 .fdiv (.var 2) (.num 65536)) (.num 256)) (.cons (.c2 .sub (.c2 .fdiv (.var 2) (.num 65536)) (.c2 .mul (.c2 .fdiv (.c2 .fdiv (.var 2) (.num 65536)) (.num 256)) (.num 256))) (.cons (.c2 .fdiv (.c2 .sub (.var 2) (.c2 .mul (.c2 .fdiv (.var 2) (.num 65536)) (.num 65536))) (.num 256)) (.cons (.c2 .sub (.c2 .sub (.var 2) (.c2 .mul (.c2 .fdiv (.var 2) (.num 65536)) (.num 65536))) (.c2 .mul (.c2 .fdiv (.c2 .sub (.var 2) (.c2 .mul (.c2 .fdiv (.var 2) (.num 65536)) (.num 65536))) (.num 256)) (.num 256))) (.cons (.c2 .fdiv (.c2 .fdiv (.var 3) (.num 65536)) (.num 256)) (.cons (.c2 .sub (.c2 .fdiv (.var 3) (.num 65536)) (.c2 .mul (.c2 .fdiv (.c2 .fdiv (.var 3) (.num 65536)) (.num 256)) (.num 256))) (.cons (.c2 .fdiv (.c2 .sub (.var 3) (.c2 .mul (.c2 .fdiv (.var 3) (.num 65536)) (.num 65536))) (.num 256)) (.cons (.c2 .sub (.c2 .sub (.var 3) (.c2 .mul (.c2 .fdiv (.var 3) (.num 65536)) (.num 65536))) (.c2 .mul (.c2 .fdiv (.c2 .sub (.var 3) (.c2 .mul (.c2 .fdiv (.var 3) (.num 65536)) (.num 65536))) (.num 256)) (.num 256))) (.cons (.c2 .fdiv (.c2 .add (.num 20480) (.var 4)) (.num 256)) (.cons (.c2 .sub (.c2 .add (.num 20480) (.var 4)) (.c2 .mul (.c2 .fdiv (.c2 .add (.num 20480) (.var 4)) (.num 256)) (.num 256))) (.cons (.c2 .fdiv (.var 5) (.num 256)) (.cons (.c2 .sub (.var 5) (.c2 .mul (.c2 .fdiv (.var 5) (.num 256)) (.num 256))) (.cons (.c2 .fdiv (.c2 .sub (.num 65535) (.wr .u16 (.fn 2 (.c2 .add (.wr .u16 (.fn 1 (.cons (.c2 .fdiv (.var 0) (.num 256)) (.cons (.c2 .sub (.var 0) (.c2 .mul (.c2 .fdiv (.var 0) (.num 256)) (.num 256))) (.cons (.c2 .fdiv (.var 1) (.num 256)) (.cons (.c2 .sub (.var 1) (.c2 .mul (.c2 .fdiv (.var 1) (.num 256)) (.num 256))) (.cons (.c2 .fdiv (.c2 .fdiv (.var 2) (.num 65536)) (.num 256)) (.cons (.c2 .sub (.c2 .fdiv (.var 2) (.num 65536)) (.c2 .mul (.c2 .fdiv (.c2 .fdiv (.var 2) (.num 65536)) (.num 256)) (.num 256))) (.cons (.c2 .fdiv (.c2 .sub (.var 2) (.c2 .mul (.c2 .fdiv (.var 2) (.num 65536)) (.num 65536))) (.num 256)) (.cons (.c2 .sub (.c2 .sub (.var 2) (.c2 .mul (.c2 .fdiv (.var 2) (.num 65536)) (.num 65536))) (.c2 .mul (.c2 .fdiv (.c2 .sub (.var 2) (.c2 .mul (.c2 .fdiv (.var 2) (.num 65536)) (.num 65536))) (.num 256)) (.num 256))) (.cons (.c2 .fdiv (.c2 .fdiv (.var 3) (.num 65536)) (.num 256)) (.cons (.c2 .sub (.c2 .fdiv (.var 3) (.num 65536)) (.c2 .mul (.c2 .fdiv (.c2 .fdiv (.var 3) (.num 65536)) (.num 256)) (.num 256))) (.cons (.c2 .fdiv (.c2 .sub (.var 3) (.c2 .mul (.c2 .fdiv (.var 3) (.num 65536)) (.num 65536))) (.num 256)) (.cons (.c2 .sub (.c2 .sub (.var 3) (.c2 .mul (.c2 .fdiv (.var 3) (.num 65536)) (.num 65536))) (.c2 .mul (.c2 .fdiv (.c2 .sub (.var 3) (.c2 .mul (.c2 .fdiv (.var 3) (.num 65536)) (.num 65536))) (.num 256)) (.num 256))) (.cons (.c2 .fdiv (.c2 .add (.num 20480) (.var 4)) (.num 256)) (.cons (.c2 .sub (.c2 .add (.num 20480) (.var 4)) (.c2 .mul (.c2 .fdiv (.c2 .add (.num 20480) (.var 4)) (.num 256)) (.num 256))) (.cons (.c2 .fdiv (.var 5) (.num 256)) (.cons (.c2 .sub (.var 5) (.c2 .mul (.c2 .fdiv (.var 5) (.num 256)) (.num 256))) (.cons (.num 0) (.cons (.num 0) (.cons (.num 0) (.cons (.num 0) .nil)))))))))))))))))))) .nil .nil)) (.wr .u16 (.fn 1 (.var 6) .nil .nil))) .nil .nil))) (.num 256)) (.cons (.c2 .sub (.c2 .sub (.num 65535) (.wr .u16 (.fn 2 (.c2 .add (.wr .u16 (.fn 1 (.cons (.c2 .fdiv (.var 0) (.num 256)) (.cons (.c2 .sub (.var 0) (.c2 .mul (.c2 .fdiv (.var 0) (.num 256)) (.num 256))) (.cons (.c2 .fdiv (.var 1) (.num 256)) (.cons (.c2 .sub (.var 1) (.c2 .mul (.c2 .fdiv (.var 1) (.num 256)) (.num 256))) (.cons (.c2 .fdiv (.c2 .fdiv (.var 2) (.num 65536)) (.num 256)) (.cons (.c2 .sub (.c2 .fdiv (.var 2) (.num 65536)) (.c2 .mul (.c2 .fdiv (.c2 .fdiv (.var 2) (.num 65536)) (.num 256)) (.num 256))) (.cons (.c2 .fdiv (.c2 .sub (.var 2) (.c2 .mul (.c2 .fdiv (.var 2) (.num 65536)) (.num 65536))) (.num 256)) (.cons (.c2 .sub (.c2 .sub (.var 2) (.c2 .mul (.c2 .fdiv (.var 2) (.num 65536)) (.num 65536))) (.c2 .mul (.c2 .fdiv (.c2 .sub (.var 2) (.c2 .mul (.c2 .fdiv (.var 2) (.num 65536)) (.num 65536))) (.num 256)) (.num 256))) (.cons (.c2 .fdiv (.c2 .fdiv (.var 3) (.num 65536)) (.num 256)) (.cons (.c2 .sub (.c2 .fdiv (.var 3) (.num 65536)) (.c2 .mul (.c2 .fdiv (.c2 .fdiv (.var 3) (.num 65536)) (.num 256)) (.num 256))) (.cons (.c2 .fdiv (.c2 .sub (.var 3) (.c2 .mul (.c2 .fdiv (.var 3) (.num 65536)) (.num 65536))) (.num 256)) (.cons (.c2 .sub (.c2 .sub (.var 3) (.c2 .mul (.c2 .fdiv (.var 3) (.num 65536)) (.num 65536))) (.c2 .mul (.c2 .fdiv (.c2 .sub (.var 3) (.c2 .mul (.c2 .fdiv (.var 3) (.num 65536)) (.num 65536))) (.num 256)) (.num 256))) (.cons (.c2 .fdiv (.c2 .add (.num 20480) (.var 4)) (.num 256)) (.cons (.c2 .sub (.c2 .add (.num 20480) (.var 4)) (.c2 .mul (.c2 .fdiv (.c2 .add (.num 20480) (.var 4)) (.num 256)) (.num 256))) (.cons (.c2 .fdiv (.var 5) (.num 256)) (.cons (.c2 .sub (.var 5) (.c2 .mul (.c2 .fdiv (.var 5) (.num 256)) (.num 256))) (.cons (.num 0) (.cons (.num 0) (.cons (.num 0) (.cons (.num 0) .nil)))))))))))))))))))) .nil .nil)) (.wr .u16 (.fn 1 (.var 6) .nil .nil))) .nil .nil))) (.c2 .mul (.c2 .fdiv (.c2 .sub (.num 65535) (.wr .u16 (.fn 2 (.c2 .add (.wr .u16 (.fn 1 (.cons (.c2 .fdiv (.var 0) (.num 256)) (.cons (.c2 .sub (.var 0) (.c2 .mul (.c2 .fdiv (.var 0) (.num 256)) (.num 256))) (.cons (.c2 .fdiv (.var 1) (.num 256)) (.cons (.c2 .sub (.var 1) (.c2 .mul (.c2 .fdiv (.var 1) (.num 256)) (.num 256))) (.cons (.c2 .fdiv (.c2 .fdiv (.var 2) (.num 65536)) (.num 256)) (.cons (.c2 .sub (.c2 .fdiv (.var 2) (.num 65536)) (.c2 .mul (.c2 .fdiv (.c2 .fdiv (.var 2) (.num 65536)) (.num 256)) (.num 256))) (.cons (.c2 .fdiv (.c2 .sub (.var 2) (.c2 .mul (.c2 .fdiv (.var 2) (.num 65536)) (.num 65536))) (.num 256)) (.cons (.c2 .sub (.c2 .sub (.var 2) (.c2 .mul (.c2 .fdiv (.var 2) (.num 65536)) (.num 65536))) (.c2 .mul (.c2 .fdiv (.c2 .sub (.var 2) (.c2 .mul (.c2 .fdiv (.var 2) (.num 65536)) (.num 65536))) (.num 256)) (.num 256))) (.cons (.c2 .fdiv (.c2 .fdiv (.var 3) (.num 65536)) (.num 256)) (.cons (.c2 .sub (.c2 .fdiv (.var 3) (.num 65536)) (.c2 .mul (.c2 .fdiv (.c2 .fdiv (.var 3) (.num 65536)) (.num 256)) (.num 256))) (.cons (.c2 .fdiv (.c2 .sub (.var 3) (.c2 .mul (.c2 .fdiv (.var 3) (.num 65536)) (.num 65536))) (.num 256)) (.cons (.c2 .sub (.c2 .sub (.var 3) (.c2 .mul (.c2 .fdiv (.var 3) (.num 65536)) (.num 65536))) (.c2 .mul (.c2 .fdiv (.c2 .sub (.var 3) (.c2 .mul (.c2 .fdiv (.var 3) (.num 65536)) (.num 65536))) (.num 256)) (.num 256))) (.cons (.c2 .fdiv (.c2 .add (.num 20480) (.var 4)) (.num 256)) (.cons (.c2 .sub (.c2 .add (.num 20480) (.var 4)) (.c2 .mul (.c2 .fdiv (.c2 .add (.num 20480) (.var 4)) (.num 256)) (.num 256))) (.cons (.c2 .fdiv (.var 5) (.num 256)) (.cons (.c2 .sub (.var 5) (.c2 .mul (.c2 .fdiv (.var 5) (.num 256)) (.num 256))) (.cons (.num 0) (.cons (.num 0) (.cons (.num 0) (.cons (.num 0) .nil)))))))))))))))))))) .nil .nil)) (.wr .u16 (.fn 1 (.var 6) .nil .nil))) .nil .nil))) (.num 256)) (.num 256))) (.cons (.num 0) (.cons (.num 0) .nil))))))))))))))))))))⟩)], 6, 7, []⟩))))
theorem treeWdSeg_is : funTree (ctxN Go.Proofs.Tryz.prog annsHd consSum 8) annsHd 135 (tBytes 5 3 60 20 kSeg).vs (tBytes 5 3 60 20 kSeg).bs (tBytes 5 3 60 20 kSeg).n (preF (tBytes 5 3 60 20 kSeg).res) = treeWdSeg := by kernel_rfl
end Go.Proofs.YtfhjlimdakphcaaGreat.Sx
set_option maxRecDepth 100000
namespace Go.Proofs.YtfhjlimdakphcaaGreat.Sx
open Go
def treeWrSeg : M (V × St) :=
(.split (.c2 .le (.num 64) (.var 4))
 (.ret (.t [.c (.sn), .c (.i .i64 (.num 90))], ⟨[], [], 3, 7, []⟩))
 (.split (.c2 .lt (.num 2028) (.c1 .len (.var 6)))
 (.ret (.t [.c (.sn), .c (.i .i64 (.num 5))], ⟨[], [], 3, 7, []⟩))
 (.ret (.t [.c (.s 16 1 0 (.num 0) (.num 20)), .c (.i .i64 (.num 0))], ⟨[], [(16, some ⟨true, .row [.u8] (.cons (.c2 .fdiv (.var 0) (.num 256)) (.cons (.c2 .sub (.var 0) (.c2 .mul (.c2 .fdiv (.var 0) (.num 256)) (.num 256))) (.cons (.c2 .fdiv (.var 1) (.num 256)) (.cons (.c2 .sub (.var 1) (.c2 .mul (.c2 .fdiv (.var 1) (.num 256)) (.num 256))) (.cons (.c2 .fdiv (.c2 .fdiv (.c2 .fdiv (.var 2) (.num 256)) (.num 256)) (.num 256)) (.cons (.c2 .sub (.c2 .fdiv (.c2 .fdiv (.var 2) (.num 256)) (.num 256)) (.c2 .mul (.c2 .fdiv (.c2 .fdiv (.c2 .fdiv (.var 2) (.num 256)) (.num 256)) (.num 256)) (.num 256))) (.cons (.c2 .sub (.c2 .fdiv (.var 2) (.num 256)) (.c2 .mul (.c2 .fdiv (.c2 .fdiv (.var 2) (.num 256)) (.num 256)) (.num 256))) (.cons (.c2 .sub (.var 2) (.c2 .mul (.c2 .fdiv (.var 2) (.num 256)) (.num 256))) (.cons (.c2 .fdiv (.c2 .fdiv (.c2 .fdiv (.var 3) (.num 256)) (.num 256)) (.num 256)) (.cons (.c2 .sub (.c2 .fdiv (.c2 .fdiv (.var 3) (.num 256)) (.num 256)) (.c2 .mul (.c2 .fdiv (.c2 .fdiv (.c2 .fdiv (.var 3) (.num 256)) (.num 256)) (.num 256)) (.num 256))) (.cons (.c2 .sub (.c2 .fdiv (.var 3) (.num 256)) (.c2 .mul (.c2 .fdiv (.c2 .fdiv (.var 3) (.num 256)) (.num 256)) (.num 256))) (.cons (.c2 .sub (.var 3) (.c2 .mul (.c2 .fdiv (.var 3) (.num 256)) (.num 256))) (.cons (.c2 .fdiv (.c2 .add (.num 20480) (.var 4)) (.num 256)) (.cons (.c2 .sub (.c2 .add (.num 20480) (.var 4)) (.c2 .mul (.c2 .fdiv (.c2 .add (.num 20480) (.var 4)) (.num 256)) (.num 256))) (.cons (.c2 .fdiv (.var 5) (.num 256)) (.cons (.c2 .sub (.var 5) (.c2 .mul (.c2 .fdiv (.var 5) (.num 256)) (.num 256))) (.cons (.c2 .fdiv (.c2 .sub (.num 65535) (.wr .u16 (.fn 1 (.cons (.c2 .fdiv (.var 0) (.num 256)) (.cons (.c2 .sub (.var 0) (.c2 .mul (.c2 .fdiv (.var 0) (.num 256)) (.num 256))) (.cons (.c2 .fdiv (.var 1) (.num 256)) (.cons (.c2 .sub (.var 1) (.c2 .mul (.c2 .fdiv (.var 1) (.num 256)) (.num 256))) (.cons (.c2 .fdiv (.c2 .fdiv (.c2 .fdiv (.var 2) (.num 256)) (.num 256)) (.num 256)) (.cons (.c2 .sub (.c2 .fdiv (.c2 .fdiv (.var 2) (.num 256)) (.num 256)) (.c2 .mul (.c2 .fdiv (.c2 .fdiv (.c2 .fdiv (.var 2) (.num 256)) (.num 256)) (.num 256)) (.num 256))) (.cons (.c2 .sub (.c2 .fdiv (.var 2) (.num 256)) (.c2 .mul (.c2 .fdiv (.c2 .fdiv (.var 2) (.num 256)) (.num 256)) (.num 256))) (.cons (.c2 .sub (.var 2) (.c2 .mul (.c2 .fdiv (.var 2) (.num 256)) (.num 256))) (.cons (.c2 .fdiv (.c2 .fdiv (.c2 .fdiv (.var 3) (.num 256)) (.num 256)) (.num 256)) (.cons (.c2 .sub (.c2 .fdiv (.c2 .fdiv (.var 3) (.num 256)) (.num 256)) (.c2 .mul (.c2 .fdiv (.c2 .fdiv (.c2 .fdiv (.var 3) (.num 256)) (.num 256)) (.num 256)) (.num 256))) (.cons (.c2 .sub (.c2 .fdiv (.var 3) (.num 256)) (.c2 .mul (.c2 .fdiv (.c2 .fdiv (.var 3) (.num 256)) (.num 256)) (.num 256))) (.cons (.c2 .sub (.var 3) (.c2 .mul (.c2 .fdiv (.var 3) (.num 256)) (.num 256))) (.cons (.c2 .fdiv (.c2 .add (.num 20480) (.var 4)) (.num 256)) (.cons (.c2 .sub (.c2 .add (.num 20480) (.var 4)) (.c2 .mul (.c2 .fdiv (.c2 .add (.num 20480) (.var 4)) (.num 256)) (.num 256))) (.cons (.c2 .fdiv (.var 5) (.num 256)) (.cons (.c2 .sub (.var 5) (.c2 .mul (.c2 .fdiv (.var 5) (.num 256)) (.num 256))) (.cons (.num 0) (.cons (.num 0) (.cons (.num 0) (.cons (.num 0) (.var 6))))))))))))))))))))) .nil .nil))) (.num 256)) (.cons (.c2 .sub (.c2 .sub (.num 65535) (.wr .u16 (.fn 1 (.cons (.c2 .fdiv (.var 0) (.num 256)) (.cons (.c2 .sub (.var 0) (.c2 .mul (.c2 .fdiv (.var 0) (.num 256)) (.num 256))) (.cons (.c2 .fdiv (.var 1) (.num 256)) (.cons (.c2 .sub (.var 1) (.c2 .mul (.c2 .fdiv (.var 1) (.num 256)) (.num 256))) (.cons (.c2 .fdiv (.c2 .fdiv (.c2 .fdiv (.var 2) (.num 256)) (.num 256)) (.num 256)) (.cons (.c2 .sub (.c2 .fdiv (.c2 .fdiv (.var 2) (.num 256)) (.num 256)) (.c2 .mul (.c2 .fdiv (.c2 .fdiv (.c2 .fdiv (.var 2) (.num 256)) (.num 256)) (.num 256)) (.num 256))) (.cons (.c2 .sub (.c2 .fdiv (.var 2) (.num 256)) (.c2 .mul (.c2 .fdiv (.c2 .fdiv (.var 2) (.num 256)) (.num 256)) (.num 256))) (.cons (.c2 .sub (.var 2) (.c2 .mul (.c2 .fdiv (.var 2) (.num 256)) (.num 256))) (.cons (.c2 .fdiv (.c2 .fdiv (.c2 .fdiv (.var 3) (.num 256)) (.num 256)) (.num 256)) (.cons (.c2 .sub (.c2 .fdiv (.c2 .fdiv (.var 3) (.num 256)) (.num 256)) (.c2 .mul (.c2 .fdiv (.c2 .fdiv (.c2 .fdiv (.var 3) (.num 256)) (.num 256)) (.num 256)) (.num 256))) (.cons (.c2 .sub (.c2 .fdiv (.var 3) (.num 256)) (.c2 .mul (.c2 .fdiv (.c2 .fdiv (.var 3) (.num 256)) (.num 256)) (.num 256))) (.cons (.c2 .sub (.var 3) (.c2 .mul (.c2 .fdiv (.var 3) (.num 256)) (.num 256))) (.cons (.c2 .fdiv (.c2 .add (.num 20480) (.var 4)) (.num 256)) (.cons (.c2 .sub (.c2 .add (.num 20480) (.var 4)) (.c2 .mul (.c2 .fdiv (.c2 .add (.num 20480) (.var 4)) (.num 256)) (.num 256))) (.cons (.c2 .fdiv (.var 5) (.num 256)) (.cons (.c2 .sub (.var 5) (.c2 .mul (.c2 .fdiv (.var 5) (.num 256)) (.num 256))) (.cons (.num 0) (.cons (.num 0) (.cons (.num 0) (.cons (.num 0) (.var 6))))))))))))))))))))) .nil .nil))) (.c2 .mul (.c2 .fdiv (.c2 .sub (.num 65535) (.wr .u16 (.fn 1 (.cons (.c2 .fdiv (.var 0) (.num 256)) (.cons (.c2 .sub (.var 0) (.c2 .mul (.c2 .fdiv (.var 0) (.num 256)) (.num 256))) (.cons (.c2 .fdiv (.var 1) (.num 256)) (.cons (.c2 .sub (.var 1) (.c2 .mul (.c2 .fdiv (.var 1) (.num 256)) (.num 256))) (.cons (.c2 .fdiv (.c2 .fdiv (.c2 .fdiv (.var 2) (.num 256)) (.num 256)) (.num 256)) (.cons (.c2 .sub (.c2 .fdiv (.c2 .fdiv (.var 2) (.num 256)) (.num 256)) (.c2 .mul (.c2 .fdiv (.c2 .fdiv (.c2 .fdiv (.var 2) (.num 256)) (.num 256)) (.num 256)) (.num 256))) (.cons (.c2 .sub (.c2 .fdiv (.var 2) (.num 256)) (.c2 .mul (.c2 .fdiv (.c2 .fdiv (.var 2) (.num 256)) (.num 256)) (.num 256))) (.cons (.c2 .sub (.var 2) (.c2 .mul (.c2 .fdiv (.var 2) (.num 256)) (.num 256))) (.cons (.c2 .fdiv (.c2 .fdiv (.c2 .fdiv (.var 3) (.num 256)) (.num 256)) (.num 256)) (.cons (.c2 .sub (.c2 .fdiv (.c2 .fdiv (.var 3) (.num 256)) (.num 256)) (.c2 .mul (.c2 .fdiv (.c2 .fdiv (.c2 .fdiv (.var 3) (.num 256)) (.num 256)) (.num 256)) (.num 256))) (.cons (.c2 .sub (.c2 .fdiv (.var 3) (.num 256)) (.c2 .mul (.c2 .fdiv (.c2 .fdiv (.var 3) (.num 256)) (.num 256)) (.num 256))) (.cons (.c2 .sub (.var 3) (.c2 .mul (.c2 .fdiv (.var 3) (.num 256)) (.num 256))) (.cons (.c2 .fdiv (.c2 .add (.num 20480) (.var 4)) (.num 256)) (.cons (.c2 .sub (.c2 .add (.num 20480) (.var 4)) (.c2 .mul (.c2 .fdiv (.c2 .add (.num 20480) (.var 4)) (.num 256)) (.num 256))) (.cons (.c2 .fdiv (.var 5) (.num 256)) (.cons (.c2 .sub (.var 5) (.c2 .mul (.c2 .fdiv (.var 5) (.num 256)) (.num 256))) (.cons (.num 0) (.cons (.num 0) (.cons (.num 0) (.cons (.num 0) (.var 6))))))))))))))))))))) .nil .nil))) (.num 256)) (.num 256))) (.cons (.num 0) (.cons (.num 0) .nil))))))))))))))))))))⟩)], 20, 7, []⟩))))
theorem treeWrSeg_is : funTree (ctxN Go.Proofs.Tryz.prog annsHd consSum 8) annsHd 65 (tBytes 5 16 60 20 kSeg).vs (tBytes 5 16 60 20 kSeg).bs (tBytes 5 16 60 20 kSeg).n (preF (tBytes 5 16 60 20 kSeg).res) = treeWrSeg := by kernel_rfl
end Go.Proofs.YtfhjlimdakphcaaGreat.Sx
set_option linter.unusedVariables false
set_option linter.unusedSimpArgs false
namespace Go.Proofs.YtfhjlimdakphcaaGreat.Sx
open Go
set_option maxRecDepth 100000 in
theorem wdSeg_ok {Φ : Sig} (hΦ : HdSig Φ) : TmplOk Go.Proofs.Tryz.prog Φ 135 (tBytes 5 3 60 20 kSeg) := by
 refine tmpl_of (consSum_ok hΦ.toSumSig) treeWdSeg_is (fun ρ res hres => ⟨eqJ, ?_⟩)
 obtain ⟨hk, hres⟩ := inKs_some hres
 obtain ⟨h0, hres⟩ := short_some hres
 obtain ⟨hb, hres⟩ := bytes_some hres
 have hr := wr_res (n := 6) hΦ ⟨by decide, by decide⟩ hres
 have h0' : (ρ 6).list.length ≤ 140737488351232 := h0
 have hb' : Bytes (ρ 6).list := hb
 have a0 : (hdrOf Φ ρ 6)[0]?.getD 0 = (ρ 0).int := hdr_at 6 0 (by decide)
 have a1 : (hdrOf Φ ρ 6)[1]?.getD 0 = (ρ 1).int := hdr_at 6 1 (by decide)
 have a2 : (hdrOf Φ ρ 6)[2]?.getD 0 = (ρ 2).int := hdr_at 6 2 (by decide)
 have a3 : (hdrOf Φ ρ 6)[3]?.getD 0 = (ρ 3).int := hdr_at 6 3 (by decide)
 have a4 : (hdrOf Φ ρ 6)[4]?.getD 0 = (ρ 4).int := hdr_at 6 4 (by decide)
 have a5 : (hdrOf Φ ρ 6)[5]?.getD 0 = (ρ 5).int := hdr_at 6 5 (by decide)
 have b0 := hk 0 .u16 rfl
 have b1 := hk 1 .u16 rfl
 have b2 := hk 2 .u32 rfl
 have b3 := hk 3 .u32 rfl
 have b4 := hk 4 .u8 rfl
 have b5 := hk 5 .u16 rfl
 simp only [kmin, kmax, Nat.zero_add] at b0 b1 b2 b3 b4 b5
 have n1 : ∀ x : Int, x / 65536 / 256 = x / 16777216 := fun x => by omega
 have n2 : ∀ x : Int, (x - x / 65536 * 65536) / 256 = x / 256 % 256 := fun x => by omega
 have n3 : ∀ x : Int, (x - x / 65536 * 65536) % 256 = x % 256 := fun x => by omega
 have n4 : ∀ x : Int, x / 65536 - x / 16777216 * 256 = x / 65536 % 256 := fun x => by omega
 have n5 : ∀ x : Int, x - x / 65536 * 65536 - x / 256 % 256 * 256 = x % 256 := fun x => by omega
 have n6 : ∀ x : Int, x / 256 / 256 = x / 65536 := fun x => by omega
 have n7 : ∀ x : Int, x / 256 - x / 65536 * 256 = x / 256 % 256 := fun x => by omega
 have m1 : ∀ x : Int, x - x / 256 * 256 = x % 256 := fun x => by omega
 have hB : 0 ≤ wsum (wrBase 5 (hdrOf Φ ρ 6) (ρ 6).list) := by simp only [wrBase, wsum, g, a0, a1, a2, a3, a4, a5]; omega
 have hS : ocs (ocs (wsum (wrBase 5 (hdrOf Φ ρ 6) (ρ 6).list)) + ocs (wsum (ρ 6).list)) = ocs (wsum (wrBase 5 (hdrOf Φ ρ 6) (ρ 6).list ++ (ρ 6).list)) := by rw [ocs_two hB (wsum_range hb').1, wsum_app _ _ (by simp [wrBase])]
 simp only [wrBase, g, a0, a1, a2, a3, a4, a5, List.cons_append, List.nil_append] at hS
 have hR := ocs_range (wsum (wrBase 5 (hdrOf Φ ρ 6) (ρ 6).list ++ (ρ 6).list))
 simp only [wrBase, g, a0, a1, a2, a3, a4, a5, List.cons_append, List.nil_append] at hR
 refine ⟨fun c1 => ?_, fun c1 => ?_⟩
 · simp [hΦ.sum, hΦ.ocs, wrap_ocs, m1, hS] at c1
   have hz : wrFail 5 (hdrOf Φ ρ 6) (ρ 6).list = 90 := by
     simp only [wrFail, g, a0, a1, a2, a3, a4, a5]
     repeat' split
     all_goals first | rfl | omega
   exact leaf_wr_err hr hz (by decide) (by decide)
 · refine ⟨fun c2 => ?_, fun c2 => ?_⟩
   · simp [hΦ.sum, hΦ.ocs, wrap_ocs, m1, hS] at c1 c2
     have hz : wrFail 5 (hdrOf Φ ρ 6) (ρ 6).list = 5 := by
       simp only [wrFail, g, a0, a1, a2, a3, a4, a5]
       repeat' split
       all_goals first | rfl | omega
     exact leaf_wr_err hr hz (by decide) (by decide)
   · simp [hΦ.sum, hΦ.ocs, wrap_ocs, m1, hS] at c1 c2
     have hz : wrFail 5 (hdrOf Φ ρ 6) (ρ 6).list = 0 := by
       simp only [wrFail, g, a0, a1, a2, a3, a4, a5]
       repeat' split
       all_goals first | rfl | omega
     have q1 : (20480 + (ρ 4).int) / 256 = 80 := by omega
     have q2 : (20480 + (ρ 4).int) % 256 = (ρ 4).int := by omega
     have q3 : 20480 + (ρ 4).int - 80 * 256 = (ρ 4).int := by omega
     refine leaf_wr_ok hr hz ?_ rfl (by decide)
     simp only [list_cons, list_nil, int_add, int_sub, int_mul, int_fdiv, int_len, den_var, den_num, D.int_i, fdiv_lit, m1, n1, n2, n3, n4, n5, q1, q2, q3, int_wr, den_fn, hΦ.sum, hΦ.ocs, wrap_ocs, hS, wrGood, wrBase, putF, fld, fld1, List.set_cons_succ, List.set_cons_zero, List.cons_append, List.nil_append, g, a0, a1, a2, a3, a4, a5]
     all_goals try simp only [List.cons.injEq, and_true, true_and]
     all_goals repeat' apply And.intro
     all_goals first | rfl | omega
set_option maxRecDepth 100000 in
theorem wrSeg_ok {Φ : Sig} (hΦ : HdSig Φ) : TmplOk Go.Proofs.Tryz.prog Φ 65 (tBytes 5 16 60 20 kSeg) := by
 refine tmpl_of (consSum_ok hΦ.toSumSig) treeWrSeg_is (fun ρ res hres => ⟨eqJ, ?_⟩)
 obtain ⟨hk, hres⟩ := inKs_some hres
 obtain ⟨h0, hres⟩ := short_some hres
 obtain ⟨hb, hres⟩ := bytes_some hres
 have hr := wr_res (n := 6) hΦ ⟨by decide, by decide⟩ hres
 have h0' : (ρ 6).list.length ≤ 140737488351232 := h0
 have hb' : Bytes (ρ 6).list := hb
 have a0 : (hdrOf Φ ρ 6)[0]?.getD 0 = (ρ 0).int := hdr_at 6 0 (by decide)
 have a1 : (hdrOf Φ ρ 6)[1]?.getD 0 = (ρ 1).int := hdr_at 6 1 (by decide)
 have a2 : (hdrOf Φ ρ 6)[2]?.getD 0 = (ρ 2).int := hdr_at 6 2 (by decide)
 have a3 : (hdrOf Φ ρ 6)[3]?.getD 0 = (ρ 3).int := hdr_at 6 3 (by decide)
 have a4 : (hdrOf Φ ρ 6)[4]?.getD 0 = (ρ 4).int := hdr_at 6 4 (by decide)
 have a5 : (hdrOf Φ ρ 6)[5]?.getD 0 = (ρ 5).int := hdr_at 6 5 (by decide)
 have b0 := hk 0 .u16 rfl
 have b1 := hk 1 .u16 rfl
 have b2 := hk 2 .u32 rfl
 have b3 := hk 3 .u32 rfl
 have b4 := hk 4 .u8 rfl
 have b5 := hk 5 .u16 rfl
 simp only [kmin, kmax, Nat.zero_add] at b0 b1 b2 b3 b4 b5
 have n1 : ∀ x : Int, x / 65536 / 256 = x / 16777216 := fun x => by omega
 have n2 : ∀ x : Int, (x - x / 65536 * 65536) / 256 = x / 256 % 256 := fun x => by omega
 have n3 : ∀ x : Int, (x - x / 65536 * 65536) % 256 = x % 256 := fun x => by omega
 have n4 : ∀ x : Int, x / 65536 - x / 16777216 * 256 = x / 65536 % 256 := fun x => by omega
 have n5 : ∀ x : Int, x - x / 65536 * 65536 - x / 256 % 256 * 256 = x % 256 := fun x => by omega
 have n6 : ∀ x : Int, x / 256 / 256 = x / 65536 := fun x => by omega
 have n7 : ∀ x : Int, x / 256 - x / 65536 * 256 = x / 256 % 256 := fun x => by omega
 have m1 : ∀ x : Int, x - x / 256 * 256 = x % 256 := fun x => by omega
 have hB : 0 ≤ wsum (wrBase 5 (hdrOf Φ ρ 6) (ρ 6).list) := by simp only [wrBase, wsum, g, a0, a1, a2, a3, a4, a5]; omega
 have hS : ocs (ocs (wsum (wrBase 5 (hdrOf Φ ρ 6) (ρ 6).list)) + ocs (wsum (ρ 6).list)) = ocs (wsum (wrBase 5 (hdrOf Φ ρ 6) (ρ 6).list ++ (ρ 6).list)) := by rw [ocs_two hB (wsum_range hb').1, wsum_app _ _ (by simp [wrBase])]
 simp only [wrBase, g, a0, a1, a2, a3, a4, a5, List.cons_append, List.nil_append] at hS
 have hR := ocs_range (wsum (wrBase 5 (hdrOf Φ ρ 6) (ρ 6).list ++ (ρ 6).list))
 simp only [wrBase, g, a0, a1, a2, a3, a4, a5, List.cons_append, List.nil_append] at hR
 refine ⟨fun c1 => ?_, fun c1 => ?_⟩
 · simp [hΦ.sum, hΦ.ocs, wrap_ocs, m1, hS] at c1
   have hz : wrFail 5 (hdrOf Φ ρ 6) (ρ 6).list = 90 := by
     simp only [wrFail, g, a0, a1, a2, a3, a4, a5]
     repeat' split
     all_goals first | rfl | omega
   exact leaf_wr_err hr hz (by decide) (by decide)
 · refine ⟨fun c2 => ?_, fun c2 => ?_⟩
   · simp [hΦ.sum, hΦ.ocs, wrap_ocs, m1, hS] at c1 c2
     have hz : wrFail 5 (hdrOf Φ ρ 6) (ρ 6).list = 5 := by
       simp only [wrFail, g, a0, a1, a2, a3, a4, a5]
       repeat' split
       all_goals first | rfl | omega
     exact leaf_wr_err hr hz (by decide) (by decide)
   · simp [hΦ.sum, hΦ.ocs, wrap_ocs, m1, hS] at c1 c2
     have hz : wrFail 5 (hdrOf Φ ρ 6) (ρ 6).list = 0 := by
       simp only [wrFail, g, a0, a1, a2, a3, a4, a5]
       repeat' split
       all_goals first | rfl | omega
     have q1 : (20480 + (ρ 4).int) / 256 = 80 := by omega
     have q2 : (20480 + (ρ 4).int) % 256 = (ρ 4).int := by omega
     have q3 : 20480 + (ρ 4).int - 80 * 256 = (ρ 4).int := by omega
     refine leaf_wr_ok hr hz ?_ rfl (by decide)
     simp only [list_cons, list_nil, int_add, int_sub, int_mul, int_fdiv, int_len, den_var, den_num, D.int_i, fdiv_lit, m1, n1, n2, n3, n4, n5, q1, q2, q3, n6, n7, int_wr, den_fn, hΦ.sum, hΦ.ocs, wrap_ocs, hS, wrGood, wrBase, putF, fld, fld1, List.set_cons_succ, List.set_cons_zero, List.cons_append, List.nil_append, g, a0, a1, a2, a3, a4, a5]
     all_goals try simp only [List.cons.injEq, and_true, true_and]
     all_goals repeat' apply And.intro
     all_goals first | rfl | omega
end Go.Proofs.YtfhjlimdakphcaaGreat.Sx
set_option maxRecDepth 100000
namespace Go.Proofs.YtfhjlimdakphcaaGreat.Sx
open Go
def treeWdDgram : M (V × St) :=
(.split (.c2 .lt (.num 2040) (.c1 .len (.var 2)))
 (.ret (.t [.c (.sn), .c (.i .i64 (.num 5))], ⟨[], [], 3, 3, []⟩))
 (.split (.c1 .not (.c2 .eq (.c2 .sub (.num 65535) (.wr .u16 (.fn 2 (.c2 .add (.wr .u16 (.fn 1 (.cons (.c2 .fdiv (.var 0) (.num 256)) (.cons (.c2 .sub (.var 0) (.c2 .mul (.c2 .fdiv (.var 0) (.num 256)) (.num 256))) (.cons (.c2 .fdiv (.var 1) (.num 256)) (.cons (.c2 .sub (.var 1) (.c2 .mul (.c2 .fdiv (.var 1) (.num 256)) (.num 256))) (.cons (.c2 .fdiv (.c2 .add (.num 8) (.c1 .len (.var 2))) (.num 256)) (.cons (.c2 .sub (.c2 .add (.num 8) (.c1 .len (.var 2))) (.c2 .mul (.c2 .fdiv (.c2 .add (.num 8) (.c1 .len (.var 2))) (.num 256)) (.num 256))) (.cons (.num 0) (.cons (.num 0) .nil)))))))) .nil .nil)) (.wr .u16 (.fn 1 (.var 2) .nil .nil))) .nil .nil))) (.num 0)))
 (.ret (.t [.c (.s 3 1 0 (.num 0) (.num 8)), .c (.i .i64 (.num 0))], ⟨[], [(3, some ⟨true, .row [.u8] (.cons (.c2 .fdiv (.var 0) (.num 256)) (.cons (.c2 .sub (.var 0) (.c2 .mul (.c2 .fdiv (.var 0) (.num 256)) (.num 256))) (.cons (.c2 .fdiv (.var 1) (.num 256)) (.cons (.c2 .sub (.var 1) (.c2 .mul (.c2 .fdiv (.var 1) (.num 256)) (.num 256))) (.cons (.c2 .fdiv (.c2 .add (.num 8) (.c1 .len (.var 2))) (.num 256)) (.cons (.c2 .sub (.c2 .add (.num 8) (.c1 .len (.var 2))) (.c2 .mul (.c2 .fdiv (.c2 .add (.num 8) (.c1 .len (.var 2))) (.num 256)) (.num 256))) (.cons (.c2 .fdiv (.c2 .sub (.num 65535) (.wr .u16 (.fn 2 (.c2 .add (.wr .u16 (.fn 1 (.cons (.c2 .fdiv (.var 0) (.num 256)) (.cons (.c2 .sub (.var 0) (.c2 .mul (.c2 .fdiv (.var 0) (.num 256)) (.num 256))) (.cons (.c2 .fdiv (.var 1) (.num 256)) (.cons (.c2 .sub (.var 1) (.c2 .mul (.c2 .fdiv (.var 1) (.num 256)) (.num 256))) (.cons (.c2 .fdiv (.c2 .add (.num 8) (.c1 .len (.var 2))) (.num 256)) (.cons (.c2 .sub (.c2 .add (.num 8) (.c1 .len (.var 2))) (.c2 .mul (.c2 .fdiv (.c2 .add (.num 8) (.c1 .len (.var 2))) (.num 256)) (.num 256))) (.cons (.num 0) (.cons (.num 0) .nil)))))))) .nil .nil)) (.wr .u16 (.fn 1 (.var 2) .nil .nil))) .nil .nil))) (.num 256)) (.cons (.c2 .sub (.c2 .sub (.num 65535) (.wr .u16 (.fn 2 (.c2 .add (.wr .u16 (.fn 1 (.cons (.c2 .fdiv (.var 0) (.num 256)) (.cons (.c2 .sub (.var 0) (.c2 .mul (.c2 .fdiv (.var 0) (.num 256)) (.num 256))) (.cons (.c2 .fdiv (.var 1) (.num 256)) (.cons (.c2 .sub (.var 1) (.c2 .mul (.c2 .fdiv (.var 1) (.num 256)) (.num 256))) (.cons (.c2 .fdiv (.c2 .add (.num 8) (.c1 .len (.var 2))) (.num 256)) (.cons (.c2 .sub (.c2 .add (.num 8) (.c1 .len (.var 2))) (.c2 .mul (.c2 .fdiv (.c2 .add (.num 8) (.c1 .len (.var 2))) (.num 256)) (.num 256))) (.cons (.num 0) (.cons (.num 0) .nil)))))))) .nil .nil)) (.wr .u16 (.fn 1 (.var 2) .nil .nil))) .nil .nil))) (.c2 .mul (.c2 .fdiv (.c2 .sub (.num 65535) (.wr .u16 (.fn 2 (.c2 .add (.wr .u16 (.fn 1 (.cons (.c2 .fdiv (.var 0) (.num 256)) (.cons (.c2 .sub (.var 0) (.c2 .mul (.c2 .fdiv (.var 0) (.num 256)) (.num 256))) (.cons (.c2 .fdiv (.var 1) (.num 256)) (.cons (.c2 .sub (.var 1) (.c2 .mul (.c2 .fdiv (.var 1) (.num 256)) (.num 256))) (.cons (.c2 .fdiv (.c2 .add (.num 8) (.c1 .len (.var 2))) (.num 256)) (.cons (.c2 .sub (.c2 .add (.num 8) (.c1 .len (.var 2))) (.c2 .mul (.c2 .fdiv (.c2 .add (.num 8) (.c1 .len (.var 2))) (.num 256)) (.num 256))) (.cons (.num 0) (.cons (.num 0) .nil)))))))) .nil .nil)) (.wr .u16 (.fn 1 (.var 2) .nil .nil))) .nil .nil))) (.num 256)) (.num 256))) .nil))))))))⟩)], 6, 3, []⟩))
 (.ret (.t [.c (.s 3 1 0 (.num 0) (.num 8)), .c (.i .i64 (.num 0))], ⟨[], [(3, some ⟨true, .row [.u8] (.cons (.c2 .fdiv (.var 0) (.num 256)) (.cons (.c2 .sub (.var 0) (.c2 .mul (.c2 .fdiv (.var 0) (.num 256)) (.num 256))) (.cons (.c2 .fdiv (.var 1) (.num 256)) (.cons (.c2 .sub (.var 1) (.c2 .mul (.c2 .fdiv (.var 1) (.num 256)) (.num 256))) (.cons (.c2 .fdiv (.c2 .add (.num 8) (.c1 .len (.var 2))) (.num 256)) (.cons (.c2 .sub (.c2 .add (.num 8) (.c1 .len (.var 2))) (.c2 .mul (.c2 .fdiv (.c2 .add (.num 8) (.c1 .len (.var 2))) (.num 256)) (.num 256))) (.cons (.num 255) (.cons (.num 255) .nil))))))))⟩)], 6, 3, []⟩))))
theorem treeWdDgram_is : funTree (ctxN Go.Proofs.Tryz.prog annsHd consSum 8) annsHd 141 (tBytes 6 3 60 8 kDgram).vs (tBytes 6 3 60 8 kDgram).bs (tBytes 6 3 60 8 kDgram).n (preF (tBytes 6 3 60 8 kDgram).res) = treeWdDgram := by kernel_rfl
end Go.Proofs.YtfhjlimdakphcaaGreat.Sx
set_option maxRecDepth 100000
namespace Go.Proofs.YtfhjlimdakphcaaGreat.Sx
open Go
def treeWrDgram : M (V × St) :=
(.split (.c2 .lt (.num 2040) (.c1 .len (.var 2)))
 (.ret (.t [.c (.sn), .c (.i .i64 (.num 5))], ⟨[], [], 3, 3, []⟩))
 (.split (.c2 .eq (.c2 .sub (.num 65535) (.wr .u16 (.fn 1 (.cons (.c2 .fdiv (.var 0) (.num 256)) (.cons (.c2 .sub (.var 0) (.c2 .mul (.c2 .fdiv (.var 0) (.num 256)) (.num 256))) (.cons (.c2 .fdiv (.var 1) (.num 256)) (.cons (.c2 .sub (.var 1) (.c2 .mul (.c2 .fdiv (.var 1) (.num 256)) (.num 256))) (.cons (.c2 .fdiv (.c2 .add (.num 8) (.c1 .len (.var 2))) (.num 256)) (.cons (.c2 .sub (.c2 .add (.num 8) (.c1 .len (.var 2))) (.c2 .mul (.c2 .fdiv (.c2 .add (.num 8) (.c1 .len (.var 2))) (.num 256)) (.num 256))) (.cons (.num 0) (.cons (.num 0) (.var 2))))))))) .nil .nil))) (.num 0))
 (.ret (.t [.c (.s 10 1 0 (.num 0) (.num 8)), .c (.i .i64 (.num 0))], ⟨[], [(10, some ⟨true, .row [.u8] (.cons (.c2 .fdiv (.var 0) (.num 256)) (.cons (.c2 .sub (.var 0) (.c2 .mul (.c2 .fdiv (.var 0) (.num 256)) (.num 256))) (.cons (.c2 .fdiv (.var 1) (.num 256)) (.cons (.c2 .sub (.var 1) (.c2 .mul (.c2 .fdiv (.var 1) (.num 256)) (.num 256))) (.cons (.c2 .fdiv (.c2 .add (.num 8) (.c1 .len (.var 2))) (.num 256)) (.cons (.c2 .sub (.c2 .add (.num 8) (.c1 .len (.var 2))) (.c2 .mul (.c2 .fdiv (.c2 .add (.num 8) (.c1 .len (.var 2))) (.num 256)) (.num 256))) (.cons (.num 255) (.cons (.num 255) .nil))))))))⟩)], 14, 3, []⟩))
 (.ret (.t [.c (.s 10 1 0 (.num 0) (.num 8)), .c (.i .i64 (.num 0))], ⟨[], [(10, some ⟨true, .row [.u8] (.cons (.c2 .fdiv (.var 0) (.num 256)) (.cons (.c2 .sub (.var 0) (.c2 .mul (.c2 .fdiv (.var 0) (.num 256)) (.num 256))) (.cons (.c2 .fdiv (.var 1) (.num 256)) (.cons (.c2 .sub (.var 1) (.c2 .mul (.c2 .fdiv (.var 1) (.num 256)) (.num 256))) (.cons (.c2 .fdiv (.c2 .add (.num 8) (.c1 .len (.var 2))) (.num 256)) (.cons (.c2 .sub (.c2 .add (.num 8) (.c1 .len (.var 2))) (.c2 .mul (.c2 .fdiv (.c2 .add (.num 8) (.c1 .len (.var 2))) (.num 256)) (.num 256))) (.cons (.c2 .fdiv (.c2 .sub (.num 65535) (.wr .u16 (.fn 1 (.cons (.c2 .fdiv (.var 0) (.num 256)) (.cons (.c2 .sub (.var 0) (.c2 .mul (.c2 .fdiv (.var 0) (.num 256)) (.num 256))) (.cons (.c2 .fdiv (.var 1) (.num 256)) (.cons (.c2 .sub (.var 1) (.c2 .mul (.c2 .fdiv (.var 1) (.num 256)) (.num 256))) (.cons (.c2 .fdiv (.c2 .add (.num 8) (.c1 .len (.var 2))) (.num 256)) (.cons (.c2 .sub (.c2 .add (.num 8) (.c1 .len (.var 2))) (.c2 .mul (.c2 .fdiv (.c2 .add (.num 8) (.c1 .len (.var 2))) (.num 256)) (.num 256))) (.cons (.num 0) (.cons (.num 0) (.var 2))))))))) .nil .nil))) (.num 256)) (.cons (.c2 .sub (.c2 .sub (.num 65535) (.wr .u16 (.fn 1 (.cons (.c2 .fdiv (.var 0) (.num 256)) (.cons (.c2 .sub (.var 0) (.c2 .mul (.c2 .fdiv (.var 0) (.num 256)) (.num 256))) (.cons (.c2 .fdiv (.var 1) (.num 256)) (.cons (.c2 .sub (.var 1) (.c2 .mul (.c2 .fdiv (.var 1) (.num 256)) (.num 256))) (.cons (.c2 .fdiv (.c2 .add (.num 8) (.c1 .len (.var 2))) (.num 256)) (.cons (.c2 .sub (.c2 .add (.num 8) (.c1 .len (.var 2))) (.c2 .mul (.c2 .fdiv (.c2 .add (.num 8) (.c1 .len (.var 2))) (.num 256)) (.num 256))) (.cons (.num 0) (.cons (.num 0) (.var 2))))))))) .nil .nil))) (.c2 .mul (.c2 .fdiv (.c2 .sub (.num 65535) (.wr .u16 (.fn 1 (.cons (.c2 .fdiv (.var 0) (.num 256)) (.cons (.c2 .sub (.var 0) (.c2 .mul (.c2 .fdiv (.var 0) (.num 256)) (.num 256))) (.cons (.c2 .fdiv (.var 1) (.num 256)) (.cons (.c2 .sub (.var 1) (.c2 .mul (.c2 .fdiv (.var 1) (.num 256)) (.num 256))) (.cons (.c2 .fdiv (.c2 .add (.num 8) (.c1 .len (.var 2))) (.num 256)) (.cons (.c2 .sub (.c2 .add (.num 8) (.c1 .len (.var 2))) (.c2 .mul (.c2 .fdiv (.c2 .add (.num 8) (.c1 .len (.var 2))) (.num 256)) (.num 256))) (.cons (.num 0) (.cons (.num 0) (.var 2))))))))) .nil .nil))) (.num 256)) (.num 256))) .nil))))))))⟩)], 14, 3, []⟩))))
theorem treeWrDgram_is : funTree (ctxN Go.Proofs.Tryz.prog annsHd consSum 8) annsHd 66 (tBytes 6 10 60 8 kDgram).vs (tBytes 6 10 60 8 kDgram).bs (tBytes 6 10 60 8 kDgram).n (preF (tBytes 6 10 60 8 kDgram).res) = treeWrDgram := by kernel_rfl
end Go.Proofs.YtfhjlimdakphcaaGreat.Sx
set_option linter.unusedVariables false
set_option linter.unusedSimpArgs false
namespace Go.Proofs.YtfhjlimdakphcaaGreat.Sx
open Go
set_option maxRecDepth 100000 in
theorem wdDgram_ok {Φ : Sig} (hΦ : HdSig Φ) : TmplOk Go.Proofs.Tryz.prog Φ 141 (tBytes 6 3 60 8 kDgram) := by
 refine tmpl_of (consSum_ok hΦ.toSumSig) treeWdDgram_is (fun ρ res hres => ⟨eqJ, ?_⟩)
 obtain ⟨hk, hres⟩ := inKs_some hres
 obtain ⟨h0, hres⟩ := short_some hres
 obtain ⟨hb, hres⟩ := bytes_some hres
 have hr := wr_res (n := 2) hΦ ⟨by decide, by decide⟩ hres
 have h0' : (ρ 2).list.length ≤ 140737488351232 := h0
 have hb' : Bytes (ρ 2).list := hb
 have a0 : (hdrOf Φ ρ 2)[0]?.getD 0 = (ρ 0).int := hdr_at 2 0 (by decide)
 have a1 : (hdrOf Φ ρ 2)[1]?.getD 0 = (ρ 1).int := hdr_at 2 1 (by decide)
 have b0 := hk 0 .u16 rfl
 have b1 := hk 1 .u16 rfl
 simp only [kmin, kmax, Nat.zero_add] at b0 b1
 have m1 : ∀ x : Int, x - x / 256 * 256 = x % 256 := fun x => by omega
 have hB : 0 ≤ wsum (wrBase 6 (hdrOf Φ ρ 2) (ρ 2).list) := by simp only [wrBase, wsum, g, a0, a1]; omega
 have hS : ocs (ocs (wsum (wrBase 6 (hdrOf Φ ρ 2) (ρ 2).list)) + ocs (wsum (ρ 2).list)) = ocs (wsum (wrBase 6 (hdrOf Φ ρ 2) (ρ 2).list ++ (ρ 2).list)) := by rw [ocs_two hB (wsum_range hb').1, wsum_app _ _ (by simp [wrBase])]
 simp only [wrBase, g, a0, a1, List.cons_append, List.nil_append] at hS
 have hR := ocs_range (wsum (wrBase 6 (hdrOf Φ ρ 2) (ρ 2).list ++ (ρ 2).list))
 simp only [wrBase, g, a0, a1, List.cons_append, List.nil_append] at hR
 refine ⟨fun c1 => ?_, fun c1 => ?_⟩
 · simp [hΦ.sum, hΦ.ocs, wrap_ocs, m1, hS] at c1
   have hz : wrFail 6 (hdrOf Φ ρ 2) (ρ 2).list = 5 := by
     simp only [wrFail, g, a0, a1]
     repeat' split
     all_goals first | rfl | omega
   exact leaf_wr_err hr hz (by decide) (by decide)
 · refine ⟨fun c2 => ?_, fun c2 => ?_⟩
   · simp [hΦ.sum, hΦ.ocs, wrap_ocs, m1, hS] at c1 c2
     have hz : wrFail 6 (hdrOf Φ ρ 2) (ρ 2).list = 0 := by
       simp only [wrFail, g, a0, a1]
       repeat' split
       all_goals first | rfl | omega
     refine leaf_wr_ok hr hz ?_ rfl (by decide)
     simp only [list_cons, list_nil, int_add, int_sub, int_mul, int_fdiv, int_len, den_var, den_num, D.int_i, fdiv_lit, m1, int_wr, den_fn, hΦ.sum, hΦ.ocs, wrap_ocs, hS, wrGood, wrBase, putF, fld, fld1, List.set_cons_succ, List.set_cons_zero, List.cons_append, List.nil_append, g, a0, a1]
     all_goals try simp only [List.cons.injEq, and_true, true_and]
     all_goals repeat' apply And.intro
     all_goals first | rfl | omega
   · simp [hΦ.sum, hΦ.ocs, wrap_ocs, m1, hS] at c1 c2
     have hz : wrFail 6 (hdrOf Φ ρ 2) (ρ 2).list = 0 := by
       simp only [wrFail, g, a0, a1]
       repeat' split
       all_goals first | rfl | omega
     refine leaf_wr_ok hr hz ?_ rfl (by decide)
     simp only [list_cons, list_nil, int_add, int_sub, int_mul, int_fdiv, int_len, den_var, den_num, D.int_i, fdiv_lit, m1, int_wr, den_fn, hΦ.sum, hΦ.ocs, wrap_ocs, hS, wrGood, wrBase, putF, fld, fld1, List.set_cons_succ, List.set_cons_zero, List.cons_append, List.nil_append, g, a0, a1]
     all_goals try simp only [List.cons.injEq, and_true, true_and]
     all_goals repeat' apply And.intro
     all_goals first | rfl | omega
set_option maxRecDepth 100000 in
theorem wrDgram_ok {Φ : Sig} (hΦ : HdSig Φ) : TmplOk Go.Proofs.Tryz.prog Φ 66 (tBytes 6 10 60 8 kDgram) := by
 refine tmpl_of (consSum_ok hΦ.toSumSig) treeWrDgram_is (fun ρ res hres => ⟨eqJ, ?_⟩)
 obtain ⟨hk, hres⟩ := inKs_some hres
 obtain ⟨h0, hres⟩ := short_some hres
 obtain ⟨hb, hres⟩ := bytes_some hres
 have hr := wr_res (n := 2) hΦ ⟨by decide, by decide⟩ hres
 have h0' : (ρ 2).list.length ≤ 140737488351232 := h0
 have hb' : Bytes (ρ 2).list := hb
 have a0 : (hdrOf Φ ρ 2)[0]?.getD 0 = (ρ 0).int := hdr_at 2 0 (by decide)
 have a1 : (hdrOf Φ ρ 2)[1]?.getD 0 = (ρ 1).int := hdr_at 2 1 (by decide)
 have b0 := hk 0 .u16 rfl
 have b1 := hk 1 .u16 rfl
 simp only [kmin, kmax, Nat.zero_add] at b0 b1
 have m1 : ∀ x : Int, x - x / 256 * 256 = x % 256 := fun x => by omega
 have hB : 0 ≤ wsum (wrBase 6 (hdrOf Φ ρ 2) (ρ 2).list) := by simp only [wrBase, wsum, g, a0, a1]; omega
 have hS : ocs (ocs (wsum (wrBase 6 (hdrOf Φ ρ 2) (ρ 2).list)) + ocs (wsum (ρ 2).list)) = ocs (wsum (wrBase 6 (hdrOf Φ ρ 2) (ρ 2).list ++ (ρ 2).list)) := by rw [ocs_two hB (wsum_range hb').1, wsum_app _ _ (by simp [wrBase])]
 simp only [wrBase, g, a0, a1, List.cons_append, List.nil_append] at hS
 have hR := ocs_range (wsum (wrBase 6 (hdrOf Φ ρ 2) (ρ 2).list ++ (ρ 2).list))
 simp only [wrBase, g, a0, a1, List.cons_append, List.nil_append] at hR
 refine ⟨fun c1 => ?_, fun c1 => ?_⟩
 · simp [hΦ.sum, hΦ.ocs, wrap_ocs, m1, hS] at c1
   have hz : wrFail 6 (hdrOf Φ ρ 2) (ρ 2).list = 5 := by
     simp only [wrFail, g, a0, a1]
     repeat' split
     all_goals first | rfl | omega
   exact leaf_wr_err hr hz (by decide) (by decide)
 · refine ⟨fun c2 => ?_, fun c2 => ?_⟩
   · simp [hΦ.sum, hΦ.ocs, wrap_ocs, m1, hS] at c1 c2
     have hz : wrFail 6 (hdrOf Φ ρ 2) (ρ 2).list = 0 := by
       simp only [wrFail, g, a0, a1]
       repeat' split
       all_goals first | rfl | omega
     refine leaf_wr_ok hr hz ?_ rfl (by decide)
     simp only [list_cons, list_nil, int_add, int_sub, int_mul, int_fdiv, int_len, den_var, den_num, D.int_i, fdiv_lit, m1, int_wr, den_fn, hΦ.sum, hΦ.ocs, wrap_ocs, hS, wrGood, wrBase, putF, fld, fld1, List.set_cons_succ, List.set_cons_zero, List.cons_append, List.nil_append, g, a0, a1]
     all_goals try simp only [List.cons.injEq, and_true, true_and]
     all_goals repeat' apply And.intro
     all_goals first | rfl | omega
   · simp [hΦ.sum, hΦ.ocs, wrap_ocs, m1, hS] at c1 c2
     have hz : wrFail 6 (hdrOf Φ ρ 2) (ρ 2).list = 0 := by
       simp only [wrFail, g, a0, a1]
       repeat' split
       all_goals first | rfl | omega
     refine leaf_wr_ok hr hz ?_ rfl (by decide)
     simp only [list_cons, list_nil, int_add, int_sub, int_mul, int_fdiv, int_len, den_var, den_num, D.int_i, fdiv_lit, m1, int_wr, den_fn, hΦ.sum, hΦ.ocs, wrap_ocs, hS, wrGood, wrBase, putF, fld, fld1, List.set_cons_succ, List.set_cons_zero, List.cons_append, List.nil_append, g, a0, a1]
     all_goals try simp only [List.cons.injEq, and_true, true_and]
     all_goals repeat' apply And.intro
     all_goals first | rfl | omega
end Go.Proofs.YtfhjlimdakphcaaGreat.Sx
set_option linter.unusedVariables false
set_option linter.unusedSimpArgs false
set_option maxRecDepth 100000
namespace Go.Proofs.YtfhjlimdakphcaaGreat.Sx
open Go
theorem consRdApp {Φ : Sig} {a b : List (Nat × Con)} (ha : ConsOk Go.Proofs.Tryz.prog Φ a) (hb : ConsOk Go.Proofs.Tryz.prog Φ b) : ConsOk Go.Proofs.Tryz.prog Φ (a ++ b) := by
 intro f c h
 induction a with
 | nil => exact hb f c h
 | cons x a ih =>
   obtain ⟨k, d⟩ := x
   simp only [List.cons_append, findCon] at h
   split at h
   · rename_i e
     exact ha f c (by simp only [findCon]; rw [if_pos e]; exact h)
   · rename_i e
     by_cases hk : findCon a f = none
     · have : ConsOk Go.Proofs.Tryz.prog Φ b := hb
       have hab : ∀ (l : List (Nat × Con)), findCon l f = none → findCon (l ++ b) f = findCon b f := by
         intro l
         induction l with
         | nil => intro _; rfl
         | cons y l ih2 =>
           intro hl
           obtain ⟨k2, d2⟩ := y
           simp only [findCon] at hl
           split at hl
           · cases hl
           · rename_i e2; simp only [List.cons_append, findCon]; rw [if_neg e2]; exact ih2 hl
       rw [hab a hk] at h
       exact hb f c h
     · obtain ⟨c2, hc2⟩ := Option.ne_none_iff_exists'.mp hk
       have hab : ∀ (l : List (Nat × Con)), findCon l f = some c2 → findCon (l ++ b) f = some c2 := by
         intro l
         induction l with
         | nil => intro h; cases h
         | cons y l ih2 =>
           intro hl
           obtain ⟨k2, d2⟩ := y
           simp only [findCon] at hl
           simp only [List.cons_append, findCon]
           split at hl
           · rename_i e2; rw [if_pos e2]; exact hl
           · rename_i e2; rw [if_neg e2]; exact ih2 hl
       rw [hab a hc2] at h
       injection h with h
       subst h
       exact ha f c2 (by simp only [findCon]; rw [if_neg e]; exact hc2)
theorem consWd_ok' {Φ : Sig} (hΦ : HdSig Φ) : ConsOk Go.Proofs.Tryz.prog Φ consWd := (moreCons (con_ok (wdLink_ok hΦ)) (moreCons (con_ok (wdTag_ok hΦ)) (moreCons (con_ok (wdNet4_ok hΦ)) (moreCons (con_ok (wdNet6_ok hΦ)) (moreCons (con_ok (wdSeg_ok hΦ)) (moreCons (con_ok (wdDgram_ok hΦ)) noCons))))))
theorem consW1_ok {Φ : Sig} (hΦ : HdSig Φ) : ConsOk Go.Proofs.Tryz.prog Φ consW1 := moreCons (con_ok clone_ok) (consRdApp (consWd_ok' hΦ) (consRd_ok hΦ))
theorem consWr_ok {Φ : Sig} (hΦ : HdSig Φ) : ConsOk Go.Proofs.Tryz.prog Φ consWr := (moreCons (con_ok (wrLink_ok hΦ)) (moreCons (con_ok (wrTag_ok hΦ)) (moreCons (con_ok (wrNet4_ok hΦ)) (moreCons (con_ok (wrNet6_ok hΦ)) (moreCons (con_ok (wrSeg_ok hΦ)) (moreCons (con_ok (wrDgram_ok hΦ)) noCons))))))
theorem consW2_ok {Φ : Sig} (hΦ : HdSig Φ) : ConsOk Go.Proofs.Tryz.prog Φ consW2 := moreCons (con_ok clone_ok) (consRdApp (consWr_ok hΦ) (consRd_ok hΦ))
theorem wsz_ok {Φ : Sig} (hΦ : WrSig Φ) : TmplOk Go.Proofs.Tryz.prog Φ 22 tSize := by
 refine tmpl_of noCons treeWsSize_is (fun ρ res hres => ⟨eqJ, ?_⟩)
 obtain ⟨hlo, hhi, hres⟩ := inR_some hres
 obtain rfl := ret_some hres
 have lf : ∀ {z e : T} {n nv : Nat}, (T.den Φ ρ z).int = hdSize (ρ 0).int.toNat → (T.den Φ ρ e).int = szErr (ρ 0).int → n ≤ 100 → Leaf Φ ρ ρ ⟨.t [.c (.i .i64 (.fn 73 (.var 0) .nil .nil)), .c (.i .i64 (.fn 74 (.var 0) .nil .nil))], [], 100⟩ (.t [.c (.i .i64 z), .c (.i .i64 e)], ⟨[], [], n, nv, []⟩) := by
   intro z e n nv h1 h2 hn
   refine ⟨⟨⟨rfl, ?_⟩, ⟨rfl, ?_⟩, trivial⟩, trivial, hn⟩
   · rw [h1, den_fn, hΦ.szN]; rfl
   · rw [h2, den_fn, hΦ.szE]; rfl
 refine ⟨fun c1 => ?_, fun c1 => ?_⟩
 · rw [lt_t, den_var, den_num] at c1
   have c1 : (ρ 0).int < 1 := c1
   have hs : hdSize (ρ 0).int.toNat = 0 := by
     rcases Int.lt_or_le (ρ 0).int 1 with h | h
     · rw [show (ρ 0).int.toNat = 0 from by omega]; rfl
     · obtain ⟨u, hu⟩ : ∃ u, (ρ 0).int.toNat = u + 7 := ⟨(ρ 0).int.toNat - 7, by omega⟩
       rw [hu]; rfl
   exact lf (by rw [hs]; rfl) (by rw [szErr, if_neg (by omega)]; rfl) (by decide)
 refine ⟨fun c2 => ?_, fun c2 => ?_⟩
 · rw [lt_t, den_var, den_num] at c2
   have c2 : 6 < (ρ 0).int := c2
   have hs : hdSize (ρ 0).int.toNat = 0 := by
     rcases Int.lt_or_le (ρ 0).int 1 with h | h
     · rw [show (ρ 0).int.toNat = 0 from by omega]; rfl
     · obtain ⟨u, hu⟩ : ∃ u, (ρ 0).int.toNat = u + 7 := ⟨(ρ 0).int.toNat - 7, by omega⟩
       rw [hu]; rfl
   exact lf (by rw [hs]; rfl) (by rw [szErr, if_neg (by omega)]; rfl) (by decide)
 rw [lt_f, den_var, den_num] at c1 c2
 have c1 : 1 ≤ (ρ 0).int := c1
 have c2 : (ρ 0).int ≤ 6 := c2
 refine ⟨fun q => ?_, fun m1 => ?_⟩
 · rw [eq_t, den_var] at q
   have hk0 : (ρ 0).int = (1 : Nat) := q
   exact lf (by rw [hk0]; rfl) (by rw [szErr, if_pos (by omega)]; rfl) (by decide)
 refine ⟨fun q => ?_, fun m2 => ?_⟩
 · rw [eq_t, den_var] at q
   have hk0 : (ρ 0).int = (2 : Nat) := q
   exact lf (by rw [hk0]; rfl) (by rw [szErr, if_pos (by omega)]; rfl) (by decide)
 refine ⟨fun q => ?_, fun m3 => ?_⟩
 · rw [eq_t, den_var] at q
   have hk0 : (ρ 0).int = (3 : Nat) := q
   exact lf (by rw [hk0]; rfl) (by rw [szErr, if_pos (by omega)]; rfl) (by decide)
 refine ⟨fun q => ?_, fun m4 => ?_⟩
 · rw [eq_t, den_var] at q
   have hk0 : (ρ 0).int = (4 : Nat) := q
   exact lf (by rw [hk0]; rfl) (by rw [szErr, if_pos (by omega)]; rfl) (by decide)
 refine ⟨fun q => ?_, fun m5 => ?_⟩
 · rw [eq_t, den_var] at q
   have hk0 : (ρ 0).int = (5 : Nat) := q
   exact lf (by rw [hk0]; rfl) (by rw [szErr, if_pos (by omega)]; rfl) (by decide)
 refine ⟨fun q => ?_, fun m6 => ?_⟩
 · rw [eq_t, den_var] at q
   have hk0 : (ρ 0).int = (6 : Nat) := q
   exact lf (by rw [hk0]; rfl) (by rw [szErr, if_pos (by omega)]; rfl) (by decide)
 exfalso
 rw [eq_f, den_var] at m1
 rw [eq_f, den_var] at m2
 rw [eq_f, den_var] at m3
 rw [eq_f, den_var] at m4
 rw [eq_f, den_var] at m5
 rw [eq_f, den_var] at m6
 have h6 : ¬ (ρ 0).int = 1 ∧ ¬ (ρ 0).int = 2 ∧ ¬ (ρ 0).int = 3 ∧ ¬ (ρ 0).int = 4 ∧ ¬ (ρ 0).int = 5 ∧ ¬ (ρ 0).int = 6 := ⟨m1, m2, m3, m4, m5, m6⟩
 omega
theorem wszR_ok {Φ : Sig} (hΦ : WrSig Φ) : TmplOk Go.Proofs.Tryz.prog Φ 44 tSize := by
 refine tmpl_of noCons treeWsSizeR_is (fun ρ res hres => ⟨eqJ, ?_⟩)
 obtain ⟨hlo, hhi, hres⟩ := inR_some hres
 obtain rfl := ret_some hres
 have lf : ∀ {z e : T} {n nv : Nat}, (T.den Φ ρ z).int = hdSize (ρ 0).int.toNat → (T.den Φ ρ e).int = szErr (ρ 0).int → n ≤ 100 → Leaf Φ ρ ρ ⟨.t [.c (.i .i64 (.fn 73 (.var 0) .nil .nil)), .c (.i .i64 (.fn 74 (.var 0) .nil .nil))], [], 100⟩ (.t [.c (.i .i64 z), .c (.i .i64 e)], ⟨[], [], n, nv, []⟩) := by
   intro z e n nv h1 h2 hn
   refine ⟨⟨⟨rfl, ?_⟩, ⟨rfl, ?_⟩, trivial⟩, trivial, hn⟩
   · rw [h1, den_fn, hΦ.szN]; rfl
   · rw [h2, den_fn, hΦ.szE]; rfl
 refine ⟨fun c1 => ?_, fun c1 => ?_⟩
 · rw [lt_t, den_var, den_num] at c1
   have c1 : 6 < (ρ 0).int := c1
   have hs : hdSize (ρ 0).int.toNat = 0 := by
     rcases Int.lt_or_le (ρ 0).int 1 with h | h
     · rw [show (ρ 0).int.toNat = 0 from by omega]; rfl
     · obtain ⟨u, hu⟩ : ∃ u, (ρ 0).int.toNat = u + 7 := ⟨(ρ 0).int.toNat - 7, by omega⟩
       rw [hu]; rfl
   exact lf (by rw [hs]; rfl) (by rw [szErr, if_neg (by omega)]; rfl) (by decide)
 rw [lt_f, den_var, den_num] at c1
 have c1 : (ρ 0).int ≤ 6 := c1
 obtain ⟨w, hw⟩ := Int.eq_ofNat_of_zero_le hlo
 have hsz := sizes_at (Φ := Φ) (v := 0) (k := w) (by omega) hw
 refine ⟨fun c2 => ?_, fun c2 => ?_⟩
 · rw [eq_t, hsz] at c2
   have hw0 : w = 0 := by
     have c2 : (hdSize w : Int) = 0 := c2
     have : w = 0 ∨ w = 1 ∨ w = 2 ∨ w = 3 ∨ w = 4 ∨ w = 5 ∨ w = 6 := by omega
     rcases this with rfl | rfl | rfl | rfl | rfl | rfl | rfl <;> first | rfl | exact absurd c2 (by decide)
   subst hw0
   have c2 : (ρ 0).int < 1 := by omega
   have hs : hdSize (ρ 0).int.toNat = 0 := by
     rcases Int.lt_or_le (ρ 0).int 1 with h | h
     · rw [show (ρ 0).int.toNat = 0 from by omega]; rfl
     · obtain ⟨u, hu⟩ : ∃ u, (ρ 0).int.toNat = u + 7 := ⟨(ρ 0).int.toNat - 7, by omega⟩
       rw [hu]; rfl
   exact lf (by rw [hs]; rfl) (by rw [szErr, if_neg (by omega)]; rfl) (by decide)
 rw [eq_f, hsz] at c2
 have hw0 : w ≠ 0 := fun e => c2 (by rw [e]; rfl)
 clear c2
 have c2 : 1 ≤ (ρ 0).int := by omega
 exact lf (by rw [hsz, hw]; rfl) (by rw [szErr, if_pos (by omega)]; rfl) (by decide)
theorem wck_ok {Φ : Sig} (hΦ : WrSig Φ) : TmplOk Go.Proofs.Tryz.prog Φ 21 tCheck := by
 refine tmpl_of noCons treeWcChk_is (fun ρ res hres => ⟨eqJ, ?_⟩)
 obtain ⟨hlo, hhi, hres⟩ := inR_some hres
 obtain ⟨hh, hres⟩ := kinH_some hres
 obtain rfl := ret_some hres
 refine ⟨fun c1 => ?_, fun c1 => ?_⟩
 · rw [lt_t, den_var, den_num] at c1
   have c1 : (ρ 0).int < 1 := c1
   exact leaf_ck hΦ (by rw [ckErr, if_neg (not_head_vars (by omega))]) (by decide)
 refine ⟨fun c2 => ?_, fun c2 => ?_⟩
 · rw [lt_t, den_var, den_num] at c2
   have c2 : 6 < (ρ 0).int := c2
   exact leaf_ck hΦ (by rw [ckErr, if_neg (not_head_vars (by omega))]) (by decide)
 rw [lt_f, den_var, den_num] at c1 c2
 have c1 : 1 ≤ (ρ 0).int := c1
 have c2 : (ρ 0).int ≤ 6 := c2
 refine ⟨fun q => ?_, fun m1 => ?_⟩
 · rw [eq_t, den_var] at q
   have hk0 : (ρ 0).int = (1 : Nat) := q
   exact ck_kind (B := fun _ _ => False) hΦ (k := 1) (n2 := 1) (by decide) hk0 (by decide)
 refine ⟨fun q => ?_, fun m2 => ?_⟩
 · rw [eq_t, den_var] at q
   have hk0 : (ρ 0).int = (2 : Nat) := q
   exact ck_kind (B := fun _ _ => False) hΦ (k := 2) (by decide) hk0 (by decide)
 refine ⟨fun q => ?_, fun m3 => ?_⟩
 · rw [eq_t, den_var] at q
   have hk0 : (ρ 0).int = (3 : Nat) := q
   exact ck_kind (B := fun _ _ => False) hΦ (k := 3) (n2 := 1) (by decide) hk0 (by decide)
 refine ⟨fun q => ?_, fun m4 => ?_⟩
 · rw [eq_t, den_var] at q
   have hk0 : (ρ 0).int = (4 : Nat) := q
   exact ck_kind (B := fun _ _ => False) hΦ (k := 4) (by decide) hk0 (by decide)
 refine ⟨fun q => ?_, fun m5 => ?_⟩
 · rw [eq_t, den_var] at q
   have hk0 : (ρ 0).int = (5 : Nat) := q
   exact ck_kind (B := fun _ _ => False) hΦ (k := 5) (by decide) hk0 (by decide)
 refine ⟨fun q => ?_, fun m6 => ?_⟩
 · rw [eq_t, den_var] at q
   have hk0 : (ρ 0).int = (6 : Nat) := q
   exact ck_kind (B := fun _ _ => False) hΦ (k := 6) (n2 := 1) (by decide) hk0 (by decide)
 exfalso
 rw [eq_f, den_var] at m1
 rw [eq_f, den_var] at m2
 rw [eq_f, den_var] at m3
 rw [eq_f, den_var] at m4
 rw [eq_f, den_var] at m5
 rw [eq_f, den_var] at m6
 have h6 : ¬ (ρ 0).int = 1 ∧ ¬ (ρ 0).int = 2 ∧ ¬ (ρ 0).int = 3 ∧ ¬ (ρ 0).int = 4 ∧ ¬ (ρ 0).int = 5 ∧ ¬ (ρ 0).int = 6 := ⟨m1, m2, m3, m4, m5, m6⟩
 omega
theorem wckR_ok {Φ : Sig} (hΦ : WrSig Φ) : TmplOk Go.Proofs.Tryz.prog Φ 36 tCheck := by
 refine tmpl_of noCons treeWcChkR_is (fun ρ res hres => ⟨eqJ, ?_⟩)
 obtain ⟨hlo, hhi, hres⟩ := inR_some hres
 obtain ⟨hh, hres⟩ := kinH_some hres
 obtain rfl := ret_some hres
 refine ⟨fun c1 => ?_, fun c1 => ?_⟩
 · rw [lt_t, den_var, den_num] at c1
   have c1 : 6 < (ρ 0).int := c1
   exact leaf_ck hΦ (by rw [ckErr, if_neg (not_head_vars (by omega))]) (by decide)
 rw [lt_f, den_var, den_num] at c1
 have c1 : (ρ 0).int ≤ 6 := c1
 obtain ⟨w, hw⟩ := Int.eq_ofNat_of_zero_le hlo
 have hsz := sizes_at (Φ := Φ) (v := 0) (k := w) (by omega) hw
 refine ⟨fun c2 => ?_, fun c2 => ?_⟩
 · rw [eq_t, hsz] at c2
   have hw0 : w = 0 := by
     have c2 : (hdSize w : Int) = 0 := c2
     have : w = 0 ∨ w = 1 ∨ w = 2 ∨ w = 3 ∨ w = 4 ∨ w = 5 ∨ w = 6 := by omega
     rcases this with rfl | rfl | rfl | rfl | rfl | rfl | rfl <;> first | rfl | exact absurd c2 (by decide)
   subst hw0
   have c2 : (ρ 0).int < 1 := by omega
   exact leaf_ck hΦ (by rw [ckErr, if_neg (not_head_vars (by omega))]) (by decide)
 rw [eq_f, hsz] at c2
 have hw0 : w ≠ 0 := fun e => c2 (by rw [e]; rfl)
 clear c2
 have c2 : 1 ≤ (ρ 0).int := by omega
 refine ⟨fun q => ?_, fun m1 => ?_⟩
 · rw [eq_t, den_var] at q
   have hk0 : (ρ 0).int = (1 : Nat) := q
   exact ck_kind (B := fun _ _ => False) hΦ (k := 1) (n2 := 1) (by decide) hk0 (by decide)
 refine ⟨fun q => ?_, fun m2 => ?_⟩
 · rw [eq_t, den_var] at q
   have hk0 : (ρ 0).int = (2 : Nat) := q
   exact ck_kind (B := fun _ _ => False) hΦ (k := 2) (by decide) hk0 (by decide)
 refine ⟨fun q => ?_, fun m3 => ?_⟩
 · rw [eq_t, den_var] at q
   have hk0 : (ρ 0).int = (3 : Nat) := q
   exact ck_kind (B := fun _ _ => False) hΦ (k := 3) (n2 := 1) (by decide) hk0 (by decide)
 refine ⟨fun q => ?_, fun m4 => ?_⟩
 · rw [eq_t, den_var] at q
   have hk0 : (ρ 0).int = (4 : Nat) := q
   exact ck_kind (B := fun _ _ => False) hΦ (k := 4) (by decide) hk0 (by decide)
 refine ⟨fun q => ?_, fun m5 => ?_⟩
 · rw [eq_t, den_var] at q
   have hk0 : (ρ 0).int = (5 : Nat) := q
   exact ck_kind (B := fun _ _ => False) hΦ (k := 5) (by decide) hk0 (by decide)
 refine ⟨fun q => ?_, fun m6 => ?_⟩
 · rw [eq_t, den_var] at q
   have hk0 : (ρ 0).int = (6 : Nat) := q
   exact ck_kind (B := fun _ _ => False) hΦ (k := 6) (n2 := 1) (by decide) hk0 (by decide)
 exfalso
 rw [eq_f, den_var] at m1
 rw [eq_f, den_var] at m2
 rw [eq_f, den_var] at m3
 rw [eq_f, den_var] at m4
 rw [eq_f, den_var] at m5
 rw [eq_f, den_var] at m6
 have h6 : ¬ (ρ 0).int = 1 ∧ ¬ (ρ 0).int = 2 ∧ ¬ (ρ 0).int = 3 ∧ ¬ (ρ 0).int = 4 ∧ ¬ (ρ 0).int = 5 ∧ ¬ (ρ 0).int = 6 := ⟨m1, m2, m3, m4, m5, m6⟩
 omega
theorem wpu_ok {Φ : Sig} (hΦ : WrSig Φ) : TmplOk Go.Proofs.Tryz.prog Φ 41 (tPush 74) := by
 refine tmpl_of (consW1_ok hΦ.toHdSig) treeWuPush_is (fun ρ res hres => ⟨eqJ, ?_⟩)
 obtain ⟨hlo, hhi, hres⟩ := inR_some hres
 obtain ⟨h0, hres⟩ := short_some hres
 obtain ⟨hb, hres⟩ := bytes_some hres
 obtain ⟨hh, hres⟩ := kinH_some hres
 have hr := pu_res hΦ hres
 refine ⟨fun c1 => ?_, fun c1 => ?_⟩
 · rw [lt_t, den_var, den_num] at c1
   have c1 : (ρ 0).int < 1 := c1
   exact leaf_pu_err (e := 120) hr (by rw [pushErr, if_neg (not_head_vars (by omega))]) (by decide) rfl (by decide)
 refine ⟨fun c2 => ?_, fun c2 => ?_⟩
 · rw [lt_t, den_var, den_num] at c2
   have c2 : 6 < (ρ 0).int := c2
   exact leaf_pu_err (e := 120) hr (by rw [pushErr, if_neg (not_head_vars (by omega))]) (by decide) rfl (by decide)
 rw [lt_f, den_var, den_num] at c1 c2
 have c1 : 1 ≤ (ρ 0).int := c1
 have c2 : (ρ 0).int ≤ 6 := c2
 refine ⟨fun q => ?_, fun m1 => ?_⟩
 · rw [eq_t, den_var] at q
   have hk0 : (ρ 0).int = (1 : Nat) := q
   exact pu_kind (B := fun _ _ => False) (j := 74) (j' := 74) (Lf := Leaf Φ ρ ρ res) (F := (varsT 1 13)) hr (k := 1) (n2 := 1) (by decide) hk0 (good_fields (by decide) hh) (fields_vars (k := 1) (by decide)).symm (fun _ _ h => h) (fun h => h) (by decide) (bl := [(1, false), (1, true), (2, false), (2, true), (3, false), (3, true), (4, false), (4, true), (5, false), (5, true), (6, false), (6, true), (7, false), (7, true), (8, false), (8, true), (9, false), (9, true), (10, false), (10, true), (11, false), (11, true), (12, false), (12, true), (13, false), (13, true)]) hh (by decide)
 refine ⟨fun q => ?_, fun m2 => ?_⟩
 · rw [eq_t, den_var] at q
   have hk0 : (ρ 0).int = (2 : Nat) := q
   exact pu_kind (B := fun _ _ => False) (j := 74) (j' := 74) (Lf := Leaf Φ ρ ρ res) (F := (varsT 14 3)) hr (k := 2) (by decide) hk0 (good_fields (by decide) hh) (fields_vars (k := 2) (by decide)).symm (fun _ _ h => h) (fun h => h) (by decide) (bl := [(14, false), (15, false), (16, false), (16, true)]) hh (by decide)
 refine ⟨fun q => ?_, fun m3 => ?_⟩
 · rw [eq_t, den_var] at q
   have hk0 : (ρ 0).int = (3 : Nat) := q
   exact pu_kind (B := fun _ _ => False) (j := 74) (j' := 74) (Lf := Leaf Φ ρ ρ res) (F := (varsT 17 12)) hr (k := 3) (n2 := 1) (by decide) hk0 (good_fields (by decide) hh) (fields_vars (k := 3) (by decide)).symm (fun _ _ h => h) (fun h => h) (by decide) (bl := [(17, false), (17, true), (18, false), (18, true), (19, false), (19, true), (20, false), (20, true), (21, false), (21, true), (22, false), (22, true), (23, false), (23, true), (24, false), (24, true), (25, false), (25, true), (26, false), (26, true), (27, false), (27, true), (28, false), (28, true)]) hh (by decide)
 refine ⟨fun q => ?_, fun m4 => ?_⟩
 · rw [eq_t, den_var] at q
   have hk0 : (ρ 0).int = (4 : Nat) := q
   exact pu_kind (B := fun _ _ => False) (j := 74) (j' := 74) (Lf := Leaf Φ ρ ρ res) (F := (varsT 29 36)) hr (k := 4) (by decide) hk0 (good_fields (by decide) hh) (fields_vars (k := 4) (by decide)).symm (fun _ _ h => h) (fun h => h) (by decide) (bl := [(29, false), (29, true), (30, false), (31, false), (31, true), (32, false), (32, true), (33, false), (33, true), (34, false), (34, true), (35, false), (35, true), (36, false), (36, true), (37, false), (37, true), (38, false), (38, true), (39, false), (39, true), (40, false), (40, true), (41, false), (41, true), (42, false), (42, true), (43, false), (43, true), (44, false), (44, true), (45, false), (45, true), (46, false), (46, true), (47, false), (47, true), (48, false), (48, true), (49, false), (49, true), (50, false), (50, true), (51, false), (51, true), (52, false), (52, true), (53, false), (53, true), (54, false), (54, true), (55, false), (55, true), (56, false), (56, true), (57, false), (57, true), (58, false), (58, true), (59, false), (59, true), (60, false), (60, true), (61, false), (61, true), (62, false), (62, true), (63, false), (63, true), (64, false), (64, true)]) hh (by decide)
 refine ⟨fun q => ?_, fun m5 => ?_⟩
 · rw [eq_t, den_var] at q
   have hk0 : (ρ 0).int = (5 : Nat) := q
   exact pu_kind (B := fun _ _ => False) (j := 74) (j' := 74) (Lf := Leaf Φ ρ ρ res) (F := (varsT 65 6)) hr (k := 5) (by decide) hk0 (good_fields (by decide) hh) (fields_vars (k := 5) (by decide)).symm (fun _ _ h => h) (fun h => h) (by decide) (bl := [(65, false), (65, true), (66, false), (66, true), (67, false), (67, true), (68, false), (68, true), (69, false), (70, false), (70, true)]) hh (by decide)
 refine ⟨fun q => ?_, fun m6 => ?_⟩
 · rw [eq_t, den_var] at q
   have hk0 : (ρ 0).int = (6 : Nat) := q
   exact pu_kind (B := fun _ _ => False) (j := 74) (j' := 74) (Lf := Leaf Φ ρ ρ res) (F := (varsT 71 2)) hr (k := 6) (n2 := 1) (by decide) hk0 (good_fields (by decide) hh) (fields_vars (k := 6) (by decide)).symm (fun _ _ h => h) (fun h => h) (by decide) (bl := [(71, false), (71, true), (72, false), (72, true)]) hh (by decide)
 exfalso
 rw [eq_f, den_var] at m1
 rw [eq_f, den_var] at m2
 rw [eq_f, den_var] at m3
 rw [eq_f, den_var] at m4
 rw [eq_f, den_var] at m5
 rw [eq_f, den_var] at m6
 have h6 : ¬ (ρ 0).int = 1 ∧ ¬ (ρ 0).int = 2 ∧ ¬ (ρ 0).int = 3 ∧ ¬ (ρ 0).int = 4 ∧ ¬ (ρ 0).int = 5 ∧ ¬ (ρ 0).int = 6 := ⟨m1, m2, m3, m4, m5, m6⟩
 omega
theorem wpuR_ok {Φ : Sig} (hΦ : WrSig Φ) : TmplOk Go.Proofs.Tryz.prog Φ 12 (tPush 68) := by
 refine tmpl_sw (consW2_ok hΦ.toHdSig) treeWuPushR_is (fun ρ res hres => ⟨eqJ, ?_⟩)
 obtain ⟨hlo, hhi, hres⟩ := inR_some hres
 obtain ⟨h0, hres⟩ := short_some hres
 obtain ⟨hb, hres⟩ := bytes_some hres
 obtain ⟨hh, hres⟩ := kinH_some hres
 have hr := pu_res hΦ hres
 have hnb : res.nb = 300 := by rcases hr.or with ⟨_, rfl⟩ | ⟨_, rfl⟩ <;> rfl
 have sw : ∀ r : V × St, ∀ a, 1 ≤ a ∧ a < 300 → Leaf Φ ρ ρ res (swV a 68 r.1, { r.2 with me := swE a 68 r.2.me }) → LeafS 1 Φ ρ ρ res r := fun r a ha h => ⟨a, 68, ha.1, by rw [hnb]; exact ha.2, by decide, by rw [hnb]; decide, h⟩
 have sw0 : ∀ e n, Leaf Φ ρ ρ res (puErrR e n) → LeafS 1 Φ ρ ρ res (puErrR e n) := fun e n h => sw _ 68 (by decide) h
 refine ⟨fun c1 => ?_, fun c1 => ?_⟩
 · rw [lt_t, den_var, den_num] at c1
   have c1 : 6 < (ρ 0).int := c1
   exact sw0 (.num 120) _ (leaf_pu_err (e := 120) hr (by rw [pushErr, if_neg (not_head_vars (by omega))]) (by decide) rfl (by decide))
 rw [lt_f, den_var, den_num] at c1
 have c1 : (ρ 0).int ≤ 6 := c1
 obtain ⟨w, hw⟩ := Int.eq_ofNat_of_zero_le hlo
 have hsz := sizes_at (Φ := Φ) (v := 0) (k := w) (by omega) hw
 refine ⟨fun c2 => ?_, fun c2 => ?_⟩
 · rw [eq_t, hsz] at c2
   have hw0 : w = 0 := by
     have c2 : (hdSize w : Int) = 0 := c2
     have : w = 0 ∨ w = 1 ∨ w = 2 ∨ w = 3 ∨ w = 4 ∨ w = 5 ∨ w = 6 := by omega
     rcases this with rfl | rfl | rfl | rfl | rfl | rfl | rfl <;> first | rfl | exact absurd c2 (by decide)
   subst hw0
   have c2 : (ρ 0).int < 1 := by omega
   exact sw0 (.num 120) _ (leaf_pu_err (e := 120) hr (by rw [pushErr, if_neg (not_head_vars (by omega))]) (by decide) rfl (by decide))
 rw [eq_f, hsz] at c2
 have hw0 : w ≠ 0 := fun e => c2 (by rw [e]; rfl)
 clear c2
 have c2 : 1 ≤ (ρ 0).int := by omega
 refine ⟨fun q => ?_, fun m1 => ?_⟩
 · rw [eq_t, den_var] at q
   have hk0 : (ρ 0).int = (1 : Nat) := q
   exact pu_kind (B := fun _ _ => False) (j := 68) (j' := 68) (Lf := LeafS 1 Φ ρ ρ res) (F := (varsT 1 13)) hr (k := 1) (n2 := 1) (by decide) hk0 (good_fields (by decide) hh) (fields_vars (k := 1) (by decide)).symm sw0 (fun h => sw _ 68 (by decide) h) (by decide) (bl := [(1, false), (1, true), (2, false), (2, true), (3, false), (3, true), (4, false), (4, true), (5, false), (5, true), (6, false), (6, true), (7, false), (7, true), (8, false), (8, true), (9, false), (9, true), (10, false), (10, true), (11, false), (11, true), (12, false), (12, true), (13, false), (13, true)]) hh (by decide)
 refine ⟨fun q => ?_, fun m2 => ?_⟩
 · rw [eq_t, den_var] at q
   have hk0 : (ρ 0).int = (2 : Nat) := q
   exact pu_kind (B := fun _ _ => False) (j := 68) (j' := 69) (Lf := LeafS 1 Φ ρ ρ res) (F := (varsT 14 3)) hr (k := 2) (by decide) hk0 (good_fields (by decide) hh) (fields_vars (k := 2) (by decide)).symm sw0 (fun h => sw _ 69 (by decide) h) (by decide) (bl := [(14, false), (15, false), (16, false), (16, true)]) hh (by decide)
 refine ⟨fun q => ?_, fun m3 => ?_⟩
 · rw [eq_t, den_var] at q
   have hk0 : (ρ 0).int = (3 : Nat) := q
   exact pu_kind (B := fun _ _ => False) (j := 68) (j' := 68) (Lf := LeafS 1 Φ ρ ρ res) (F := (varsT 17 12)) hr (k := 3) (n2 := 1) (by decide) hk0 (good_fields (by decide) hh) (fields_vars (k := 3) (by decide)).symm sw0 (fun h => sw _ 68 (by decide) h) (by decide) (bl := [(17, false), (17, true), (18, false), (18, true), (19, false), (19, true), (20, false), (20, true), (21, false), (21, true), (22, false), (22, true), (23, false), (23, true), (24, false), (24, true), (25, false), (25, true), (26, false), (26, true), (27, false), (27, true), (28, false), (28, true)]) hh (by decide)
 refine ⟨fun q => ?_, fun m4 => ?_⟩
 · rw [eq_t, den_var] at q
   have hk0 : (ρ 0).int = (4 : Nat) := q
   exact pu_kind (B := fun _ _ => False) (j := 68) (j' := 69) (Lf := LeafS 1 Φ ρ ρ res) (F := (varsT 29 36)) hr (k := 4) (by decide) hk0 (good_fields (by decide) hh) (fields_vars (k := 4) (by decide)).symm sw0 (fun h => sw _ 69 (by decide) h) (by decide) (bl := [(29, false), (29, true), (30, false), (31, false), (31, true), (32, false), (32, true), (33, false), (33, true), (34, false), (34, true), (35, false), (35, true), (36, false), (36, true), (37, false), (37, true), (38, false), (38, true), (39, false), (39, true), (40, false), (40, true), (41, false), (41, true), (42, false), (42, true), (43, false), (43, true), (44, false), (44, true), (45, false), (45, true), (46, false), (46, true), (47, false), (47, true), (48, false), (48, true), (49, false), (49, true), (50, false), (50, true), (51, false), (51, true), (52, false), (52, true), (53, false), (53, true), (54, false), (54, true), (55, false), (55, true), (56, false), (56, true), (57, false), (57, true), (58, false), (58, true), (59, false), (59, true), (60, false), (60, true), (61, false), (61, true), (62, false), (62, true), (63, false), (63, true), (64, false), (64, true)]) hh (by decide)
 refine ⟨fun q => ?_, fun m5 => ?_⟩
 · rw [eq_t, den_var] at q
   have hk0 : (ρ 0).int = (5 : Nat) := q
   exact pu_kind (B := fun _ _ => False) (j := 68) (j' := 69) (Lf := LeafS 1 Φ ρ ρ res) (F := (varsT 65 6)) hr (k := 5) (by decide) hk0 (good_fields (by decide) hh) (fields_vars (k := 5) (by decide)).symm sw0 (fun h => sw _ 69 (by decide) h) (by decide) (bl := [(65, false), (65, true), (66, false), (66, true), (67, false), (67, true), (68, false), (68, true), (69, false), (70, false), (70, true)]) hh (by decide)
 refine ⟨fun q => ?_, fun m6 => ?_⟩
 · rw [eq_t, den_var] at q
   have hk0 : (ρ 0).int = (6 : Nat) := q
   exact pu_kind (B := fun _ _ => False) (j := 68) (j' := 68) (Lf := LeafS 1 Φ ρ ρ res) (F := (varsT 71 2)) hr (k := 6) (n2 := 1) (by decide) hk0 (good_fields (by decide) hh) (fields_vars (k := 6) (by decide)).symm sw0 (fun h => sw _ 68 (by decide) h) (by decide) (bl := [(71, false), (71, true), (72, false), (72, true)]) hh (by decide)
 exfalso
 rw [eq_f, den_var] at m1
 rw [eq_f, den_var] at m2
 rw [eq_f, den_var] at m3
 rw [eq_f, den_var] at m4
 rw [eq_f, den_var] at m5
 rw [eq_f, den_var] at m6
 have h6 : ¬ (ρ 0).int = 1 ∧ ¬ (ρ 0).int = 2 ∧ ¬ (ρ 0).int = 3 ∧ ¬ (ρ 0).int = 4 ∧ ¬ (ρ 0).int = 5 ∧ ¬ (ρ 0).int = 6 := ⟨m1, m2, m3, m4, m5, m6⟩
 omega
theorem wpo_ok {Φ : Sig} (hΦ : WrSig Φ) : TmplOk Go.Proofs.Tryz.prog Φ 28 (tPop 70) := by
 refine tmpl_of (consW1_ok hΦ.toHdSig) treeWoPop_is (fun ρ res hres => ⟨eqJ, ?_⟩)
 obtain ⟨hlo, hhi, hres⟩ := inR_some hres
 obtain ⟨h0, hres⟩ := short_some hres
 obtain ⟨hb, hres⟩ := bytes_some hres
 have hr := po_res hΦ hres
 refine ⟨fun c1 => ?_, fun c1 => ?_⟩
 · rw [lt_t, den_var, den_num] at c1
   have c1 : (ρ 1).int < 1 := c1
   exact leaf_po_err (e := 120) hr (by rw [popErr, if_neg (by omega)]) (by decide) rfl (by decide)
 refine ⟨fun c2 => ?_, fun c2 => ?_⟩
 · rw [lt_t, den_var, den_num] at c2
   have c2 : 6 < (ρ 1).int := c2
   exact leaf_po_err (e := 120) hr (by rw [popErr, if_neg (by omega)]) (by decide) rfl (by decide)
 rw [lt_f, den_var, den_num] at c1 c2
 have c1 : 1 ≤ (ρ 1).int := c1
 have c2 : (ρ 1).int ≤ 6 := c2
 refine ⟨fun q => ?_, fun m1 => ?_⟩
 · rw [eq_t, den_var] at q
   have hk0 : (ρ 1).int = (1 : Nat) := q
   have hE : (T.den Φ ρ (.fn 21 (.var 0) .nil .nil)).int = rdErr 1 (ρ 0).list := by rw [den_fn, hΦ.rdErr 1 _ _ _ (by decide) (by decide)]; rfl
   have hP : popErr (ρ 0).list (ρ 1).int = rdErr 1 (ρ 0).list := by rw [popErr, hk0, if_pos (by decide)]; rfl
   refine ⟨fun er => ?_, fun er => ?_⟩
   · rw [not_t, eq_f, hE] at er
     exact leaf_po_err hr hP er hE (by decide)
   · rw [not_f, eq_t, hE] at er
     have hsz : 14 ≤ (ρ 0).list.length := rd_size (k := 1) er
     refine ⟨by rw [le_t, int_len, den_num, den_var]; show (14 : Int) ≤ _; omega, leaf_po_ok (x := .var 1) hr (k := 1) (by decide) hk0 hk0 er ?_ ?_ (by decide)⟩
     · show (T.den Φ ρ (.c2 .sub (.c1 .len (.var 0)) (.num 14))).int = _
       rw [int_sub, int_len, den_var, den_num, List.length_drop]; show _ - (14 : Int) = _; show _ - (14 : Int) = (((ρ 0).list.length - 14 : Nat) : Int); omega
     · rfl
 refine ⟨fun q => ?_, fun m2 => ?_⟩
 · rw [eq_t, den_var] at q
   have hk0 : (ρ 1).int = (2 : Nat) := q
   have hE : (T.den Φ ρ (.fn 22 (.var 0) .nil .nil)).int = rdErr 2 (ρ 0).list := by rw [den_fn, hΦ.rdErr 2 _ _ _ (by decide) (by decide)]; rfl
   have hP : popErr (ρ 0).list (ρ 1).int = rdErr 2 (ρ 0).list := by rw [popErr, hk0, if_pos (by decide)]; rfl
   refine ⟨fun er => ?_, fun er => ?_⟩
   · rw [not_t, eq_f, hE] at er
     exact leaf_po_err hr hP er hE (by decide)
   · rw [not_f, eq_t, hE] at er
     have hsz : 4 ≤ (ρ 0).list.length := rd_size (k := 2) er
     refine ⟨by rw [le_t, int_len, den_num, den_var]; show (4 : Int) ≤ _; omega, leaf_po_ok (x := .var 1) hr (k := 2) (by decide) hk0 hk0 er ?_ ?_ (by decide)⟩
     · show (T.den Φ ρ (.c2 .sub (.c1 .len (.var 0)) (.num 4))).int = _
       rw [int_sub, int_len, den_var, den_num, List.length_drop]; show _ - (4 : Int) = _; show _ - (4 : Int) = (((ρ 0).list.length - 4 : Nat) : Int); omega
     · rfl
 refine ⟨fun q => ?_, fun m3 => ?_⟩
 · rw [eq_t, den_var] at q
   have hk0 : (ρ 1).int = (3 : Nat) := q
   have hE : (T.den Φ ρ (.fn 23 (.var 0) .nil .nil)).int = rdErr 3 (ρ 0).list := by rw [den_fn, hΦ.rdErr 3 _ _ _ (by decide) (by decide)]; rfl
   have hP : popErr (ρ 0).list (ρ 1).int = rdErr 3 (ρ 0).list := by rw [popErr, hk0, if_pos (by decide)]; rfl
   refine ⟨fun er => ?_, fun er => ?_⟩
   · rw [not_t, eq_f, hE] at er
     exact leaf_po_err hr hP er hE (by decide)
   · rw [not_f, eq_t, hE] at er
     have hsz : 20 ≤ (ρ 0).list.length := rd_size (k := 3) er
     refine ⟨by rw [le_t, int_len, den_num, den_var]; show (20 : Int) ≤ _; omega, leaf_po_ok (x := .var 1) hr (k := 3) (by decide) hk0 hk0 er ?_ ?_ (by decide)⟩
     · show (T.den Φ ρ (.c2 .sub (.c1 .len (.var 0)) (.num 20))).int = _
       rw [int_sub, int_len, den_var, den_num, List.length_drop]; show _ - (20 : Int) = _; show _ - (20 : Int) = (((ρ 0).list.length - 20 : Nat) : Int); omega
     · rfl
 refine ⟨fun q => ?_, fun m4 => ?_⟩
 · rw [eq_t, den_var] at q
   have hk0 : (ρ 1).int = (4 : Nat) := q
   have hE : (T.den Φ ρ (.fn 24 (.var 0) .nil .nil)).int = rdErr 4 (ρ 0).list := by rw [den_fn, hΦ.rdErr 4 _ _ _ (by decide) (by decide)]; rfl
   have hP : popErr (ρ 0).list (ρ 1).int = rdErr 4 (ρ 0).list := by rw [popErr, hk0, if_pos (by decide)]; rfl
   refine ⟨fun er => ?_, fun er => ?_⟩
   · rw [not_t, eq_f, hE] at er
     exact leaf_po_err hr hP er hE (by decide)
   · rw [not_f, eq_t, hE] at er
     have hsz : 40 ≤ (ρ 0).list.length := rd_size (k := 4) er
     refine ⟨by rw [le_t, int_len, den_num, den_var]; show (40 : Int) ≤ _; omega, leaf_po_ok (x := .var 1) hr (k := 4) (by decide) hk0 hk0 er ?_ ?_ (by decide)⟩
     · show (T.den Φ ρ (.c2 .sub (.c1 .len (.var 0)) (.num 40))).int = _
       rw [int_sub, int_len, den_var, den_num, List.length_drop]; show _ - (40 : Int) = _; show _ - (40 : Int) = (((ρ 0).list.length - 40 : Nat) : Int); omega
     · rfl
 refine ⟨fun q => ?_, fun m5 => ?_⟩
 · rw [eq_t, den_var] at q
   have hk0 : (ρ 1).int = (5 : Nat) := q
   have hE : (T.den Φ ρ (.fn 25 (.var 0) .nil .nil)).int = rdErr 5 (ρ 0).list := by rw [den_fn, hΦ.rdErr 5 _ _ _ (by decide) (by decide)]; rfl
   have hP : popErr (ρ 0).list (ρ 1).int = rdErr 5 (ρ 0).list := by rw [popErr, hk0, if_pos (by decide)]; rfl
   refine ⟨fun er => ?_, fun er => ?_⟩
   · rw [not_t, eq_f, hE] at er
     exact leaf_po_err hr hP er hE (by decide)
   · rw [not_f, eq_t, hE] at er
     have hsz : 20 ≤ (ρ 0).list.length := rd_size (k := 5) er
     refine ⟨by rw [le_t, int_len, den_num, den_var]; show (20 : Int) ≤ _; omega, leaf_po_ok (x := .var 1) hr (k := 5) (by decide) hk0 hk0 er ?_ ?_ (by decide)⟩
     · show (T.den Φ ρ (.c2 .sub (.c1 .len (.var 0)) (.num 20))).int = _
       rw [int_sub, int_len, den_var, den_num, List.length_drop]; show _ - (20 : Int) = _; show _ - (20 : Int) = (((ρ 0).list.length - 20 : Nat) : Int); omega
     · rfl
 refine ⟨fun q => ?_, fun m6 => ?_⟩
 · rw [eq_t, den_var] at q
   have hk0 : (ρ 1).int = (6 : Nat) := q
   have hE : (T.den Φ ρ (.fn 26 (.var 0) .nil .nil)).int = rdErr 6 (ρ 0).list := by rw [den_fn, hΦ.rdErr 6 _ _ _ (by decide) (by decide)]; rfl
   have hP : popErr (ρ 0).list (ρ 1).int = rdErr 6 (ρ 0).list := by rw [popErr, hk0, if_pos (by decide)]; rfl
   refine ⟨fun er => ?_, fun er => ?_⟩
   · rw [not_t, eq_f, hE] at er
     exact leaf_po_err hr hP er hE (by decide)
   · rw [not_f, eq_t, hE] at er
     have hsz : 8 ≤ (ρ 0).list.length := rd_size (k := 6) er
     refine ⟨by rw [le_t, int_len, den_num, den_var]; show (8 : Int) ≤ _; omega, leaf_po_ok (x := .var 1) hr (k := 6) (by decide) hk0 hk0 er ?_ ?_ (by decide)⟩
     · show (T.den Φ ρ (.c2 .sub (.c1 .len (.var 0)) (.num 8))).int = _
       rw [int_sub, int_len, den_var, den_num, List.length_drop]; show _ - (8 : Int) = _; show _ - (8 : Int) = (((ρ 0).list.length - 8 : Nat) : Int); omega
     · rfl
 exfalso
 rw [eq_f, den_var] at m1
 rw [eq_f, den_var] at m2
 rw [eq_f, den_var] at m3
 rw [eq_f, den_var] at m4
 rw [eq_f, den_var] at m5
 rw [eq_f, den_var] at m6
 have h6 : ¬ (ρ 1).int = 1 ∧ ¬ (ρ 1).int = 2 ∧ ¬ (ρ 1).int = 3 ∧ ¬ (ρ 1).int = 4 ∧ ¬ (ρ 1).int = 5 ∧ ¬ (ρ 1).int = 6 := ⟨m1, m2, m3, m4, m5, m6⟩
 omega
theorem wpoR_ok {Φ : Sig} (hΦ : WrSig Φ) : TmplOk Go.Proofs.Tryz.prog Φ 11 (tPop 68) := by
 refine tmpl_of (consW2_ok hΦ.toHdSig) treeWoPopR_is (fun ρ res hres => ⟨eqJ, ?_⟩)
 obtain ⟨hlo, hhi, hres⟩ := inR_some hres
 obtain ⟨h0, hres⟩ := short_some hres
 obtain ⟨hb, hres⟩ := bytes_some hres
 have hr := po_res hΦ hres
 refine ⟨fun c1 => ?_, fun c1 => ?_⟩
 · rw [lt_t, den_var, den_num] at c1
   have c1 : 6 < (ρ 1).int := c1
   exact leaf_po_err (e := 120) hr (by rw [popErr, if_neg (by omega)]) (by decide) rfl (by decide)
 rw [lt_f, den_var, den_num] at c1
 have c1 : (ρ 1).int ≤ 6 := c1
 obtain ⟨w, hw⟩ := Int.eq_ofNat_of_zero_le hlo
 have hsz := sizes_at (Φ := Φ) (v := 1) (k := w) (by omega) hw
 refine ⟨fun c2 => ?_, fun c2 => ?_⟩
 · rw [eq_t, hsz] at c2
   have hw0 : w = 0 := by
     have c2 : (hdSize w : Int) = 0 := c2
     have : w = 0 ∨ w = 1 ∨ w = 2 ∨ w = 3 ∨ w = 4 ∨ w = 5 ∨ w = 6 := by omega
     rcases this with rfl | rfl | rfl | rfl | rfl | rfl | rfl <;> first | rfl | exact absurd c2 (by decide)
   subst hw0
   have c2 : (ρ 1).int < 1 := by omega
   exact leaf_po_err (e := 120) hr (by rw [popErr, if_neg (by omega)]) (by decide) rfl (by decide)
 rw [eq_f, hsz] at c2
 have hw0 : w ≠ 0 := fun e => c2 (by rw [e]; rfl)
 clear c2
 have c2 : 1 ≤ (ρ 1).int := by omega
 refine ⟨fun q => ?_, fun m1 => ?_⟩
 · rw [eq_t, den_var] at q
   have hk0 : (ρ 1).int = (1 : Nat) := q
   have hE : (T.den Φ ρ (.fn 21 (.var 0) .nil .nil)).int = rdErr 1 (ρ 0).list := by rw [den_fn, hΦ.rdErr 1 _ _ _ (by decide) (by decide)]; rfl
   have hP : popErr (ρ 0).list (ρ 1).int = rdErr 1 (ρ 0).list := by rw [popErr, hk0, if_pos (by decide)]; rfl
   refine ⟨fun er => ?_, fun er => ?_⟩
   · rw [not_t, eq_f, hE] at er
     exact leaf_po_err hr hP er hE (by decide)
   · rw [not_f, eq_t, hE] at er
     have hsz : 14 ≤ (ρ 0).list.length := rd_size (k := 1) er
     have hq : (T.den Φ ρ (.c2 .rd (.cons (.num 0) (.cons (.num 14) (.cons (.num 4) (.cons (.num 20) (.cons (.num 40) (.cons (.num 20) (.cons (.num 8) .nil))))))) (.var 1))).int = (14 : Nat) := sizes_at (k := 1) (by decide) hk0
     have hl : (T.den Φ ρ (.c2 .sub (.c1 .len (.var 0)) (.c2 .rd (.cons (.num 0) (.cons (.num 14) (.cons (.num 4) (.cons (.num 20) (.cons (.num 40) (.cons (.num 20) (.cons (.num 8) .nil))))))) (.var 1)))).int = (((ρ 0).list.length - 14 : Nat) : Int) := by rw [int_sub, int_len, den_var, hq]; omega
     refine ⟨by rw [le_t, int_len, hq, den_var]; omega, leaf_po_ok (x := .num 1) hr (k := 1) (by decide) hk0 rfl er ?_ ?_ (by decide)⟩
     · rw [List.length_drop]; exact hl
     · show (T.den Φ ρ (.c2 .take (.c2 .sub (.c1 .len (.var 0)) (.c2 .rd (.cons (.num 0) (.cons (.num 14) (.cons (.num 4) (.cons (.num 20) (.cons (.num 40) (.cons (.num 20) (.cons (.num 8) .nil))))))) (.var 1))) (.c2 .drop (.c2 .rd (.cons (.num 0) (.cons (.num 14) (.cons (.num 4) (.cons (.num 20) (.cons (.num 40) (.cons (.num 20) (.cons (.num 8) .nil))))))) (.var 1)) (.var 0)))).list = _
       rw [list_take, list_drop, hl, hq, den_var, Int.toNat_natCast, Int.toNat_natCast]
       exact List.take_of_length_le (by rw [List.length_drop]; exact Nat.le_refl _)
 refine ⟨fun q => ?_, fun m2 => ?_⟩
 · rw [eq_t, den_var] at q
   have hk0 : (ρ 1).int = (2 : Nat) := q
   have hE : (T.den Φ ρ (.fn 22 (.var 0) .nil .nil)).int = rdErr 2 (ρ 0).list := by rw [den_fn, hΦ.rdErr 2 _ _ _ (by decide) (by decide)]; rfl
   have hP : popErr (ρ 0).list (ρ 1).int = rdErr 2 (ρ 0).list := by rw [popErr, hk0, if_pos (by decide)]; rfl
   refine ⟨fun er => ?_, fun er => ?_⟩
   · rw [not_t, eq_f, hE] at er
     exact leaf_po_err hr hP er hE (by decide)
   · rw [not_f, eq_t, hE] at er
     have hsz : 4 ≤ (ρ 0).list.length := rd_size (k := 2) er
     have hq : (T.den Φ ρ (.c2 .rd (.cons (.num 0) (.cons (.num 14) (.cons (.num 4) (.cons (.num 20) (.cons (.num 40) (.cons (.num 20) (.cons (.num 8) .nil))))))) (.var 1))).int = (4 : Nat) := sizes_at (k := 2) (by decide) hk0
     have hl : (T.den Φ ρ (.c2 .sub (.c1 .len (.var 0)) (.c2 .rd (.cons (.num 0) (.cons (.num 14) (.cons (.num 4) (.cons (.num 20) (.cons (.num 40) (.cons (.num 20) (.cons (.num 8) .nil))))))) (.var 1)))).int = (((ρ 0).list.length - 4 : Nat) : Int) := by rw [int_sub, int_len, den_var, hq]; omega
     refine ⟨by rw [le_t, int_len, hq, den_var]; omega, leaf_po_ok (x := .num 2) hr (k := 2) (by decide) hk0 rfl er ?_ ?_ (by decide)⟩
     · rw [List.length_drop]; exact hl
     · show (T.den Φ ρ (.c2 .take (.c2 .sub (.c1 .len (.var 0)) (.c2 .rd (.cons (.num 0) (.cons (.num 14) (.cons (.num 4) (.cons (.num 20) (.cons (.num 40) (.cons (.num 20) (.cons (.num 8) .nil))))))) (.var 1))) (.c2 .drop (.c2 .rd (.cons (.num 0) (.cons (.num 14) (.cons (.num 4) (.cons (.num 20) (.cons (.num 40) (.cons (.num 20) (.cons (.num 8) .nil))))))) (.var 1)) (.var 0)))).list = _
       rw [list_take, list_drop, hl, hq, den_var, Int.toNat_natCast, Int.toNat_natCast]
       exact List.take_of_length_le (by rw [List.length_drop]; exact Nat.le_refl _)
 refine ⟨fun q => ?_, fun m3 => ?_⟩
 · rw [eq_t, den_var] at q
   have hk0 : (ρ 1).int = (3 : Nat) := q
   have hE : (T.den Φ ρ (.fn 23 (.var 0) .nil .nil)).int = rdErr 3 (ρ 0).list := by rw [den_fn, hΦ.rdErr 3 _ _ _ (by decide) (by decide)]; rfl
   have hP : popErr (ρ 0).list (ρ 1).int = rdErr 3 (ρ 0).list := by rw [popErr, hk0, if_pos (by decide)]; rfl
   refine ⟨fun er => ?_, fun er => ?_⟩
   · rw [not_t, eq_f, hE] at er
     exact leaf_po_err hr hP er hE (by decide)
   · rw [not_f, eq_t, hE] at er
     have hsz : 20 ≤ (ρ 0).list.length := rd_size (k := 3) er
     have hq : (T.den Φ ρ (.c2 .rd (.cons (.num 0) (.cons (.num 14) (.cons (.num 4) (.cons (.num 20) (.cons (.num 40) (.cons (.num 20) (.cons (.num 8) .nil))))))) (.var 1))).int = (20 : Nat) := sizes_at (k := 3) (by decide) hk0
     have hl : (T.den Φ ρ (.c2 .sub (.c1 .len (.var 0)) (.c2 .rd (.cons (.num 0) (.cons (.num 14) (.cons (.num 4) (.cons (.num 20) (.cons (.num 40) (.cons (.num 20) (.cons (.num 8) .nil))))))) (.var 1)))).int = (((ρ 0).list.length - 20 : Nat) : Int) := by rw [int_sub, int_len, den_var, hq]; omega
     refine ⟨by rw [le_t, int_len, hq, den_var]; omega, leaf_po_ok (x := .num 3) hr (k := 3) (by decide) hk0 rfl er ?_ ?_ (by decide)⟩
     · rw [List.length_drop]; exact hl
     · show (T.den Φ ρ (.c2 .take (.c2 .sub (.c1 .len (.var 0)) (.c2 .rd (.cons (.num 0) (.cons (.num 14) (.cons (.num 4) (.cons (.num 20) (.cons (.num 40) (.cons (.num 20) (.cons (.num 8) .nil))))))) (.var 1))) (.c2 .drop (.c2 .rd (.cons (.num 0) (.cons (.num 14) (.cons (.num 4) (.cons (.num 20) (.cons (.num 40) (.cons (.num 20) (.cons (.num 8) .nil))))))) (.var 1)) (.var 0)))).list = _
       rw [list_take, list_drop, hl, hq, den_var, Int.toNat_natCast, Int.toNat_natCast]
       exact List.take_of_length_le (by rw [List.length_drop]; exact Nat.le_refl _)
 refine ⟨fun q => ?_, fun m4 => ?_⟩
 · rw [eq_t, den_var] at q
   have hk0 : (ρ 1).int = (4 : Nat) := q
   have hE : (T.den Φ ρ (.fn 24 (.var 0) .nil .nil)).int = rdErr 4 (ρ 0).list := by rw [den_fn, hΦ.rdErr 4 _ _ _ (by decide) (by decide)]; rfl
   have hP : popErr (ρ 0).list (ρ 1).int = rdErr 4 (ρ 0).list := by rw [popErr, hk0, if_pos (by decide)]; rfl
   refine ⟨fun er => ?_, fun er => ?_⟩
   · rw [not_t, eq_f, hE] at er
     exact leaf_po_err hr hP er hE (by decide)
   · rw [not_f, eq_t, hE] at er
     have hsz : 40 ≤ (ρ 0).list.length := rd_size (k := 4) er
     have hq : (T.den Φ ρ (.c2 .rd (.cons (.num 0) (.cons (.num 14) (.cons (.num 4) (.cons (.num 20) (.cons (.num 40) (.cons (.num 20) (.cons (.num 8) .nil))))))) (.var 1))).int = (40 : Nat) := sizes_at (k := 4) (by decide) hk0
     have hl : (T.den Φ ρ (.c2 .sub (.c1 .len (.var 0)) (.c2 .rd (.cons (.num 0) (.cons (.num 14) (.cons (.num 4) (.cons (.num 20) (.cons (.num 40) (.cons (.num 20) (.cons (.num 8) .nil))))))) (.var 1)))).int = (((ρ 0).list.length - 40 : Nat) : Int) := by rw [int_sub, int_len, den_var, hq]; omega
     refine ⟨by rw [le_t, int_len, hq, den_var]; omega, leaf_po_ok (x := .num 4) hr (k := 4) (by decide) hk0 rfl er ?_ ?_ (by decide)⟩
     · rw [List.length_drop]; exact hl
     · show (T.den Φ ρ (.c2 .take (.c2 .sub (.c1 .len (.var 0)) (.c2 .rd (.cons (.num 0) (.cons (.num 14) (.cons (.num 4) (.cons (.num 20) (.cons (.num 40) (.cons (.num 20) (.cons (.num 8) .nil))))))) (.var 1))) (.c2 .drop (.c2 .rd (.cons (.num 0) (.cons (.num 14) (.cons (.num 4) (.cons (.num 20) (.cons (.num 40) (.cons (.num 20) (.cons (.num 8) .nil))))))) (.var 1)) (.var 0)))).list = _
       rw [list_take, list_drop, hl, hq, den_var, Int.toNat_natCast, Int.toNat_natCast]
       exact List.take_of_length_le (by rw [List.length_drop]; exact Nat.le_refl _)
 refine ⟨fun q => ?_, fun m5 => ?_⟩
 · rw [eq_t, den_var] at q
   have hk0 : (ρ 1).int = (5 : Nat) := q
   have hE : (T.den Φ ρ (.fn 25 (.var 0) .nil .nil)).int = rdErr 5 (ρ 0).list := by rw [den_fn, hΦ.rdErr 5 _ _ _ (by decide) (by decide)]; rfl
   have hP : popErr (ρ 0).list (ρ 1).int = rdErr 5 (ρ 0).list := by rw [popErr, hk0, if_pos (by decide)]; rfl
   refine ⟨fun er => ?_, fun er => ?_⟩
   · rw [not_t, eq_f, hE] at er
     exact leaf_po_err hr hP er hE (by decide)
   · rw [not_f, eq_t, hE] at er
     have hsz : 20 ≤ (ρ 0).list.length := rd_size (k := 5) er
     have hq : (T.den Φ ρ (.c2 .rd (.cons (.num 0) (.cons (.num 14) (.cons (.num 4) (.cons (.num 20) (.cons (.num 40) (.cons (.num 20) (.cons (.num 8) .nil))))))) (.var 1))).int = (20 : Nat) := sizes_at (k := 5) (by decide) hk0
     have hl : (T.den Φ ρ (.c2 .sub (.c1 .len (.var 0)) (.c2 .rd (.cons (.num 0) (.cons (.num 14) (.cons (.num 4) (.cons (.num 20) (.cons (.num 40) (.cons (.num 20) (.cons (.num 8) .nil))))))) (.var 1)))).int = (((ρ 0).list.length - 20 : Nat) : Int) := by rw [int_sub, int_len, den_var, hq]; omega
     refine ⟨by rw [le_t, int_len, hq, den_var]; omega, leaf_po_ok (x := .num 5) hr (k := 5) (by decide) hk0 rfl er ?_ ?_ (by decide)⟩
     · rw [List.length_drop]; exact hl
     · show (T.den Φ ρ (.c2 .take (.c2 .sub (.c1 .len (.var 0)) (.c2 .rd (.cons (.num 0) (.cons (.num 14) (.cons (.num 4) (.cons (.num 20) (.cons (.num 40) (.cons (.num 20) (.cons (.num 8) .nil))))))) (.var 1))) (.c2 .drop (.c2 .rd (.cons (.num 0) (.cons (.num 14) (.cons (.num 4) (.cons (.num 20) (.cons (.num 40) (.cons (.num 20) (.cons (.num 8) .nil))))))) (.var 1)) (.var 0)))).list = _
       rw [list_take, list_drop, hl, hq, den_var, Int.toNat_natCast, Int.toNat_natCast]
       exact List.take_of_length_le (by rw [List.length_drop]; exact Nat.le_refl _)
 rw [eq_f, den_var] at m1
 rw [eq_f, den_var] at m2
 rw [eq_f, den_var] at m3
 rw [eq_f, den_var] at m4
 rw [eq_f, den_var] at m5
 have h6 : ¬ (ρ 1).int = 1 ∧ ¬ (ρ 1).int = 2 ∧ ¬ (ρ 1).int = 3 ∧ ¬ (ρ 1).int = 4 ∧ ¬ (ρ 1).int = 5 := ⟨m1, m2, m3, m4, m5⟩
 have hk0 : (ρ 1).int = (6 : Nat) := by omega
 have hE : (T.den Φ ρ (.fn 26 (.var 0) .nil .nil)).int = rdErr 6 (ρ 0).list := by rw [den_fn, hΦ.rdErr 6 _ _ _ (by decide) (by decide)]; rfl
 have hP : popErr (ρ 0).list (ρ 1).int = rdErr 6 (ρ 0).list := by rw [popErr, hk0, if_pos (by decide)]; rfl
 refine ⟨fun er => ?_, fun er => ?_⟩
 · rw [not_t, eq_f, hE] at er
   exact leaf_po_err hr hP er hE (by decide)
 · rw [not_f, eq_t, hE] at er
   have hsz : 8 ≤ (ρ 0).list.length := rd_size (k := 6) er
   have hq : (T.den Φ ρ (.c2 .rd (.cons (.num 0) (.cons (.num 14) (.cons (.num 4) (.cons (.num 20) (.cons (.num 40) (.cons (.num 20) (.cons (.num 8) .nil))))))) (.var 1))).int = (8 : Nat) := sizes_at (k := 6) (by decide) hk0
   have hl : (T.den Φ ρ (.c2 .sub (.c1 .len (.var 0)) (.c2 .rd (.cons (.num 0) (.cons (.num 14) (.cons (.num 4) (.cons (.num 20) (.cons (.num 40) (.cons (.num 20) (.cons (.num 8) .nil))))))) (.var 1)))).int = (((ρ 0).list.length - 8 : Nat) : Int) := by rw [int_sub, int_len, den_var, hq]; omega
   refine ⟨by rw [le_t, int_len, hq, den_var]; omega, leaf_po_ok (x := .num 6) hr (k := 6) (by decide) hk0 rfl er ?_ ?_ (by decide)⟩
   · rw [List.length_drop]; exact hl
   · show (T.den Φ ρ (.c2 .take (.c2 .sub (.c1 .len (.var 0)) (.c2 .rd (.cons (.num 0) (.cons (.num 14) (.cons (.num 4) (.cons (.num 20) (.cons (.num 40) (.cons (.num 20) (.cons (.num 8) .nil))))))) (.var 1))) (.c2 .drop (.c2 .rd (.cons (.num 0) (.cons (.num 14) (.cons (.num 4) (.cons (.num 20) (.cons (.num 40) (.cons (.num 20) (.cons (.num 8) .nil))))))) (.var 1)) (.var 0)))).list = _
     rw [list_take, list_drop, hl, hq, den_var, Int.toNat_natCast, Int.toNat_natCast]
     exact List.take_of_length_le (by rw [List.length_drop]; exact Nat.le_refl _)
end Go.Proofs.YtfhjlimdakphcaaGreat.Sx
set_option linter.unusedVariables false
set_option linter.unusedSimpArgs false
set_option maxRecDepth 100000
namespace Go.Proofs.YtfhjlimdakphcaaGreat.Sx
open Go Go.RowKit
def skC (P : Program) : Code := ((P.funcs[18]?).bind (·.body)).getD .skip
def skX (P : Program) : Ctx := ctxN P annsSk consSk 8
def skC1 (P : Program) : Code := fstC (skC P)
def skC2 (P : Program) : Code := fstC (sndC (skC P))
def skC3 (P : Program) : Code := fstC (sndC (sndC (skC P)))
def skC4 (P : Program) : Code := fstC (sndC (sndC (sndC (skC P))))
def skCt (P : Program) : Code := sndC (sndC (sndC (sndC (skC P))))
def skCa (P : Program) : Code := ((rngOf (skC P)).getD (.skip, .skip)).1
def skCb (P : Program) : Code := ((rngOf (skC P)).getD (.skip, .skip)).2
def skT0 : St := ⟨[(2, ptrV 0), (4, ptrV 2), (5, ptrV 3)], someMe skBs, 4, 1, []⟩
def skS1 (P : Program) : St := (stN (evCode (skX P) noAnn 30 (skC1 P) skS0)).getD dSt
def skS2 (P : Program) : St := (stN (evCode (skX P) noAnn 30 (skC2 P) (skS1 P))).getD dSt
def skS2r (P : Program) : St := (stR (evCode (skX P) noAnn 30 (skC2 P) (skS1 P))).getD dSt
def skS3 (P : Program) : St := (stN (evCode (skX P) noAnn 30 (skC3 P) (skS2 P))).getD dSt
def skA1 (P : Program) : St := (stN (evCode (skX P) noAnn 30 (skCa P) skA0)).getD dSt
def skN (P : Program) : St := (stN (evCode (skX P) noAnn 30 (skCb P) skB0)).getD dSt
def skR (P : Program) : St := (stR (evCode (skX P) noAnn 30 (skCb P) skB0)).getD dSt
def skT1 (P : Program) : St := (stR (evCode (skX P) noAnn 30 (skCt P) skT0)).getD dSt
theorem e1_is : evCode (skX Go.Proofs.Tryz.prog) noAnn 30 (skC1 Go.Proofs.Tryz.prog) skS0 = .ret (.norm, (skS1 Go.Proofs.Tryz.prog)) := by kernel_rfl
theorem e2_is : evCode (skX Go.Proofs.Tryz.prog) noAnn 30 (skC2 Go.Proofs.Tryz.prog) (skS1 Go.Proofs.Tryz.prog) = .split (.c2 .lt (.num 8) (.var 1)) (.ret (.ret, (skS2r Go.Proofs.Tryz.prog))) (.ret (.norm, (skS2 Go.Proofs.Tryz.prog))) := by kernel_rfl
theorem e3_is : evCode (skX Go.Proofs.Tryz.prog) noAnn 30 (skC3 Go.Proofs.Tryz.prog) (skS2 Go.Proofs.Tryz.prog) = .ret (.norm, (skS3 Go.Proofs.Tryz.prog)) := by kernel_rfl
theorem ea_is : evCode (skX Go.Proofs.Tryz.prog) noAnn 30 (skCa Go.Proofs.Tryz.prog) skA0 = .ret (.norm, (skA1 Go.Proofs.Tryz.prog)) := by kernel_rfl
def skE : T := .fn 70 (varsT 1 73) (.var 0) .nil
def skRow : T := .fn 71 (varsT 1 73) (.var 0) .nil
theorem eb_is : evCode (skX Go.Proofs.Tryz.prog) noAnn 30 (skCb Go.Proofs.Tryz.prog) skB0 = .split (.c2 .eq skE (.num 0)) (.chk (.c1 (.kin [.u8]) skRow) (.chk (.c2 .le (.c1 .len skRow) (.num 2048)) (.ret (.norm, (skN Go.Proofs.Tryz.prog))))) (.ret (.ret, (skR Go.Proofs.Tryz.prog))) := by kernel_rfl
theorem et_is : evCode (skX Go.Proofs.Tryz.prog) noAnn 30 (skCt Go.Proofs.Tryz.prog) skT0 = .ret (.ret, (skT1 Go.Proofs.Tryz.prog)) := by kernel_rfl
theorem consSk_ok : ConsOk Go.Proofs.Tryz.prog ΦP consSk := moreCons (con_ok clone_ok) (moreCons (con_ok (wpu_ok sigW)) noCons)
theorem skX_P : (skX Go.Proofs.Tryz.prog).P = Go.Proofs.Tryz.prog := ctxN_P _
theorem skX_ok : CallOk (skX Go.Proofs.Tryz.prog).P ΦP (skX Go.Proofs.Tryz.prog).call := by
 rw [skX_P]; exact ctxN_ok consSk_ok 8
def dOf (S S0 : St) : List (Nat × Option MB) := takeN (lenN S.me - lenN S0.me) S.me
def allSome : List (Nat × Option MB) → Bool
 | [] => true
 | (_, some _) :: l => allSome l
 | (_, none) :: _ => false
theorem allSome_look : ∀ {d : List (Nat × Option MB)}, allSome d = true → ∀ {k : Nat}, hasK d k = true → lookM d k ≠ none
 | [], _, k, h => by cases h
 | (i, some m) :: d, ha, k, h => by
   simp only [hasK, Bool.or_eq_true] at h
   simp only [lookM]
   split
   · intro e; cases e
   · rename_i e
     rcases h with h | h
     · exact absurd h e
     · exact allSome_look (d := d) ha h
 | (_, none) :: d, ha, _, _ => by cases ha
def keysAre (ks : List Nat) : List (Nat × Option MB) → Bool
 | [] => true
 | (k, _) :: l => hasN ks k && keysAre ks l
theorem keysAre_mem {ks : List Nat} : ∀ {d : List (Nat × Option MB)}, keysAre ks d = true → ∀ {k : Nat}, hasK d k = true → k ∈ ks
 | [], _, k, h => by cases h
 | (i, m) :: d, ha, k, h => by
   simp only [keysAre, Bool.and_eq_true] at ha
   simp only [hasK, Bool.or_eq_true] at h
   rcases h with h | h
   · rw [← Nat.eq_of_beq_eq_true h]; exact hasN_mem.mp ha.1
   · exact keysAre_mem ha.2 h
theorem dA_is : (skA1 Go.Proofs.Tryz.prog).me = dOf (skA1 Go.Proofs.Tryz.prog) skA0 ++ someMe skBs ∧ keysAre [4] (dOf (skA1 Go.Proofs.Tryz.prog) skA0) = true ∧ allSome (dOf (skA1 Go.Proofs.Tryz.prog) skA0) = true := ⟨by kernel_rfl, by kernel_rfl, by kernel_rfl⟩
theorem dN_is : (skN Go.Proofs.Tryz.prog).me = dOf (skN Go.Proofs.Tryz.prog) skB0 ++ someMe skBs2 ∧ keysAre [0, 79] (dOf (skN Go.Proofs.Tryz.prog) skB0) = true ∧ allSome (dOf (skN Go.Proofs.Tryz.prog) skB0) = true := ⟨by kernel_rfl, by kernel_rfl, by kernel_rfl⟩
theorem dR_is : (skR Go.Proofs.Tryz.prog).me = dOf (skR Go.Proofs.Tryz.prog) skB0 ++ someMe skBs2 ∧ keysAre [2, 3] (dOf (skR Go.Proofs.Tryz.prog) skB0) = true ∧ allSome (dOf (skR Go.Proofs.Tryz.prog) skB0) = true := ⟨by kernel_rfl, by kernel_rfl, by kernel_rfl⟩
def envQ (q : List Int) : Env := fun _ => .l q
structure SkMem (w0 : World) (pl2 pl4 pl5 : Place) (q : List Int) (W : World) (β : Map) : Prop where
 b0 : β 0 = some pl2
 b2 : β 2 = some pl4
 b3 : β 3 = some pl5
 free : ∀ j, 4 ≤ j → β j = none
 heap : inHeap β W
 mem : memRep (T.den ΦP (envQ q)) β W (look skBs)
 own : ∀ pl, β 1 = some pl → pl.sz ≠ 0 → w0.heap.size ≤ pl.b
 below : Below w0.heap.size w0 W
structure SkAct (pl2 pl4 pl5 : Place) (a : Act) : Prop where
 size : a.tmps.size = 30
 df : a.defers = []
 t2 : a.tmps[2]? = some (.pointer (some ⟨pl2.b, pl2.o, none⟩))
 t4 : a.tmps[4]? = some (.pointer (some ⟨pl4.b, pl4.o, none⟩))
 t5 : a.tmps[5]? = some (.pointer (some ⟨pl5.b, pl5.o, none⟩))
def SkHd (H : List Int) (B : Nat) (a : Act) (W : World) : Prop :=
 ∃ ph : Place, a.tmps[7]? = some (.pointer (some ⟨ph.b, ph.o, none⟩)) ∧ (∀ i v, (ints kHead H)[i]? = some v → W.cell? ⟨ph.b, ph.o + i, none⟩ = some v) ∧ 73 ≤ ph.sz ∧ B ≤ ph.b ∧ ∃ arr ty, W.heap[ph.b]? = some (.cells arr ty (0, 0))
def skEs (e : Int) : Bs := [(2, ⟨true, .cells [.sn]⟩), (3, ⟨true, .cells [.i .i64 (.num e)]⟩)]
def SkEnd (w0 : World) (pl4 pl5 : Place) (e : Int) (W : World) : Prop :=
 ∃ β : Map, β 2 = some pl4 ∧ β 3 = some pl5 ∧ memRep (T.den ΦP (envQ [])) β W (look (skEs e)) ∧ Below w0.heap.size w0 W
theorem skBs_cases {j : Nat} {m : MB} (h : look skBs j = some m) : (j = 0 ∧ m = ⟨true, .cells [.s 1 1 0 (.num 0) (.c1 .len (.var 0))]⟩) ∨ (j = 1 ∧ m = ⟨true, .row [.u8] (.var 0)⟩) ∨ (j = 2 ∧ m = ⟨true, .cells [.sn]⟩) ∨ (j = 3 ∧ m = ⟨true, .cells [.i .i64 (.num 0)]⟩) := by
 match j, h with
 | 0, h => injection h with h; exact .inl ⟨rfl, h.symm⟩
 | 1, h => injection h with h; exact .inr (.inl ⟨rfl, h.symm⟩)
 | 2, h => injection h with h; exact .inr (.inr (.inl ⟨rfl, h.symm⟩))
 | 3, h => injection h with h; exact .inr (.inr (.inr ⟨rfl, h.symm⟩))
 | j + 4, h => cases h
theorem sk_env {q : List Int} {ρ : Env} (h : ρ 0 = .l q) {β : Map} {W : World} (hm : memRep (T.den ΦP (envQ q)) β W (look skBs)) : memRep (T.den ΦP ρ) β W (look skBs) := by
 refine ⟨fun j m hj => ?_, hm.2⟩
 obtain ⟨pl, hb, hr⟩ := hm.1 j m hj
 refine ⟨pl, hb, eqB_rep (E := T.den ΦP (envQ q)) ?_ hr.1, hr.2⟩
 rcases skBs_cases hj with ⟨_, rfl⟩ | ⟨_, rfl⟩ | ⟨_, rfl⟩ | ⟨_, rfl⟩
 · refine ⟨⟨rfl, rfl, rfl, rfl, ?_⟩, trivial⟩
   rw [int_len, int_len, den_var, den_var, h]; rfl
 · refine ⟨rfl, ?_⟩
   rw [den_var, den_var, h]; rfl
 · exact ⟨trivial, trivial⟩
 · exact ⟨⟨rfl, rfl⟩, trivial⟩
def envH (q H : List Int) : Env := envL ([D.l q] ++ (H.map D.i ++ []))
theorem envH_0 (q H : List Int) : envH q H 0 = .l q := rfl
theorem envH_at (q H : List Int) : AtEnv (envH q H) 1 H := env_ints (pre := [D.l q]) (post := []) rfl
theorem vars_is {ρ : Env} : ∀ {xs : List Int} {b n : Nat}, xs.length = n → AtEnv ρ b xs → (T.den ΦP ρ (varsT b n)).list = xs
 | [], b, 0, _, _ => rfl
 | x :: xs, b, n + 1, hl, ha => by
   show (ρ b).int :: (T.den ΦP ρ (varsT (b + 1) n)).list = _
   rw [show ρ b = .i x from ha 0 x rfl, vars_is (by simpa using hl) (fun i z hz => by rw [show b + 1 + i = b + (i + 1) from by omega]; exact ha (i + 1) z (by simpa using hz))]; rfl
theorem head_len73 {H : List Int} (hH : GoodInts kHead H) : H.length = 73 := hH.1.symm
theorem good_kin {H : List Int} (hH : GoodInts kHead H) : inKinds kHead 0 H = true := by
 rw [inKinds_iff]
 intro j z hz
 have hj : j < 73 := by rw [← head_len73 hH]; exact (List.getElem?_eq_some_iff.1 hz).1
 rw [Nat.zero_add, kAt, show kHead.length = 73 from rfl, Nat.mod_eq_of_lt hj, List.getD_eq_getElem?_getD, List.getElem?_eq_getElem (by exact hj)]
 exact hH.2 j _ z (List.getElem?_eq_getElem (by exact hj)) hz
theorem skFs_ok {q H : List Int} (hH : GoodInts kHead H) (hq : Bytes q) (hs : q.length ≤ 140737488351232) : skFs.hold ΦP (envH q H) := by
 obtain ⟨x, hx⟩ : ∃ x, H[0]? = some x := ⟨H[0]'(by rw [head_len73 hH]; decide), List.getElem?_eq_getElem _⟩
 have h1 : envH q H 1 = .i x := envH_at q H 0 x hx
 have hb := hH.2 0 .u8 x rfl hx
 have hv := vars_is (head_len73 hH) (envH_at q H)
 intro t p hm
 simp only [skFs, List.mem_cons, Prod.mk.injEq, List.not_mem_nil, or_false] at hm
 rcases hm with ⟨rfl, rfl⟩ | ⟨rfl, rfl⟩ | ⟨rfl, rfl⟩ | ⟨rfl, rfl⟩ | ⟨rfl, rfl⟩
 · rw [le_t, den_var, h1]; exact hb.1
 · rw [le_t, den_var, h1]; exact hb.2
 · rw [le_t, int_len, den_var, envH_0]; show (q.length : Int) ≤ 140737488351232; omega
 · rw [bytes_t, den_var, envH_0]; exact hq
 · show inKinds kHead 0 (T.den ΦP (envH q H) (varsT 1 73)).list = true
   rw [hv]; exact good_kin hH
theorem ptr_rep {E : Ev} {β : Map} {j : Nat} {pl : Place} (h : β j = some pl) : (ptrV j).rep E β (.pointer (some ⟨pl.b, pl.o, none⟩)) := ⟨pl, h, by simp⟩
theorem ptr_is {ρ : Env} {β : Map} {j : Nat} {pl : Place} {v : Value} (hb : β j = some pl) (h : (ptrV j).rep (T.den ΦP ρ) β v) : v = .pointer (some ⟨pl.b, pl.o, none⟩) := by
 obtain ⟨pl', hb', rfl⟩ := h
 rw [hb] at hb'
 injection hb' with hb'
 subst hb'; simp
theorem cellsV_int : ∀ (b : Nat) (ks : List IntKind) {i : Nat} (h : i < (cellsV b ks).length), ∃ k t, (cellsV b ks)[i] = .i k t
 | b, [], i, h => by simp [cellsV] at h
 | b, k :: ks, 0, h => ⟨k, _, rfl⟩
 | b, k :: ks, i + 1, h => cellsV_int (b + 1) ks (by simpa [cellsV] using h)
section
variable {w0 : World} {pl2 pl4 pl5 : Place} {q H : List Int} {W : World} {β : Map} {a : Act} {l m : Nat}
theorem sk_assign (hm : SkMem w0 pl2 pl4 pl5 q W β) (hH : GoodInts kHead H) (hq : Bytes q) (hs : q.length ≤ 140737488351232) (ha : SkAct pl2 pl4 pl5 a) (h18 : a.tmps[18]? = some (.agg (ints kHead H).toArray)) :
   (skCa Go.Proofs.Tryz.prog).wpIn (Rd l) m Go.Proofs.Tryz.prog (fun e a' W' => e = .normal ∧ SkAct pl2 pl4 pl5 a' ∧ SkMem w0 pl2 pl4 pl5 q W' β ∧ (∀ k, k < W.heap.size → W'.heap[k]? = W.heap[k]?) ∧ W.heap.size ≤ W'.heap.size ∧ SkHd H W.heap.size a' W') a W := by
 have hsim : Sim ΦP (envH q H) ⟨a.tmps.size, someMe skBs, β, W, 4, a.defers⟩ skA0 β a W := sim_new (skFs_ok hH hq hs) (fun t v hv hu => by
   match t, hv with
   | 2, hv => injection hv with hv; subst hv; exact ⟨_, ha.t2, ptr_rep hm.b0⟩
   | 4, hv => injection hv with hv; subst hv; exact ⟨_, ha.t4, ptr_rep hm.b2⟩
   | 5, hv => injection hv with hv; subst hv; exact ⟨_, ha.t5, ptr_rep hm.b3⟩
   | 18, hv => injection hv with hv; subst hv; exact ⟨_, h18, _, rfl, by simpa using cellsV_rep hH.1 (envH_at q H)⟩) hm.heap (sk_env (envH_0 q H) hm.mem) hm.free
 rw [ha.size, ha.df] at hsim
 rw [← skX_P]
 refine wpIn_mono (code_in skX_ok (skCa Go.Proofs.Tryz.prog) (by kernel_rfl) skA0 (fun _ _ => False) (envH q H) (fun _ ρ' r => ρ' = envH q H ∧ r = (.norm, (skA1 Go.Proofs.Tryz.prog))) (J := eqJ) (L := noAnn) (by show (evCode (skX Go.Proofs.Tryz.prog) noAnn 30 (skCa Go.Proofs.Tryz.prog) skA0).ok _ _ _ _ _; rw [ea_is]; exact ⟨rfl, rfl⟩) β a W hsim) ?_
 rintro e a' W' ⟨B', ρ', r, β', ⟨rfl, rfl⟩, rfl, hs', haf, _⟩
 obtain ⟨d, hd, hc⟩ := hs'.cur
 have hdd : d = dOf (skA1 Go.Proofs.Tryz.prog) skA0 := (List.append_cancel_right (dA_is.1.symm.trans hd)).symm
 have hk4 : ∀ k, hasK d k = true → k = 4 := fun k h => by rw [hdd] at h; simpa using keysAre_mem dA_is.2.1 h
 have hsame : ∀ k, k < W.heap.size → W'.heap[k]? = W.heap[k]? := fun k hk => hc.run.kept k hk (fun j pl h hj => absurd (hk4 j h) (by have : j < 4 := hj; omega))
 have hb : ∀ j, j < 4 → β' j = β j := fun j hj => haf.beta j hj
 have slot : ∀ t j pl, look (skA1 Go.Proofs.Tryz.prog).tm t = some (ptrV j) → β' j = some pl → a'.tmps[t]? = some (.pointer (some ⟨pl.b, pl.o, none⟩)) := fun t j pl ht hj => by
   obtain ⟨x, hx, hr⟩ := hc.tm t _ ht (fun e => by cases e)
   rw [hx, ptr_is hj hr]
 have hbel : Below w0.heap.size w0 W' := ⟨hc.run.os.trans hm.below.os, hc.run.tape.trans hm.below.tape, hc.run.output.trans hm.below.output, Nat.le_trans hm.below.size hc.run.size, fun k hk => (hsame k (Nat.lt_of_lt_of_le hk hm.below.size)).trans (hm.below.block k hk)⟩
 refine ⟨rfl, ⟨hc.size, hc.defers, slot 2 0 pl2 (by kernel_rfl) ((hb 0 (by decide)).trans hm.b0), slot 4 2 pl4 (by kernel_rfl) ((hb 2 (by decide)).trans hm.b2), slot 5 3 pl5 (by kernel_rfl) ((hb 3 (by decide)).trans hm.b3)⟩,
   ⟨hm.b0, hm.b2, hm.b3, hm.free, fun j pl hj hz => Nat.lt_of_lt_of_le (hm.heap j pl hj hz) hc.run.size, mem_same hm.mem (fun j m pl _ hj hz => hsame _ (hm.heap j pl hj hz)), hm.own, hbel⟩, hsame, hc.run.size, ?_⟩
 obtain ⟨ph, hph, hrep⟩ := hc.me.1 4 ⟨true, .cells (cellsV 1 kHead)⟩ (by kernel_rfl)
 have hcr := hrep.1
 have hsz : 73 ≤ ph.sz := hcr.1
 obtain ⟨ho, arr, ty, harr, _⟩ := own_cells hrep rfl (by omega)
 refine ⟨ph, slot 7 4 ph (by kernel_rfl) hph, fun i v hv => ?_, hsz, ?_, arr, ty, harr⟩
 · have hl : (cellsV 1 kHead).length = (ints kHead H).length := repL_length (E := T.den ΦP (envH q H)) (β := β) (cellsV_rep hH.1 (envH_at q H))
   have hi : i < (cellsV 1 kHead).length := by rw [hl]; exact (List.getElem?_eq_some_iff.1 hv).1
   have hx : (cellsV 1 kHead)[i]? = some ((cellsV 1 kHead)[i]) := List.getElem?_eq_getElem hi
   obtain ⟨v1, c1, r1⟩ := hcr.2 i _ hx
   obtain ⟨v2, c2, r2⟩ := repL_get (cellsV_rep (Φ := ΦP) (β := β') hH.1 (envH_at q H)) hx
   rw [hv] at c2
   injection c2 with c2
   subst c2
   rw [c1]
   obtain ⟨k, t, e⟩ : ∃ k t, (cellsV 1 kHead)[i] = .i k t := cellsV_int _ _ hi
   rw [e] at r1 r2
   have r1 : v1 = .int k (T.den ΦP (envH q H) t).int := r1
   have r2 : v = .int k (T.den ΦP (envH q H) t).int := r2
   rw [r1, r2]
 · rcases hc.run.new 4 ph (Nat.le_refl _) hph (by omega) with h | ⟨k, pk, h1, h2, h3, _⟩
   · exact h
   · have := hk4 k h1
     exact absurd h3 (by subst this; show ¬ (4 < 4); omega)
theorem skBs2_cases {j : Nat} {m : MB} (h : look skBs2 j = some m) : (j = 0 ∧ m = ⟨true, .cells [.s 1 1 0 (.num 0) (.c1 .len (.var 0))]⟩) ∨ (j = 1 ∧ m = ⟨false, .row [.u8] (.var 0)⟩) ∨ (j = 2 ∧ m = ⟨true, .cells [.sn]⟩) ∨ (j = 3 ∧ m = ⟨true, .cells [.i .i64 (.num 0)]⟩) ∨ (j = 4 ∧ m = ⟨false, .cells (cellsV 1 kHead)⟩) := by
 match j, h with
 | 0, h => injection h with h; exact .inl ⟨rfl, h.symm⟩
 | 1, h => injection h with h; exact .inr (.inl ⟨rfl, h.symm⟩)
 | 2, h => injection h with h; exact .inr (.inr (.inl ⟨rfl, h.symm⟩))
 | 3, h => injection h with h; exact .inr (.inr (.inr (.inl ⟨rfl, h.symm⟩)))
 | 4, h => injection h with h; exact .inr (.inr (.inr (.inr ⟨rfl, h.symm⟩)))
 | j + 5, h => cases h
def beWith (β : Map) (ph : Place) : Map := fun j => if j = 4 then some ph else β j
theorem sk_mem2 {B : Nat} {ph : Place} (hm : SkMem w0 pl2 pl4 pl5 q W β) (hH : GoodInts kHead H) (hc : ∀ i v, (ints kHead H)[i]? = some v → W.cell? ⟨ph.b, ph.o + i, none⟩ = some v) (hsz : 73 ≤ ph.sz) (hB : B ≤ ph.b) (h2 : pl2.b < B) (h4 : pl4.b < B) (h5 : pl5.b < B) :
   memRep (T.den ΦP (envH q H)) (beWith β ph) W (look skBs2) := by
 have hm1 := sk_env (envH_0 q H) hm.mem
 have old : ∀ j, j < 4 → beWith β ph j = β j := fun j hj => if_neg (by omega)
 have r : ∀ j m m0, look skBs j = some m0 → m.k = m0.k → (m.rw = true → m0.rw = true) → (∀ b b' : Map, ∀ E E' : Ev, True) → j < 4 → ∃ pl, beWith β ph j = some pl ∧ MB.rep (T.den ΦP (envH q H)) (beWith β ph) W pl m := by
   intro j m m0 h0 hk hw _ hj
   obtain ⟨pl, hb, hr⟩ := hm1.1 j m0 h0
   refine ⟨pl, (old j hj).trans hb, ?_, fun h => hr.2 (hw h)⟩
   rw [hk]
   have hle : β.le (beWith β ph) := fun i p hi => by
     by_cases e : i = 4
     · subst e; rw [hm.free 4 (Nat.le_refl _)] at hi; cases hi
     · rw [beWith, if_neg e]; exact hi
   exact (MB.rep_keep hr hle (fun _ => rfl)).1
 refine ⟨fun j m hj => ?_, fun j j' m m' pl pl' hne hj hj' hrw hb hb' hz hz' => ?_⟩
 · rcases skBs2_cases hj with ⟨rfl, rfl⟩ | ⟨rfl, rfl⟩ | ⟨rfl, rfl⟩ | ⟨rfl, rfl⟩ | ⟨rfl, rfl⟩
   · exact r 0 _ _ rfl rfl (fun h => h) (fun _ _ _ _ => trivial) (by decide)
   · exact r 1 _ _ rfl rfl (fun h => by cases h) (fun _ _ _ _ => trivial) (by decide)
   · exact r 2 _ _ rfl rfl (fun h => h) (fun _ _ _ _ => trivial) (by decide)
   · exact r 3 _ _ rfl rfl (fun h => h) (fun _ _ _ _ => trivial) (by decide)
   · refine ⟨ph, rfl, ⟨by show (cellsV 1 kHead).length ≤ ph.sz; exact hsz, fun i x hx => ?_⟩, fun h => by cases h⟩
     obtain ⟨v, hv, hr⟩ := repL_get (cellsV_rep (Φ := ΦP) (β := beWith β ph) hH.1 (envH_at q H)) hx
     exact ⟨v, hc i v hv, hr⟩
 · have hlt : j < 4 ∧ (∃ m0, look skBs j = some m0 ∧ m0.rw = true) ∧ (pl.b < B) := by
     rcases skBs2_cases hj with ⟨rfl, rfl⟩ | ⟨rfl, rfl⟩ | ⟨rfl, rfl⟩ | ⟨rfl, rfl⟩ | ⟨rfl, rfl⟩
     · rw [old 0 (by decide), hm.b0] at hb; injection hb with hb; subst hb; exact ⟨by decide, ⟨_, rfl, rfl⟩, h2⟩
     · cases hrw
     · rw [old 2 (by decide), hm.b2] at hb; injection hb with hb; subst hb; exact ⟨by decide, ⟨_, rfl, rfl⟩, h4⟩
     · rw [old 3 (by decide), hm.b3] at hb; injection hb with hb; subst hb; exact ⟨by decide, ⟨_, rfl, rfl⟩, h5⟩
     · cases hrw
   obtain ⟨hj4, ⟨m0, hm0, hw0⟩, hlt⟩ := hlt
   rw [old j hj4] at hb
   by_cases e : j' = 4
   · subst e
     have : ph = pl' := by injection hb'
     subst this
     omega
   · have hj4' : j' < 4 := by
       rcases skBs2_cases hj' with ⟨rfl, _⟩ | ⟨rfl, _⟩ | ⟨rfl, _⟩ | ⟨rfl, _⟩ | ⟨rfl, _⟩ <;> omega
     rw [old j' hj4'] at hb'
     obtain ⟨m1, hm1'⟩ : ∃ m1, look skBs j' = some m1 := by
       rcases skBs2_cases hj' with ⟨rfl, _⟩ | ⟨rfl, _⟩ | ⟨rfl, _⟩ | ⟨rfl, _⟩ | ⟨rfl, _⟩
       · exact ⟨_, rfl⟩
       · exact ⟨_, rfl⟩
       · exact ⟨_, rfl⟩
       · exact ⟨_, rfl⟩
       · exact absurd rfl e
     exact hm.mem.2 j j' m0 m1 pl pl' hne hm0 hm1' hw0 hb hb' hz hz'
theorem den_skE (hH : GoodInts kHead H) : (T.den ΦP (envH q H) skE).int = pushErr H q := by
 show pushErr (T.den ΦP (envH q H) (varsT 1 73)).list q = _
 rw [vars_is (head_len73 hH) (envH_at q H)]
theorem den_skRow (hH : GoodInts kHead H) : (T.den ΦP (envH q H) skRow).list = pushRow H q := by
 show pushRow (T.den ΦP (envH q H) (varsT 1 73)).list q = _
 rw [vars_is (head_len73 hH) (envH_at q H)]
def beNew (β β' : Map) : Map := fun j => if j = 1 then β' 79 else if j < 4 then β j else none
theorem sk_body {B : Nat} (hm : SkMem w0 pl2 pl4 pl5 q W β) (hH : GoodInts kHead H) (hq : Bytes q) (hs : q.length ≤ 140737488351232) (ha : SkAct pl2 pl4 pl5 a) (hh : SkHd H B a W) (h2 : pl2.b < B) (h4 : pl4.b < B) (h5 : pl5.b < B) (g2 : w0.heap.size ≤ pl2.b) (g4 : w0.heap.size ≤ pl4.b) (g5 : w0.heap.size ≤ pl5.b) :
   (skCb Go.Proofs.Tryz.prog).wpIn (Rd l) m Go.Proofs.Tryz.prog (fun e a' W' => ((e = .normal ∧ pushErr H q = 0 ∧ ∃ β', SkMem w0 pl2 pl4 pl5 (pushRow H q) W' β') ∨ (e = .ret ∧ ¬ pushErr H q = 0 ∧ SkEnd w0 pl4 pl5 (pushErr H q) W')) ∧ W.heap.size ≤ W'.heap.size ∧ (∀ k, k < W.heap.size → k ≠ pl2.b → k ≠ pl4.b → k ≠ pl5.b → W'.heap[k]? = W.heap[k]?)) a W := by
 obtain ⟨ph, t7, hcell, hsz, hB, arr, ty, harr⟩ := hh
 have hmem := sk_mem2 hm hH hcell hsz hB h2 h4 h5
 have old : ∀ j, j < 4 → beWith β ph j = β j := fun j hj => if_neg (by omega)
 have hph : ph.b < W.heap.size := (Array.getElem?_eq_some_iff.1 harr).1
 have hsim : Sim ΦP (envH q H) ⟨a.tmps.size, someMe skBs2, beWith β ph, W, 5, a.defers⟩ skB0 (beWith β ph) a W := sim_new (skFs_ok hH hq hs) (fun t v hv hu => by
   match t, hv with
   | 2, hv => injection hv with hv; subst hv; exact ⟨_, ha.t2, ptr_rep ((old 0 (by decide)).trans hm.b0)⟩
   | 4, hv => injection hv with hv; subst hv; exact ⟨_, ha.t4, ptr_rep ((old 2 (by decide)).trans hm.b2)⟩
   | 5, hv => injection hv with hv; subst hv; exact ⟨_, ha.t5, ptr_rep ((old 3 (by decide)).trans hm.b3)⟩
   | 7, hv => injection hv with hv; subst hv; exact ⟨_, t7, ptr_rep rfl⟩) (fun j pl hj hz => by
     by_cases e : j = 4
     · subst e
       have : ph = pl := by injection hj
       subst this; exact hph
     · rw [beWith, if_neg e] at hj; exact hm.heap j pl hj hz) hmem (fun j hj => by rw [beWith, if_neg (by omega)]; exact hm.free j (by omega))
 rw [ha.size, ha.df] at hsim
 rw [← skX_P]
 refine wpIn_mono (code_in skX_ok (skCb Go.Proofs.Tryz.prog) (by kernel_rfl) skB0 (fun _ _ => False) (envH q H) (fun _ ρ' r => ρ' = envH q H ∧ ((pushErr H q = 0 ∧ r = (.norm, (skN Go.Proofs.Tryz.prog))) ∨ (¬ pushErr H q = 0 ∧ r = (.ret, (skR Go.Proofs.Tryz.prog))))) (J := eqJ) (L := noAnn) (by
   show (evCode (skX Go.Proofs.Tryz.prog) noAnn 30 (skCb Go.Proofs.Tryz.prog) skB0).ok _ _ _ _ _
   rw [eb_is]
   refine ⟨fun c => ?_, fun c => ?_⟩
   · rw [eq_t, den_skE hH] at c
     obtain ⟨k, P⟩ := pushed hH hq c
     exact ⟨by rw [bytes_t, den_skRow hH]; exact P.bytes, by rw [le_t, int_len, den_skRow hH]; have := P.short; show _ ≤ (2048 : Int); omega, rfl, .inl ⟨c, rfl⟩⟩
   · rw [eq_f, den_skE hH] at c
     exact ⟨rfl, .inr ⟨c, rfl⟩⟩) (beWith β ph) a W hsim) ?_
 rintro e a' W' ⟨B', ρ', r, β', ⟨rfl, hor⟩, rfl, hs', haf, _⟩
 obtain ⟨d, hd, hc⟩ := hs'.cur
 have hb : ∀ j, j < 4 → β' j = β j := fun j hj => (haf.beta j (by show j < 5; omega)).trans (old j hj)
 have hkeep : (∀ j, hasK d j = true → j < 5 → j = 0 ∨ j = 2 ∨ j = 3) → ∀ k, k < W.heap.size → k ≠ pl2.b → k ≠ pl4.b → k ≠ pl5.b → W'.heap[k]? = W.heap[k]? := fun hk k hk1 n2 n4 n5 => hc.run.kept k hk1 (fun j pl h hj hbj hz => by
   have hbj : beWith β ph j = some pl := hbj
   rcases hk j h hj with rfl | rfl | rfl
   · rw [old 0 (by decide), hm.b0] at hbj; injection hbj with hbj; subst hbj; exact n2
   · rw [old 2 (by decide), hm.b2] at hbj; injection hbj with hbj; subst hbj; exact n4
   · rw [old 3 (by decide), hm.b3] at hbj; injection hbj with hbj; subst hbj; exact n5)
 have hbel : (∀ k, k < W.heap.size → k ≠ pl2.b → k ≠ pl4.b → k ≠ pl5.b → W'.heap[k]? = W.heap[k]?) → Below w0.heap.size w0 W' := fun hk => ⟨hc.run.os.trans hm.below.os, hc.run.tape.trans hm.below.tape, hc.run.output.trans hm.below.output, Nat.le_trans hm.below.size hc.run.size, fun k h => (hk k (Nat.lt_of_lt_of_le h hm.below.size) (by omega) (by omega) (by omega)).trans (hm.below.block k h)⟩
 rcases hor with ⟨hz, rfl⟩ | ⟨hz, rfl⟩
 · have hdd : d = dOf (skN Go.Proofs.Tryz.prog) skB0 := (List.append_cancel_right (dN_is.1.symm.trans hd)).symm
   have hks := hkeep (fun j h hj => by
     have := keysAre_mem dN_is.2.1 (by rw [← hdd]; exact h)
     simp at this; omega)
   refine ⟨.inl ⟨rfl, hz, beNew β β', ?_⟩, hc.run.size, hks⟩
   have f : ∀ j, j < 4 → beNew β β' j = β' (if j = 1 then 79 else j) := fun j hj => by
     unfold beNew
     by_cases e : j = 1
     · rw [if_pos e, if_pos e]
     · rw [if_neg e, if_neg e, if_pos hj, hb j hj]
   obtain ⟨p0, b0, r0⟩ := hc.me.1 0 ⟨true, .cells [.s 79 1 0 (.num 0) (.c1 .len skRow)]⟩ (by kernel_rfl)
   obtain ⟨p1, b1, r1⟩ := hc.me.1 79 ⟨true, .row [.u8] skRow⟩ (by kernel_rfl)
   obtain ⟨p2, b2, r2⟩ := hc.me.1 2 ⟨true, .cells [.sn]⟩ (by kernel_rfl)
   obtain ⟨p3, b3, r3⟩ := hc.me.1 3 ⟨true, .cells [.i .i64 (.num 0)]⟩ (by kernel_rfl)
   have hlook : ∀ j m, look skBs j = some m → ∃ m', lookM (skN Go.Proofs.Tryz.prog).me (if j = 1 then 79 else j) = some m' ∧ m'.rw = m.rw ∧ j < 4 := fun j m hj => by
     rcases skBs_cases hj with ⟨rfl, rfl⟩ | ⟨rfl, rfl⟩ | ⟨rfl, rfl⟩ | ⟨rfl, rfl⟩
     · exact ⟨⟨true, .cells [.s 79 1 0 (.num 0) (.c1 .len skRow)]⟩, by kernel_rfl, rfl, by decide⟩
     · exact ⟨⟨true, .row [.u8] skRow⟩, by kernel_rfl, rfl, by decide⟩
     · exact ⟨⟨true, .cells [.sn]⟩, by kernel_rfl, rfl, by decide⟩
     · exact ⟨⟨true, .cells [.i .i64 (.num 0)]⟩, by kernel_rfl, rfl, by decide⟩
   refine ⟨(f 0 (by decide)).trans ((hb 0 (by decide)).trans hm.b0), (f 2 (by decide)).trans ((hb 2 (by decide)).trans hm.b2), (f 3 (by decide)).trans ((hb 3 (by decide)).trans hm.b3), fun j hj => by
       unfold beNew; rw [if_neg (by omega), if_neg (by omega)], fun j pl hj hzz => ?_, ⟨fun j mm hj => ?_, fun j j' mm mm' pl pl' hne hj hj' hrw hbj hbj' hz1 hz2 => ?_⟩, fun pl hj hzz => ?_, hbel hks⟩
   · by_cases h4' : j < 4
     · rw [f j h4'] at hj; exact hc.heap _ pl hj hzz
     · unfold beNew at hj; rw [if_neg (by omega), if_neg h4'] at hj; cases hj
   · rcases skBs_cases hj with ⟨rfl, rfl⟩ | ⟨rfl, rfl⟩ | ⟨rfl, rfl⟩ | ⟨rfl, rfl⟩
     · refine ⟨p0, (f 0 (by decide)).trans b0, ⟨r0.1.1, fun i x hx => ?_⟩, r0.2⟩
       match i, hx with
       | 0, hx =>
         injection hx with hx
         subst hx
         obtain ⟨v, hv, hr⟩ := r0.1.2 0 _ rfl
         refine ⟨v, hv, ?_⟩
         obtain ⟨pl, hpl, aa, nn, cc, rfl, q1, q2, q3, q4, q5⟩ := hr
         refine ⟨pl, (f 1 (by decide)).trans hpl, aa, nn, cc, rfl, ?_, q2, q3, q4, q5⟩
         rw [q1, int_len, int_len, den_skRow hH]; rfl
     · refine ⟨p1, (f 1 (by decide)).trans b1, ?_, r1.2⟩
       have := r1.1
       show rowRep W' p1 [.u8] (pushRow H q)
       rw [← den_skRow hH]; exact this
     · refine ⟨p2, (f 2 (by decide)).trans b2, ⟨r2.1.1, fun i x hx => ?_⟩, r2.2⟩
       match i, hx with
       | 0, hx => injection hx with hx; subst hx; obtain ⟨v, hv, hr⟩ := r2.1.2 0 _ rfl; exact ⟨v, hv, hr⟩
     · refine ⟨p3, (f 3 (by decide)).trans b3, ⟨r3.1.1, fun i x hx => ?_⟩, r3.2⟩
       match i, hx with
       | 0, hx => injection hx with hx; subst hx; obtain ⟨v, hv, hr⟩ := r3.1.2 0 _ rfl; exact ⟨v, hv, hr⟩
   · obtain ⟨m1, e1, w1, l1⟩ := hlook j mm hj
     obtain ⟨m2, e2, w2, l2⟩ := hlook j' mm' hj'
     rw [f j l1] at hbj
     rw [f j' l2] at hbj'
     exact hc.me.2 _ _ m1 m2 pl pl' (by split <;> split <;> omega) e1 e2 (w1.trans hrw) hbj hbj' hz1 hz2
   · rw [f 1 (by decide)] at hj
     rcases hc.run.new 79 pl (by show 5 ≤ 79; decide) hj hzz with h | ⟨k, pk, h1, h2', _⟩
     · exact Nat.le_trans hm.below.size h
     · exact absurd h2' (allSome_look (by rw [hdd]; exact dN_is.2.2) h1)
 · have hdd : d = dOf (skR Go.Proofs.Tryz.prog) skB0 := (List.append_cancel_right (dR_is.1.symm.trans hd)).symm
   have hks := hkeep (fun j h hj => by
     have := keysAre_mem dR_is.2.1 (by rw [← hdd]; exact h)
     simp at this; omega)
   refine ⟨.inr ⟨rfl, hz, β', (hb 2 (by decide)).trans hm.b2, (hb 3 (by decide)).trans hm.b3, ⟨fun j mm hj => ?_, fun j j' mm mm' pl pl' hne hj hj' hrw hbj hbj' hz1 hz2 => ?_⟩, hbel hks⟩, hc.run.size, hks⟩
   · obtain ⟨p2, b2, r2⟩ := hc.me.1 2 ⟨true, .cells [.sn]⟩ (by kernel_rfl)
     obtain ⟨p3, b3, r3⟩ := hc.me.1 3 ⟨true, .cells [.i .i64 skE]⟩ (by kernel_rfl)
     match j, hj with
     | 2, hj =>
       injection hj with hj; subst hj
       refine ⟨p2, b2, ⟨r2.1.1, fun i x hx => ?_⟩, r2.2⟩
       match i, hx with
       | 0, hx => injection hx with hx; subst hx; obtain ⟨v, hv, hr⟩ := r2.1.2 0 _ rfl; exact ⟨v, hv, hr⟩
     | 3, hj =>
       injection hj with hj; subst hj
       refine ⟨p3, b3, ⟨r3.1.1, fun i x hx => ?_⟩, r3.2⟩
       match i, hx with
       | 0, hx =>
         injection hx with hx; subst hx
         obtain ⟨v, hv, hr⟩ := r3.1.2 0 _ rfl
         have hr : v = .int .i64 (T.den ΦP (envH q H) skE).int := hr
         exact ⟨v, hv, by rw [hr, den_skE hH]; rfl⟩
   · have h2' : ∀ j m, look (skEs (pushErr H q)) j = some m → ∃ m', lookM (skR Go.Proofs.Tryz.prog).me j = some m' ∧ m'.rw = m.rw := fun j m hj => by
       match j, hj with
       | 2, hj => injection hj with hj; subst hj; exact ⟨⟨true, .cells [.sn]⟩, by kernel_rfl, rfl⟩
       | 3, hj => injection hj with hj; subst hj; exact ⟨⟨true, .cells [.i .i64 skE]⟩, by kernel_rfl, rfl⟩
     obtain ⟨m1, e1, w1⟩ := h2' j mm hj
     obtain ⟨m2, e2, w2⟩ := h2' j' mm' hj'
     exact hc.me.2 _ _ m1 m2 pl pl' hne e1 e2 (w1.trans hrw) hbj hbj' hz1 hz2
end
end Go.Proofs.YtfhjlimdakphcaaGreat.Sx
set_option linter.unusedVariables false
set_option linter.unusedSimpArgs false
set_option maxRecDepth 100000
namespace Go.Proofs.YtfhjlimdakphcaaGreat.Sx
open Go Go.RowKit Go.Shelf
theorem row_same {w w' : World} {pl : Place} {ks : List IntKind} {l : List Int} (h : w'.heap[pl.b]? = w.heap[pl.b]?) (hr : rowRep w pl ks l) : rowRep w' pl ks l :=
 ⟨hr.1, hr.2.1, fun i z hz => (cell_same (a := ⟨pl.b, pl.o + i, none⟩) h).trans (hr.2.2 i z hz)⟩
theorem load_head {w : World} {pl : Place} {L : List Int} {n i : Nat} (hr : rowRep w pl kHead L) (hl : L.length = 73 * n) (hi : i < n) : (Instr.loadAt 49 (.pointer (some ⟨pl.b, pl.o + i * 73, none⟩))).run Go.Proofs.Tryz.prog w = .ok (.agg (ints kHead (hdAt L i)).toArray) w := by
 obtain ⟨d, hu, hd⟩ := aggT_row (show aggT Go.Proofs.Tryz.prog 49 = some true by kernel_rfl)
 have hh : (hdAt L i).length = 73 := by rw [hdAt, List.length_take, List.length_drop]; omega
 have hlen : (ints kHead (hdAt L i)).length = 73 := (ints_length kHead (hdAt L i) (by rw [hh]; rfl)).trans hh
 refine run_loadAt_mid w pl.b _ _ _ d (fun j v hv => ?_) hu hd (by rw [hlen]; kernel_rfl)
 have hj : j < 73 := by rw [← hlen]; exact (List.getElem?_eq_some_iff.1 hv).1
 obtain ⟨z, hz⟩ : ∃ z, (hdAt L i)[j]? = some z := ⟨_, List.getElem?_eq_getElem (by rw [hh]; exact hj)⟩
 have hg := ints_get kHead (hdAt L i) j z (kHead[j]'hj) (List.getElem?_eq_getElem _) hz
 rw [hv] at hg
 injection hg with hg
 subst hg
 rw [hdAt, List.getElem?_take, if_pos hj, List.getElem?_drop] at hz
 have := hr.2.2 _ _ hz
 rw [show pl.o + i * 73 + j = pl.o + (73 * i + j) from by omega, this, show kHead.length = 73 from rfl, Nat.mul_add_mod, Nat.mod_eq_of_lt hj, List.getD_eq_getElem?_getD, List.getElem?_eq_getElem (by exact hj)]; rfl
def encH (L : List Int) {n : Nat} (x : Fin n) : Array Value := #[.int .i64 ((x.val : Nat) : Int), .agg (ints kHead (hdAt L x.val)).toArray]
def kpOf (Bs b : Nat) (W W' : World) : Prop := ∀ k, k = Bs ∨ k = b → W'.heap[k]? = W.heap[k]?
theorem back_stops {w : World} {Bs b : Nat} {a : Option Addr} {n c : Nat} {L : List Int} {pl : Place} (hn : n ≤ 140737488351232) (hBs : Bs < w.heap.size) (hc : w.cell? ⟨Bs, 0, none⟩ = some (.slice a n c))
   (hrow : 0 < n → a = some ⟨pl.b, pl.o, none⟩ ∧ rowRep w pl kHead L ∧ L.length = 73 * n ∧ b = pl.b ∧ pl.b < w.heap.size) :
   SeqStopsK Fence.wide 1 Go.Proofs.Tryz.prog 67 #[.pointer (some ⟨Bs, 0, none⟩)] (encH L (n := n)) (kpOf Bs b) (fun xs => xs.map Fin.val = (List.range n).reverse) (fun pre => ∃ k, k ≤ n ∧ pre.map Fin.val = (List.range n).reverse.take k) n w := by
 intro l J Jx W hW _ _ hY h0
 have hcW : W.cell? ⟨Bs, 0, none⟩ = some (.slice a n c) := (cell_same (a := ⟨Bs, 0, none⟩) (hW.block Bs hBs)).trans hc
 by_cases h : n = 0
 · subst h
   refine (iter_nil_in Fence.wide 1 trivial rfl l Bs (fun _ W => J [] W) W c a hcW h0).mono ?_
   rintro e W' ⟨he, hj⟩
   exact ⟨he, .inl ⟨[], rfl, hj⟩⟩
 · obtain ⟨ha, hr, hl, hb, hlt⟩ := hrow (by omega)
   subst hb
   subst ha
   refine (iter_in Fence.wide 1 trivial rfl (Nat.le_refl _) l Bs pl.b pl.o n c (fun i => .agg (ints kHead (hdAt L i)).toArray) hn (fun xs W => ∃ l' : List (Fin n), l'.map Fin.val = xs ∧ J l' W) (fun xs W => ∃ l' : List (Fin n), l'.map Fin.val = xs ∧ Jx l' W) (kpOf Bs pl.b) ?_ W
     (fun h1 h2 k hk => (h2 k hk).trans (h1 k hk)) (fun _ _ => rfl) (fun W' hk => (cell_same (a := ⟨Bs, 0, none⟩) (hk Bs (.inl rfl))).trans hcW) (fun i hi W' hk => load_head (row_same ((hk pl.b (.inr rfl)).trans (hW.block _ hlt)) hr) hl hi) ⟨[], rfl, h0⟩).mono ?_
   · rintro pre x W1 hx ⟨l', rfl, hj⟩ hlen
     obtain ⟨fn, tmps, assign, body, hy, hR⟩ := hY l' ⟨x, hx⟩ W1 hj (by simpa using hlen)
     refine ⟨fn, tmps, assign, body, hy, hR.mono ?_⟩
     rintro e W' (⟨rfl, h1, h2⟩ | ⟨rfl, h1⟩)
     · exact .inl ⟨rfl, ⟨_, by simp, h1⟩, h2⟩
     · exact .inr ⟨rfl, _, by simp, h1⟩
   · rintro e W' ⟨he, ⟨ys, rfl, l', h1, h2⟩ | ⟨pre, ⟨k, hk, rfl⟩, l', h1, h2⟩⟩
     · exact ⟨he, .inl ⟨l', h1, h2⟩⟩
     · exact ⟨he, .inr ⟨l', ⟨k, hk, h1⟩, h2⟩⟩
def runP (L : List Int) : List Nat → List Int → Option (List Int)
 | [], q => some q
 | i :: is, q => if pushErr (hdAt L i) q = 0 then runP L is (pushRow (hdAt L i) q) else none
theorem runP_snoc (L : List Int) (i : Nat) : ∀ (is : List Nat) (q : List Int), runP L (is ++ [i]) q = (runP L is q).bind fun r => if pushErr (hdAt L i) r = 0 then some (pushRow (hdAt L i) r) else none
 | [], q => by simp [runP]
 | j :: is, q => by
   simp only [List.cons_append, runP]
   split
   · exact runP_snoc L i is _
   · rfl
theorem runP_at {L p : List Int} {n : Nat} (hi : StkIn L p n) : ∀ k, k ≤ n → ∀ q, runP L ((List.range n).reverse.take k) p = some q → StkAt L p (n - k) q
 | 0, _, q, h => by
   simp only [List.take_zero, runP, Option.some.injEq] at h
   subst h; exact hi.start
 | k + 1, hk, q, h => by
   rw [rev_take (m := n - 1 - k) (by omega), runP_snoc, Option.bind_eq_some_iff] at h
   obtain ⟨r, hr, h⟩ := h
   have ih := runP_at hi k (by omega) r hr
   rw [show n - k = (n - 1 - k) + 1 from by omega] at ih
   split at h
   · rename_i hz
     injection h with h
     subst h
     rw [show n - (k + 1) = n - 1 - k from by omega]
     exact (ih.step hi (by omega) hz).1
   · cases h
theorem own_mem {E : Ev} {β : Map} {w w' : World} {me : Nat → Option MB} {row : Option Nat} (hm : memRep E β w me) (hrw : ∀ j m, me j = some m → m.rw = true) (hg : w.grownBy w' row) (hrow : ∀ r, row = some r → ∃ o : Obj, w.heap[r]? = some o ∧ o.isCells = false) : memRep E β w' me :=
 mem_same hm (fun j m pl hj hb hz => by
   obtain ⟨pl', hb', hr⟩ := hm.1 j m hj
   rw [hb] at hb'
   injection hb' with hb'
   subst hb'
   obtain ⟨_, arr, ty, ha, _⟩ := own_cells hr (hrw j m hj) hz
   refine hg.block pl.b (Array.getElem?_eq_some_iff.1 ha).1 (fun e => ?_)
   obtain ⟨o, ho, hc⟩ := hrow pl.b e.symm
   rw [ha] at ho
   injection ho with ho
   subst ho; cases hc)
theorem own_put {E : Ev} {β : Map} {w : World} {me : Nat → Option MB} {D : Nat} {o o' : Obj} (hm : memRep E β w me) (hrw : ∀ j m, me j = some m → m.rw = true) (hD : w.heap[D]? = some o) (ho : o.isCells = false) : memRep E β (w.putObj D o') me :=
 own_mem hm hrw (grownBy_putObj' w D o') (fun r e => by injection e with e; subst e; exact ⟨o, hD, ho⟩)
def rwAll : List (Nat × Option MB) → Bool
 | [] => true
 | (_, some m) :: l => m.rw && rwAll l
 | (_, none) :: l => rwAll l
theorem rwAll_look : ∀ {d : List (Nat × Option MB)}, rwAll d = true → ∀ {k : Nat} {m : MB}, lookM d k = some m → m.rw = true
 | [], _, k, m, h => by cases h
 | (i, some x) :: d, ha, k, m, h => by
   simp only [rwAll, Bool.and_eq_true] at ha
   simp only [lookM] at h
   split at h
   · injection h with h; subst h; exact ha.1
   · exact rwAll_look ha.2 h
 | (i, none) :: d, ha, k, m, h => by
   simp only [lookM] at h
   split at h
   · cases h
   · exact rwAll_look (d := d) ha h
theorem skBs_rw {j : Nat} {m : MB} (h : look skBs j = some m) : m.rw = true := by
 rcases skBs_cases h with ⟨_, rfl⟩ | ⟨_, rfl⟩ | ⟨_, rfl⟩ | ⟨_, rfl⟩ <;> rfl
theorem skEs_rw {e : Int} {j : Nat} {m : MB} (h : look (skEs e) j = some m) : m.rw = true := by
 match j, h with
 | 2, h => injection h with h; subst h; rfl
 | 3, h => injection h with h; subst h; rfl
theorem code_wide {c : Code} {S : St} {B : BK} {ρ : Env} {K : BK → Env → Ex × St → Prop} {en : En} {β : Map} {a : Act} {w : World} {n : Nat} (h : (evCode (skX Go.Proofs.Tryz.prog) noAnn en.n c S).ok ΦP eqJ B ρ K) (hs : Sim ΦP ρ en S β a w) : c.wpIn Fence.wide n Go.Proofs.Tryz.prog (Post ΦP en K B ρ S β) a w := by
 have := code_sound (J := eqJ) (L := noAnn) skX_ok c S B ρ K h β a w hs
 rw [skX_P] at this
 exact wpIn_wide.2 this
theorem base_no {j : Nat} {m : MB} (h : lookM (someMe (tStack 3).bs) j = some m) : m.rw = false := by
 match j, h with
 | 0, h => injection h with h; subst h; rfl
 | 1, h => injection h with h; subst h; rfl
theorem run_calm {β β' : Map} {w w' : World} {d : List (Nat × Option MB)} (hr : Run (someMe (tStack 3).bs) β w 2 d β' w') : Below w.heap.size w w' :=
 ⟨hr.os, hr.tape, hr.output, hr.size, fun k hk => run_block hr hk (fun j m pl hj hw _ _ => by rw [base_no hj] at hw; cases hw)⟩
theorem run_new {β β' : Map} {w w' : World} {d : List (Nat × Option MB)} (hr : Run (someMe (tStack 3).bs) β w 2 d β' w') {j : Nat} {pl : Place} (hj : 2 ≤ j) (hb : β' j = some pl) (hz : pl.sz ≠ 0) : w.heap.size ≤ pl.b := by
 rcases hr.new j pl hj hb hz with h | ⟨k, pk, h1, _, h3, _⟩
 · exact h
 · obtain ⟨m, hm, hw⟩ := hr.wr k h1 h3
   rw [base_no hm] at hw; cases hw
theorem getD_of {t : Array Value} {i : Nat} {v : Value} (h : t[i]? = some v) : t.getD i undef = v := by rw [Array.getD_eq_getD_getElem?, h]; rfl
theorem set_other {t : Array Value} {i j : Nat} {v x : Value} (h : t[i]? = some v) (hne : i ≠ j) : (t.setIfInBounds j x)[i]? = some v := by rw [Array.getElem?_setIfInBounds_ne (Ne.symm hne)]; exact h
theorem set_self {t : Array Value} {i : Nat} {x : Value} (h : i < t.size) : (t.setIfInBounds i x)[i]? = some x := by rw [Array.getElem?_setIfInBounds_self_of_lt h]
end Go.Proofs.YtfhjlimdakphcaaGreat.Sx
set_option linter.unusedVariables false
set_option linter.unusedSimpArgs false
set_option maxRecDepth 100000
namespace Go.Proofs.YtfhjlimdakphcaaGreat.Sx
open Go Go.RowKit Go.Shelf
theorem skT1_rw : rwAll (skT1 Go.Proofs.Tryz.prog).me = true := by kernel_rfl
set_option maxHeartbeats 1000000 in
theorem stack_rest {ρ : Env} {res : Res} {β : Map} {w w3 w4 : World} {Q : Exit → Act → World → Prop} {p L : List Int} {n c b2 s2 b4 s4 b5 s5 bb : Nat} {aa : Option Addr} {pl1 : Place} {a4 : Act} {βs : Map}
   (hQ : Q = bodyPostM Fence.wide 2 Go.Proofs.Tryz.prog Go.Proofs.Tryz.f18 (fun e w' => ∃ v β', e = .returned v ∧ res.val.rep (T.den ΦP ρ) β' v ∧ StepR (T.den ΦP ρ) (look (tStack 3).bs) β w (lenN (tStack 3).bs) res.eff res.nb β' w'))
   (hfree : ∀ j, 2 ≤ j → β j = none) (hn1 : n ≤ 140737488351232) (hi : StkIn L p n) (hp : p = (ρ 0).list) (hL : L = (ρ 2).list) (h8 : n ≤ 8) (hr : StkRes ρ 3 400 res) (l2 : b2 < w3.heap.size) (l4 : b4 < w3.heap.size) (l5 : b5 < w3.heap.size)
   (g2 : w.heap.size ≤ b2) (g4 : w.heap.size ≤ b4) (g5 : w.heap.size ≤ b5) (t2 : a4.tmps[2]? = some (.pointer (some ⟨b2, 0, none⟩))) (t4 : a4.tmps[4]? = some (.pointer (some ⟨b4, 0, none⟩))) (t5 : a4.tmps[5]? = some (.pointer (some ⟨b5, 0, none⟩)))
   (u16 : a4.eval (.tmp 16) = .func (.func 67) #[] #[.pointer (some ⟨w3.heap.size, 0, none⟩)]) (hsz4 : a4.tmps.size = 30) (df4 : a4.defers = []) (sz4 : w4.heap.size = w3.heap.size + 1)
   (hbox : w4.cell? ⟨w3.heap.size, 0, none⟩ = some (.slice aa n c)) (hbel4 : Below w.heap.size w w4) (hrow : 0 < n → aa = some ⟨pl1.b, pl1.o, none⟩ ∧ rowRep w4 pl1 kHead L ∧ L.length = 73 * n ∧ pl1.b < w.heap.size) (hbb : bb = if n = 0 then w3.heap.size else pl1.b) (hbblt : bb ≤ w3.heap.size)
   (hm0 : SkMem w ⟨b2, 0, s2⟩ ⟨b4, 0, s4⟩ ⟨b5, 0, s5⟩ p w4 βs) (hws : w.heap.size ≤ w4.heap.size) :
   (Code.block 0 (.rangeFunc (.tmp 16) #[17, 18] (skCa Go.Proofs.Tryz.prog) (skCb Go.Proofs.Tryz.prog))).wpIn Fence.wide 2 Go.Proofs.Tryz.prog (Exit.then (fun a w => (skCt Go.Proofs.Tryz.prog).wpIn Fence.wide 2 Go.Proofs.Tryz.prog Q a w) Q) a4 w4 := by
 have bbn : 0 < n → bb = pl1.b ∧ bb < w.heap.size := fun h => by
   rw [hbb, if_neg (by omega)]; exact ⟨rfl, (hrow h).2.2.2⟩
 obtain ⟨B, hB⟩ : ∃ B, B = max b2 (max b4 b5) + 1 := ⟨_, rfl⟩
 refine wpIn_block ?_
 refine wpIn_rangeFunc_ownH (F := Fence.wide) (n := 2) rfl (by decide) (gf := 67) (lb := #[.pointer (some ⟨w3.heap.size, 0, none⟩)]) u16 trivial (enters_of Go.Proofs.Tryz.func67 (by kernel_rfl) rfl) (encs := encH L (n := n)) (Kp := kpOf w3.heap.size bb) (N := n) (w0 := w4)
   (back_stops (pl := pl1) hn1 (by omega) hbox (fun h => ⟨(hrow h).1, (hrow h).2.1, (hrow h).2.2.1, (bbn h).1, Nat.lt_of_lt_of_le (hrow h).2.2.2 hws⟩))
   (fun h1 h2 k hk => (h2 k hk).trans (h1 k hk)) (fun W l o o' hl _ _ _ k hk => World.putObj_heap_other (by rcases hk with rfl | rfl <;> omega)) (Below.refl _ _) (fun _ => rfl)
   (fun pre W => w4.heap.size ≤ W.heap.size ∧ ∃ q β', runP L (pre.map Fin.val) p = some q ∧ Bytes q ∧ q.length ≤ 140737488351232 ∧ SkMem w ⟨b2, 0, s2⟩ ⟨b4, 0, s4⟩ ⟨b5, 0, s5⟩ q W β')
   (fun cd pre W => cd = .ret ∧ ∃ (pre' : List (Fin n)) (x : Fin n) (q : List Int), pre = pre' ++ [x] ∧ runP L (pre'.map Fin.val) p = some q ∧ ¬ pushErr (hdAt L x.val) q = 0 ∧ SkEnd w ⟨b4, 0, s4⟩ ⟨b5, 0, s5⟩ (pushErr (hdAt L x.val) q) W)
   ?hI ?hIx ⟨Nat.le_refl _, p, βs, rfl, hi.bytes, hi.short, hm0⟩ (fun x a' W => SkAct ⟨b2, 0, s2⟩ ⟨b4, 0, s4⟩ ⟨b5, 0, s5⟩ a' ∧ SkHd (hdAt L x.val) B a' W) ?hAx ?hassign ?hbody ?hdone ?hstop
 case hI =>
   rintro pre W W' row ⟨hsz, q, β', h1, h2, h3, hm⟩ hg hrw
   refine ⟨Nat.le_trans hsz hg.size, q, β', h1, h2, h3, hm.b0, hm.b2, hm.b3, hm.free, fun j pl hj hz => Nat.lt_of_lt_of_le (hm.heap j pl hj hz) hg.size, own_mem hm.mem (fun j m h => skBs_rw h) hg (fun r e => (hrw r e).2), hm.own, ?_⟩
   exact ownFrom_below (β := Unit) (Nat.le_refl _) hws () W W' row hm.below hg hrw
 case hIx =>
   rintro cd pre W W' row ⟨rfl, pre', x, q, h1, h2, h3, β', k1, k2, k3, k4⟩ hg hrw
   exact ⟨rfl, pre', x, q, h1, h2, h3, β', k1, k2, own_mem k3 (fun j m h => skEs_rw h) hg (fun r e => (hrw r e).2), ownFrom_below (β := Unit) (Nat.le_refl _) hws () W W' row k4 hg hrw⟩
 case hAx =>
   rintro x a' _ W W' row ⟨hact, ph, k1, k2, k3, k4, arr, ty, k5⟩ hg hrw
   have hb : W'.heap[ph.b]? = W.heap[ph.b]? := hg.block ph.b (Array.getElem?_eq_some_iff.1 k5).1 (fun e => by
     obtain ⟨_, o, ho, hc⟩ := hrw ph.b e.symm
     rw [k5] at ho
     injection ho with ho
     subst ho; cases hc)
   exact ⟨hact, ph, k1, fun i v hv => (cell_same (a := ⟨ph.b, ph.o + i, none⟩) hb).trans (k2 i v hv), k3, k4, arr, ty, hb.trans k5⟩
 case hassign =>
   rintro l pre x W K ⟨hsz, q, β', h1, h2, h3, hm⟩ hK
   have hact : SkAct ⟨b2, 0, s2⟩ ⟨b4, 0, s4⟩ ⟨b5, 0, s5⟩ { tmps := ((#[17, 18] : Array Tmp).zip (encH L x)).foldl (fun t (p, v) => t.setIfInBounds p v) a4.tmps, defers := [] } ∧
       (((#[17, 18] : Array Tmp).zip (encH L x)).foldl (fun t (p, v) => t.setIfInBounds p v) a4.tmps)[18]? = some (.agg (ints kHead (hdAt L x.val)).toArray) := by
     have e : ((#[17, 18] : Array Tmp).zip (encH L x)).foldl (fun t (p, v) => t.setIfInBounds p v) a4.tmps = (a4.tmps.setIfInBounds 17 (.int .i64 ((x.val : Nat) : Int))).setIfInBounds 18 (.agg (ints kHead (hdAt L x.val)).toArray) := by simp [encH]
     rw [e]
     exact ⟨⟨by show ((a4.tmps.setIfInBounds 17 _).setIfInBounds 18 _).size = 30; rw [Array.size_setIfInBounds, Array.size_setIfInBounds, hsz4], rfl, set_other (set_other t2 (by decide)) (by decide), set_other (set_other t4 (by decide)) (by decide), set_other (set_other t5 (by decide)) (by decide)⟩,
       set_self (by rw [Array.size_setIfInBounds, hsz4]; decide)⟩
   refine wpIn_mono (sk_assign hm (hi.good x.isLt) h2 h3 hact.1 hact.2) ?_
   rintro e a' W' ⟨rfl, k1, k2, k3, k4, ph, k5, k6, k7, k8, k9⟩
   have n2 := hm.heap 0 _ hm.b0
   show K a' W'
   obtain ⟨p0, c0, r0⟩ := hm.mem.1 0 _ rfl
   obtain ⟨p2, c2, r2⟩ := hm.mem.1 2 _ rfl
   obtain ⟨p3, c3, r3⟩ := hm.mem.1 3 _ rfl
   rw [hm.b0] at c0; injection c0 with c0; subst c0
   rw [hm.b2] at c2; injection c2 with c2; subst c2
   rw [hm.b3] at c3; injection c3 with c3; subst c3
   have z0 : 1 ≤ s2 := r0.1.1
   have z2 : 1 ≤ s4 := r2.1.1
   have z3 : 1 ≤ s5 := r3.1.1
   have m2 : b2 < W.heap.size := hm.heap 0 _ hm.b0 (by show s2 ≠ 0; omega)
   have m4 : b4 < W.heap.size := hm.heap 2 _ hm.b2 (by show s4 ≠ 0; omega)
   have m5 : b5 < W.heap.size := hm.heap 3 _ hm.b3 (by show s5 ≠ 0; omega)
   exact hK a' W' ⟨k4, fun k o _ hk ho => (k3 k (Array.getElem?_eq_some_iff.1 hk).1).trans hk⟩ (fun k hk => k3 k (by rcases hk with rfl | rfl <;> omega)) ⟨Nat.le_trans hsz k4, q, β', h1, h2, h3, k2⟩ ⟨k1, ph, k5, k6, k7, by omega, k9⟩
 case hbody =>
   rintro l pre x a' W hl hex ⟨hsz, q, β', h1, h2, h3, hm⟩ ⟨hact, hhd⟩ hlen
   have hb2 := bbn (Nat.lt_of_le_of_lt (Nat.zero_le _) x.isLt)
   refine wpIn_mono (sk_body hm (hi.good x.isLt) h2 h3 hact hhd (by show b2 < B; omega) (by show b4 < B; omega) (by show b5 < B; omega) g2 g4 g5) ?_
   rintro e a2 W2 ⟨hor, k2, k3⟩
   have kf : KeepsFrom w4.heap.size W W2 := ⟨k2, fun k o _ hk ho => by
     have ne : ∀ (j : Nat) (m : MB) (pl : Place), look skBs j = some m → β' j = some pl → 1 ≤ pl.sz → k ≠ pl.b := by
       rintro j m pl hj hb hz rfl
       obtain ⟨pl', hb', hr'⟩ := hm.mem.1 j m hj
       rw [hb] at hb'; injection hb' with hb'; subst hb'
       obtain ⟨_, arr, ty, ha, _⟩ := own_cells hr' (skBs_rw hj) (by omega)
       rw [hk] at ha; injection ha with ha; subst ha; cases ho
     have sz : ∀ (j : Nat) (m : MB) (pl : Place) (xx : C), look skBs j = some m → m.k = .cells [xx] → β' j = some pl → 1 ≤ pl.sz := by
       intro j m pl xx hj hk' hb
       obtain ⟨pl', hb', hr'⟩ := hm.mem.1 j m hj
       rw [hb] at hb'; injection hb' with hb'; subst hb'
       have := hr'.1
       rw [hk'] at this
       exact this.1
     exact (k3 k (Array.getElem?_eq_some_iff.1 hk).1 (ne 0 _ _ rfl hm.b0 (sz 0 _ _ _ rfl rfl hm.b0)) (ne 2 _ _ rfl hm.b2 (sz 2 _ _ _ rfl rfl hm.b2)) (ne 3 _ _ rfl hm.b3 (sz 3 _ _ _ rfl rfl hm.b3))).trans hk⟩
   rcases hor with ⟨rfl, hz, β'', hm''⟩ | ⟨rfl, hz, hend⟩
   · obtain ⟨kk, Pd⟩ := pushed (hi.good x.isLt) h2 hz
     refine ⟨kf, fun k hk => k3 k (by rcases hk with rfl | rfl <;> omega) (by show k ≠ b2; rcases hk with rfl | rfl <;> omega) (by show k ≠ b4; rcases hk with rfl | rfl <;> omega) (by show k ≠ b5; rcases hk with rfl | rfl <;> omega), Nat.le_trans hsz k2, _, β'', ?_, Pd.bytes, by have := Pd.short; omega, hm''⟩
     rw [List.map_append, List.map_cons, List.map_nil, runP_snoc, h1, Option.bind_some, if_pos hz]
   · exact ⟨kf, rfl, pre, x, q, rfl, h1, hz, hend⟩
 case hdone =>
   rintro D xs W hD hS ⟨hsz, q, β', h1, h2, h3, hm⟩ hK
   show (skCt Go.Proofs.Tryz.prog).wpIn Fence.wide 2 Go.Proofs.Tryz.prog Q _ W
   have hsim : Sim ΦP (envQ q) ⟨a4.tmps.size, someMe skBs, β', W, 4, { target := .collected D, args := #[] } :: a4.defers⟩ skT0 β' { a4 with defers := { target := .collected D, args := #[] } :: a4.defers } W := sim_new (a := { a4 with defers := { target := .collected D, args := #[] } :: a4.defers }) (tm := skT0.tm) (fa := []) (nv := 1) (fun t p h => by cases h) (fun t v hv hu => by
     match t, hv with
     | 2, hv => injection hv with hv; subst hv; exact ⟨_, t2, ptr_rep hm.b0⟩
     | 4, hv => injection hv with hv; subst hv; exact ⟨_, t4, ptr_rep hm.b2⟩
     | 5, hv => injection hv with hv; subst hv; exact ⟨_, t5, ptr_rep hm.b3⟩) hm.heap hm.mem hm.free
   rw [hsz4, df4] at hsim
   rw [df4]
   refine wpIn_mono (code_wide (K := fun _ ρ' r => ρ' = envQ q ∧ r = (.ret, skT1 Go.Proofs.Tryz.prog)) (B := fun _ _ => False) (by show (evCode (skX Go.Proofs.Tryz.prog) noAnn 30 (skCt Go.Proofs.Tryz.prog) skT0).ok _ _ _ _ _; rw [et_is]; exact ⟨rfl, rfl⟩) hsim) ?_
   rintro e a5 W5 ⟨B5, ρ5, r5, β5, ⟨rfl, rfl⟩, rfl, hs5, hf5, _⟩
   obtain ⟨d, hd, hc⟩ := hs5.cur
   have hK5 : W5.heap[D]? = some (.deferred (some [])) := run_other hc.run (memRep_ext hm.mem (someMe_look skBs)) hK rfl
   show Q .ret a5 W5
   rw [hQ]
   show LeavesInM _ _ _ _ _ _ a5.defers _ _
   rw [hc.defers]
   refine ⟨by simp, .inl ⟨D, _, rfl, run_takeDeferred hK5, ?_⟩⟩
   show ∃ v, (results Go.Proofs.Tryz.f18 a5.tmps).run Go.Proofs.Tryz.prog _ = .ok v _ ∧ _
   have hme := own_put (o' := .deferred none) hc.me (fun j m h => rwAll_look skT1_rw h) hK5 rfl
   obtain ⟨x, hx, hxr⟩ := resV_ok (P := Go.Proofs.Tryz.prog) (fn := Go.Proofs.Tryz.f18) (S := skT1 Go.Proofs.Tryz.prog) hc.tm hme (v := .t [.c (.s 1 1 0 (.num 0) (.c1 .len (.var 0))), .c (.i .i64 (.num 0))]) (by
     rw [show resV Go.Proofs.Tryz.prog (skT1 Go.Proofs.Tryz.prog) (Go.Proofs.Tryz.f18).results.toList = .ret (.t [.c (.s 1 1 0 (.num 0) (.c1 .len (.var 0))), .c (.i .i64 (.num 0))]) from by kernel_rfl]; rfl)
   have hat : StkAt L p 0 q := by
     have := runP_at hi n (Nat.le_refl _) q (by rw [List.take_of_length_le (by simp), ← hS]; exact h1)
     rwa [Nat.sub_self] at this
   obtain ⟨hE, hR⟩ := hat.all hi h8
   have hbl : Below w.heap.size w (W5.putObj D (.deferred none)) := by
     have hk5 : Below w.heap.size w W5 := ⟨hc.run.os.trans hm.below.os, hc.run.tape.trans hm.below.tape, hc.run.output.trans hm.below.output, Nat.le_trans hm.below.size hc.run.size, fun k hk => (run_block hc.run (Nat.lt_of_lt_of_le hk hm.below.size) (fun j mm pl hj hw hb hz => by
       rw [someMe_look] at hj
       rcases skBs_cases hj with ⟨rfl, _⟩ | ⟨rfl, _⟩ | ⟨rfl, _⟩ | ⟨rfl, _⟩
       · have hb : β' 0 = some pl := hb
         rw [hm.b0] at hb; injection hb with hb; subst hb; show k ≠ b2; omega
       · have := hm.own pl hb hz; omega
       · have hb : β' 2 = some pl := hb
         rw [hm.b2] at hb; injection hb with hb; subst hb; show k ≠ b4; omega
       · have hb : β' 3 = some pl := hb
         rw [hm.b3] at hb; injection hb with hb; subst hb; show k ≠ b5; omega)).trans (hm.below.block k hk)⟩
     exact ownFrom_below (β := Unit) (Nat.le_refl _) hws () W5 _ (some D) hk5 (grownBy_putObj' W5 D _) (fun r e => by injection e with e; subst e; exact ⟨hD, _, hK5, rfl⟩)
   obtain ⟨vs, rfl, hvs⟩ := hxr
   match vs, hvs with
   | ⟨[x1, x2]⟩, hvs =>
     obtain ⟨pl, hpl, a6, n6, c6, rfl, y1, y2, y3, y4, y5⟩ := hvs.1
     have hx2 : x2 = .int .i64 0 := hvs.2.1
     subst hx2
     obtain ⟨pl', hpl', hrep⟩ := hme.1 1 ⟨true, .row [.u8] (.var 0)⟩ (by kernel_rfl)
     rw [hpl] at hpl'; injection hpl' with hpl'; subst hpl'
     have hrw : rowRep (W5.putObj D (.deferred none)) pl [.u8] q := hrep.1
     have hrowq : (T.den ΦP ρ stkRowT).list = q := by
       show (putH pushErr (rowsOf (ρ 2).list) (ρ 0).list).2 = q
       rw [← hL, ← hp]; exact hR
     refine ⟨_, hx, _, β.with 3 pl, rfl, ?_, ?_⟩
     · rcases hr.or with ⟨_, rfl⟩ | ⟨h, _⟩
       · refine ⟨_, rfl, ⟨pl, Map.with_self _ _ _, a6, n6, c6, rfl, ?_, y2, y3, y4, y5⟩, rfl, trivial⟩
         rw [y1, int_len, int_len, hrowq]; rfl
       · rw [← hL, ← hp] at h; exact absurd hE h
     · rcases hr.or with ⟨_, rfl⟩ | ⟨h, _⟩
       · refine StepR.fresh_at hbl hfree (by decide) (by decide) (fun hz => ⟨?_, ?_⟩) ⟨?_, hrep.2⟩
         · have hb1 : β' 1 = some pl := (hf5.beta 1 (by decide)).symm.trans hpl
           exact hm.own pl hb1 hz
         · have := hc.heap 1 pl hpl hz
           exact Nat.lt_of_lt_of_le this (grownBy_putObj' W5 D _).size
         · show rowRep _ pl [.u8] (T.den ΦP ρ stkRowT).list
           rw [hrowq]; exact hrw
       · rw [← hL, ← hp] at h; exact absurd hE h
 case hstop =>
   rintro D cd pre W hD ⟨k, hk, hSp⟩ ⟨rfl, pre', x, q, rfl, h1, hz, β', k1, k2, k3, k4⟩ hK
   refine wpIn_ret ?_
   show Q .ret _ W
   rw [hQ]
   show LeavesInM _ _ _ _ _ _ ({ target := .collected D, args := #[] } :: a4.defers) _ _
   rw [df4]
   refine ⟨by simp, .inl ⟨D, _, rfl, run_takeDeferred hK, ?_⟩⟩
   show ∃ v, (results Go.Proofs.Tryz.f18 a4.tmps).run Go.Proofs.Tryz.prog _ = .ok v _ ∧ _
   obtain ⟨er, her⟩ : ∃ er, pushErr (hdAt L x.val) q = er := ⟨_, rfl⟩
   rw [her] at k3 hz
   have hme := own_put (o' := .deferred none) k3 (fun j m h => skEs_rw h) hK rfl
   obtain ⟨xv, hx, hxr⟩ := resV_ok (P := Go.Proofs.Tryz.prog) (fn := Go.Proofs.Tryz.f18) (ρ := envQ []) (β := β') (a := a4) (S := ⟨[(4, ptrV 2), (5, ptrV 3)], someMe (skEs er), 4, 1, []⟩) (fun t v hv hu => by
     match t, hv with
     | 4, hv => injection hv with hv; subst hv; exact ⟨_, t4, ptr_rep k1⟩
     | 5, hv => injection hv with hv; subst hv; exact ⟨_, t5, ptr_rep k2⟩) (memRep_ext hme (someMe_look (skEs er))) (v := .t [.c .sn, .c (.i .i64 (.num er))]) (by
     rw [show resV Go.Proofs.Tryz.prog ⟨[(4, ptrV 2), (5, ptrV 3)], someMe (skEs er), 4, 1, []⟩ (Go.Proofs.Tryz.f18).results.toList = .ret (.t [.c .sn, .c (.i .i64 (.num er))]) from by kernel_rfl]; rfl)
   have hk0 : k ≠ 0 := by rintro rfl; simp at hSp
   obtain ⟨i, rfl⟩ : ∃ i, k = i + 1 := ⟨k - 1, by omega⟩
   rw [rev_take (m := n - 1 - i) (by omega), List.map_append, List.map_cons, List.map_nil] at hSp
   obtain ⟨e1, e2⟩ := List.append_inj' hSp rfl
   have hxi : x.val = n - 1 - i := by injection e2
   have hat := runP_at hi i (by omega) q (by rw [← e1]; exact h1)
   rw [show n - i = x.val + 1 from by omega] at hat
   have hE : stkErr L p = er := by rw [← her]; exact hat.err hi x.isLt h8 (by rw [her]; exact hz)
   have hbl : Below w.heap.size w (W.putObj D (.deferred none)) := ownFrom_below (β := Unit) (Nat.le_refl _) hws () W _ (some D) k4 (grownBy_putObj' W D _) (fun r e => by injection e with e; subst e; exact ⟨hD, _, hK, rfl⟩)
   refine ⟨xv, hx, xv, β, rfl, ?_, ?_⟩
   · rcases hr.or with ⟨h, _⟩ | ⟨_, rfl⟩
     · rw [← hL, ← hp, hE] at h; exact absurd h hz
     · obtain ⟨vs, rfl, h⟩ := hxr
       match vs, h with
       | ⟨[x1, x2]⟩, h =>
         refine ⟨#[x1, x2], rfl, h.1, ?_, trivial⟩
         have h2 : x2 = .int .i64 er := h.2.1
         show x2 = .int .i64 (stkErr (ρ 2).list (ρ 0).list)
         rw [h2, ← hL, ← hp, hE]
   · rcases hr.or with ⟨h, _⟩ | ⟨_, rfl⟩
     · rw [← hL, ← hp, hE] at h; exact absurd h hz
     · exact StepR.calm hbl (by decide) hfree
end Go.Proofs.YtfhjlimdakphcaaGreat.Sx
set_option linter.unusedVariables false
set_option linter.unusedSimpArgs false
set_option maxRecDepth 100000
namespace Go.Proofs.YtfhjlimdakphcaaGreat.Sx
open Go Go.RowKit Go.Shelf
def skOps (P : Program) : List Oper := match fstC (skC4 P) with
 | .region _ ops _ => ops.toList
 | _ => []
def skDef : Oper := ⟨none, .alloc 0, 0, "", #[], none⟩
def skO0 (P : Program) : Oper := (skOps P).headD skDef
def skO1 (P : Program) : Oper := ((skOps P).drop 1).headD skDef
set_option maxHeartbeats 1000000 in
theorem stack_ok : TmplOk Go.Proofs.Tryz.prog ΦP 18 (tStack 3) := by
 intro ρ res hres args β w hargs hin hm hfree
 have hpre := preF_ok (Φ := ΦP) hres
 obtain ⟨n, hn, hn1, hi, hres'⟩ := stk_some hres
 have hr := stk_res hres'
 have hlen : args.length = 2 := (repVs_length hargs).symm
 have hsim0 := sim_start (N := 30) (nv := 3) hpre hargs hin hm hfree (by omega)
 refine (callsIn_wide (n := 2)).1 (callsIn_of_wp_marks (c := skC Go.Proofs.Tryz.prog) Go.Proofs.Tryz.func18 (by kernel_rfl) trivial ?_ rfl)
 rw [Go.Proofs.Tryz.ntmps18]
 change Sim ΦP ρ ⟨30, someMe (tStack 3).bs, β, w, 2, []⟩ skS0 β _ w at hsim0
 generalize ({ tmps := args.toArray ++ Array.replicate (30 - args.toArray.size) undef, defers := [] } : Act) = a0 at hsim0 ⊢
 obtain ⟨Q, hQ⟩ : ∃ Q, Q = bodyPostM Fence.wide 2 Go.Proofs.Tryz.prog Go.Proofs.Tryz.f18 (fun e w' => ∃ v β', e = .returned v ∧ res.val.rep (T.den ΦP ρ) β' v ∧ StepR (T.den ΦP ρ) (look (tStack 3).bs) β w (lenN (tStack 3).bs) res.eff res.nb β' w') := ⟨_, rfl⟩
 rw [← hQ]
 refine wpIn_piece (c' := .seq (skC1 Go.Proofs.Tryz.prog) (.seq (skC2 Go.Proofs.Tryz.prog) (.seq (skC3 Go.Proofs.Tryz.prog) (.seq (skC4 Go.Proofs.Tryz.prog) (skCt Go.Proofs.Tryz.prog))))) (by kernel_rfl) ?_
 refine wpIn_seq (wpIn_mono (code_wide (K := fun _ ρ' r => ρ' = ρ ∧ r = (.norm, skS1 Go.Proofs.Tryz.prog)) (B := fun _ _ => False) (by show (evCode (skX Go.Proofs.Tryz.prog) noAnn 30 (skC1 Go.Proofs.Tryz.prog) skS0).ok _ _ _ _ _; rw [e1_is]; exact ⟨rfl, rfl⟩) hsim0) ?_)
 rintro e a1 w1 ⟨B1, ρ1, r1, β1, ⟨rfl, rfl⟩, rfl, hs1, hf1, _⟩
 clear hsim0
 show (Code.seq _ _).wpIn _ _ _ _ _ _
 refine wpIn_seq (wpIn_mono (code_wide (K := fun _ ρ' r => ρ' = ρ1 ∧ ((8 < n ∧ r = (.ret, skS2r Go.Proofs.Tryz.prog)) ∨ (n ≤ 8 ∧ r = (.norm, skS2 Go.Proofs.Tryz.prog)))) (B := fun _ _ => False) (by
   show (evCode (skX Go.Proofs.Tryz.prog) noAnn 30 (skC2 Go.Proofs.Tryz.prog) (skS1 Go.Proofs.Tryz.prog)).ok _ _ _ _ _
   rw [e2_is]
   refine ⟨fun c => ⟨rfl, .inl ⟨?_, rfl⟩⟩, fun c => ⟨rfl, .inr ⟨?_, rfl⟩⟩⟩
   · rw [lt_t, den_var, hn] at c; have c : (8 : Int) < n := c; omega
   · rw [lt_f, den_var, hn] at c; have c : (n : Int) ≤ 8 := c; omega) hs1) ?_)
 rintro e a2 w2 ⟨B2, ρ2, r2, β2, ⟨rfl, hor⟩, rfl, hs2, hf2, _⟩
 rcases hor with ⟨h8, rfl⟩ | ⟨h8, rfl⟩
 · 
   obtain ⟨d, hd, hc⟩ := hs2.cur
   show Q .ret a2 w2
   rw [hQ]
   show LeavesInM _ _ _ _ _ _ a2.defers _ _
   rw [hc.defers]
   show ∃ v, (results Go.Proofs.Tryz.f18 a2.tmps).run Go.Proofs.Tryz.prog w2 = .ok v w2 ∧ _
   obtain ⟨x, hx, hxr⟩ := resV_ok (P := Go.Proofs.Tryz.prog) (fn := Go.Proofs.Tryz.f18) (S := skS2r Go.Proofs.Tryz.prog) hc.tm hc.me (v := .t [.c .sn, .c (.i .i64 (.num 3))]) (by
     rw [show resV Go.Proofs.Tryz.prog (skS2r Go.Proofs.Tryz.prog) (Go.Proofs.Tryz.f18).results.toList = .ret (.t [.c .sn, .c (.i .i64 (.num 3))]) from by kernel_rfl]; rfl)
   refine ⟨x, hx, x, β, rfl, ?_, ?_⟩
   · rcases hr.or with ⟨h, _⟩ | ⟨_, rfl⟩
     · rw [hi.many h8] at h; cases h
     · obtain ⟨vs, rfl, h⟩ := hxr
       match vs, h with
       | ⟨[x1, x2]⟩, h =>
         refine ⟨#[x1, x2], rfl, h.1, ?_, trivial⟩
         have h2 : x2 = .int .i64 3 := h.2.1
         show x2 = .int .i64 (stkErr (ρ2 2).list (ρ2 0).list)
         rw [h2, hi.many h8]
   · rcases hr.or with ⟨h, _⟩ | ⟨_, rfl⟩
     · rw [hi.many h8] at h; cases h
     · exact StepR.calm (run_calm hc.run) (by decide) hfree
 show (Code.seq _ _).wpIn _ _ _ _ _ _
 refine wpIn_seq (wpIn_mono (code_wide (K := fun _ ρ' r => ρ' = ρ2 ∧ r = (.norm, skS3 Go.Proofs.Tryz.prog)) (B := fun _ _ => False) (by show (evCode (skX Go.Proofs.Tryz.prog) noAnn 30 (skC3 Go.Proofs.Tryz.prog) (skS2 Go.Proofs.Tryz.prog)).ok _ _ _ _ _; rw [e3_is]; exact ⟨rfl, rfl⟩) hs2) ?_)
 rintro e a3 w3 ⟨B3, ρ3, r3, β3, ⟨rfl, rfl⟩, rfl, hs3, hf3, _⟩
 clear hs1 hs2
 obtain ⟨d, hd, hc⟩ := hs3.cur
 obtain ⟨p, hp⟩ : ∃ p, p = (ρ3 0).list := ⟨_, rfl⟩
 obtain ⟨L, hL⟩ : ∃ L, L = (ρ3 2).list := ⟨_, rfl⟩
 rw [← hp, ← hL] at hi
 obtain ⟨b2, s2, v2, ar2, ty2, hb2, hz2, hh2, hc2, hx2⟩ := one_cell hc.me (j := 2) (x := .s 6 1 0 (.num 0) (.c1 .len (.var 0))) (by kernel_rfl)
 obtain ⟨b4, s4, v4, ar4, ty4, hb4, hz4, hh4, hc4, hx4⟩ := one_cell hc.me (j := 3) (x := .sn) (by kernel_rfl)
 obtain ⟨b5, s5, v5, ar5, ty5, hb5, hz5, hh5, hc5, hx5⟩ := one_cell hc.me (j := 4) (x := .i .i64 (.num 0)) (by kernel_rfl)
 have l2 : b2 < w3.heap.size := (Array.getElem?_eq_some_iff.1 hh2).1
 have l4 : b4 < w3.heap.size := (Array.getElem?_eq_some_iff.1 hh4).1
 have l5 : b5 < w3.heap.size := (Array.getElem?_eq_some_iff.1 hh5).1
 have g2 : w.heap.size ≤ b2 := run_new hc.run (j := 2) (by decide) hb2 hz2
 have g4 : w.heap.size ≤ b4 := run_new hc.run (j := 3) (by decide) hb4 hz4
 have g5 : w.heap.size ≤ b5 := run_new hc.run (j := 4) (by decide) hb5 hz5
 have hbel := run_calm hc.run
 have slot : ∀ t j pl, look (skS3 Go.Proofs.Tryz.prog).tm t = some (ptrV j) → β3 j = some pl → a3.tmps[t]? = some (.pointer (some ⟨pl.b, pl.o, none⟩)) := fun t j pl ht hj => by
   obtain ⟨x, hx, hr⟩ := hc.tm t _ ht (fun e => by cases e)
   rw [hx, ptr_is hj hr]
 have t2 := slot 2 2 ⟨b2, 0, s2⟩ (by kernel_rfl) hb2
 have t4 := slot 4 3 ⟨b4, 0, s4⟩ (by kernel_rfl) hb4
 have t5 := slot 5 4 ⟨b5, 0, s5⟩ (by kernel_rfl) hb5
 obtain ⟨vl, t1, hvl⟩ := hc.tm 1 (slcHd 1 1) (by kernel_rfl) (fun e => by cases e)
 obtain ⟨pl1, hb1, aa, nn, cc, rfl, q1, q2, _, q4, q5⟩ := hvl
 have hnn : nn = n := by
   have q1 : (nn : Int) = (ρ3 1).int := q1
   rw [hn] at q1; omega
 subst hnn
 have q4 : 0 + (0 + cc) * 73 ≤ pl1.sz := q4
 have q5 : 0 < cc → aa = some ⟨pl1.b, pl1.o + (0 + 0 * 73), none⟩ := q5
 have hsz3 : a3.tmps.size = 30 := hc.size
 refine wpIn_seq (wpIn_piece (c' := .seq (.region 4 [skO0 Go.Proofs.Tryz.prog, skO1 Go.Proofs.Tryz.prog].toArray false) (.block 0 (.rangeFunc (.tmp 16) #[17, 18] (skCa Go.Proofs.Tryz.prog) (skCb Go.Proofs.Tryz.prog)))) (by kernel_rfl) ?_)
 refine wpIn_seq (wpIn_region_lit ?_)
 refine wpListIn_move (x := .tmp 1) (by kernel_rfl) (by kernel_rfl) ?_
 refine wpListIn_call1 (f := 42) (x := .tmp 15) (ats := #[64]) (by kernel_rfl) (by kernel_rfl) trivial rfl (enters_of Go.Proofs.Tryz.func42 (by kernel_rfl) rfl) ?_
 rw [show (skO0 Go.Proofs.Tryz.prog).dst = some 15 from by kernel_rfl, show (skO1 Go.Proofs.Tryz.prog).dst = some 16 from by kernel_rfl]
 have ev1 : a3.eval (.tmp 1) = .slice aa nn cc := getD_of t1
 rw [ev1]
 have ev2 : (a3.put (some 15) (.slice aa nn cc)).eval (.tmp 15) = .slice aa nn cc := getD_of (set_self (by rw [hsz3]; decide))
 rw [ev2]
 refine (backward_in Fence.wide 1 trivial rfl aa nn cc w3).mono ?_
 rintro e w4 ⟨rfl, rfl⟩
 refine ⟨_, rfl, wpListIn_nil ?_⟩
 show (Code.block 0 _).wpIn _ _ _ _ _ _
 obtain ⟨a4, ha4⟩ : ∃ a4, a4 = (a3.put (some 15) (.slice aa nn cc)).put (some 16) (.func (.func 67) #[] #[.pointer (some ⟨w3.heap.size, 0, none⟩)]) := ⟨_, rfl⟩
 rw [← ha4]
 have u : ∀ {t : Nat} {v : Value}, a3.tmps[t]? = some v → t ≠ 15 → t ≠ 16 → a4.tmps[t]? = some v := fun h h1 h2 => by rw [ha4]; exact set_other (set_other h h1) h2
 have u16 : a4.eval (.tmp 16) = .func (.func 67) #[] #[.pointer (some ⟨w3.heap.size, 0, none⟩)] := by
   rw [ha4]; exact getD_of (set_self (by show 16 < (a3.tmps.setIfInBounds 15 _).size; rw [Array.size_setIfInBounds, hsz3]; decide))
 have hsz4 : a4.tmps.size = 30 := by rw [ha4]; show ((a3.tmps.setIfInBounds 15 _).setIfInBounds 16 _).size = 30; rw [Array.size_setIfInBounds, Array.size_setIfInBounds, hsz3]
 have df4 : a4.defers = [] := by rw [ha4]; exact hc.defers
 have t2 := u t2 (by decide) (by decide)
 have t4 := u t4 (by decide) (by decide)
 have t5 := u t5 (by decide) (by decide)
 obtain ⟨w4, hw4⟩ : ∃ w4, w4 = w3.alloc (.cells #[.slice aa nn cc] 64) := ⟨_, rfl⟩
 rw [← hw4]
 have sz4 : w4.heap.size = w3.heap.size + 1 := by rw [hw4]; exact World.size_alloc _ _
 have same4 : ∀ k, k < w3.heap.size → w4.heap[k]? = w3.heap[k]? := fun k hk => by rw [hw4]; exact Below.heap_alloc _ _ _ hk
 have hbox : w4.cell? ⟨w3.heap.size, 0, none⟩ = some (.slice aa nn cc) := by
   have := World.alloc_heap_new w3 (.cells #[.slice aa nn cc] 64)
   rw [← hw4] at this
   simp [World.cell?, this]
 have hbel4 : Below w.heap.size w w4 := by rw [hw4]; exact hbel.alloc hc.run.size _
 have hrow : 0 < nn → aa = some ⟨pl1.b, pl1.o, none⟩ ∧ rowRep w4 pl1 kHead L ∧ L.length = 73 * nn ∧ pl1.b < w.heap.size := fun h => by
   have hcc : 0 < cc := by omega
   have hz : pl1.sz ≠ 0 := by omega
   obtain ⟨pl', hb', hrep⟩ := hc.me.1 1 (rowHd 2) (by kernel_rfl)
   rw [hb1] at hb'
   injection hb' with hb'
   subst hb'
   have hr3 : rowRep w3 pl1 kHead L := by rw [hL]; exact hrep.1
   have hb0 : β 1 = some pl1 := (hc.run.old 1 (show 1 < 2 by decide)).symm.trans hb1
   have hlt := hin 1 pl1 hb0 hz
   exact ⟨by simpa using q5 hcc, row_same (same4 _ (Nat.lt_of_lt_of_le hlt hc.run.size)) hr3, hi.len, hlt⟩
 obtain ⟨bb, hbb⟩ : ∃ bb, bb = if nn = 0 then w3.heap.size else pl1.b := ⟨_, rfl⟩
 have hbblt : bb ≤ w3.heap.size := by
   rw [hbb]; split
   · exact Nat.le_refl _
   · have := (hrow (by omega)).2.2.2; have := hc.run.size; omega
 obtain ⟨βs, hβs⟩ : ∃ βs : Map, βs = fun j => if j = 0 then some ⟨b2, 0, s2⟩ else if j = 1 then β3 6 else if j = 2 then some ⟨b4, 0, s4⟩ else if j = 3 then some ⟨b5, 0, s5⟩ else none := ⟨_, rfl⟩
 have hm0 : SkMem w ⟨b2, 0, s2⟩ ⟨b4, 0, s4⟩ ⟨b5, 0, s5⟩ p w4 βs := by
   have f : ∀ j, j < 4 → βs j = β3 (if j = 0 then 2 else if j = 1 then 6 else if j = 2 then 3 else 4) := fun j hj => by
     rw [hβs]
     match j, hj with
     | 0, _ => exact hb2.symm
     | 1, _ => rfl
     | 2, _ => exact hb4.symm
     | 3, _ => exact hb5.symm
   obtain ⟨p0, c0, r0⟩ := hc.me.1 2 ⟨true, .cells [.s 6 1 0 (.num 0) (.c1 .len (.var 0))]⟩ (by kernel_rfl)
   obtain ⟨p1, c1, r1⟩ := hc.me.1 6 ⟨true, .row [.u8] (.var 0)⟩ (by kernel_rfl)
   obtain ⟨p2, c2, r2⟩ := hc.me.1 3 ⟨true, .cells [.sn]⟩ (by kernel_rfl)
   obtain ⟨p3, c3, r3⟩ := hc.me.1 4 ⟨true, .cells [.i .i64 (.num 0)]⟩ (by kernel_rfl)
   have hlook : ∀ j m, look skBs j = some m → ∃ m', lookM (skS3 Go.Proofs.Tryz.prog).me (if j = 0 then 2 else if j = 1 then 6 else if j = 2 then 3 else 4) = some m' ∧ m'.rw = m.rw ∧ j < 4 := fun j m hj => by
     rcases skBs_cases hj with ⟨rfl, rfl⟩ | ⟨rfl, rfl⟩ | ⟨rfl, rfl⟩ | ⟨rfl, rfl⟩
     · exact ⟨⟨true, .cells [.s 6 1 0 (.num 0) (.c1 .len (.var 0))]⟩, by kernel_rfl, rfl, by decide⟩
     · exact ⟨⟨true, .row [.u8] (.var 0)⟩, by kernel_rfl, rfl, by decide⟩
     · exact ⟨⟨true, .cells [.sn]⟩, by kernel_rfl, rfl, by decide⟩
     · exact ⟨⟨true, .cells [.i .i64 (.num 0)]⟩, by kernel_rfl, rfl, by decide⟩
   refine ⟨by rw [hβs]; rfl, by rw [hβs]; rfl, by rw [hβs]; rfl, fun j hj => ?_, fun j pl hj hz => ?_, ?_, fun pl hj hz => ?_, hbel4⟩
   · rw [hβs]; show (if j = 0 then _ else if j = 1 then _ else if j = 2 then _ else if j = 3 then _ else none) = none
     rw [if_neg (by omega), if_neg (by omega), if_neg (by omega), if_neg (by omega)]
   · have hj4 : j < 4 := by
       by_cases h : j < 4
       · exact h
       · rw [hβs] at hj; simp only at hj; rw [if_neg (by omega), if_neg (by omega), if_neg (by omega), if_neg (by omega)] at hj; cases hj
     rw [f j hj4] at hj
     have := hc.heap _ pl hj hz
     omega
   · have key : memRep (T.den ΦP (envQ p)) βs w3 (look skBs) := by
       refine ⟨fun j mm hj => ?_, fun j j' mm mm' pl pl' hne hj hj' hrw hbj hbj' hz1 hz2 => ?_⟩
       · rcases skBs_cases hj with ⟨rfl, rfl⟩ | ⟨rfl, rfl⟩ | ⟨rfl, rfl⟩ | ⟨rfl, rfl⟩
         · refine ⟨p0, (f 0 (by decide)).trans c0, ⟨r0.1.1, fun i x hx => ?_⟩, r0.2⟩
           match i, hx with
           | 0, hx =>
             injection hx with hx
             subst hx
             obtain ⟨v, hv, hr⟩ := r0.1.2 0 _ rfl
             refine ⟨v, hv, ?_⟩
             obtain ⟨pl, hpl, aa, nn, cc, rfl, q1, q2, q3, q4, q5⟩ := hr
             refine ⟨pl, (f 1 (by decide)).trans hpl, aa, nn, cc, rfl, ?_, q2, q3, q4, q5⟩
             rw [q1, int_len, int_len, den_var, den_var, ← hp]; rfl
         · refine ⟨p1, (f 1 (by decide)).trans c1, ?_, r1.2⟩
           have := r1.1
           show rowRep w3 p1 [.u8] p
           rw [hp]; exact this
         · refine ⟨p2, (f 2 (by decide)).trans c2, ⟨r2.1.1, fun i x hx => ?_⟩, r2.2⟩
           match i, hx with
           | 0, hx => injection hx with hx; subst hx; obtain ⟨v, hv, hr⟩ := r2.1.2 0 _ rfl; exact ⟨v, hv, hr⟩
         · refine ⟨p3, (f 3 (by decide)).trans c3, ⟨r3.1.1, fun i x hx => ?_⟩, r3.2⟩
           match i, hx with
           | 0, hx => injection hx with hx; subst hx; obtain ⟨v, hv, hr⟩ := r3.1.2 0 _ rfl; exact ⟨v, hv, hr⟩
       · obtain ⟨m1, e1, w1, l1⟩ := hlook j mm hj
         obtain ⟨m2, e2, w2, l2⟩ := hlook j' mm' hj'
         rw [f j l1] at hbj
         rw [f j' l2] at hbj'
         exact hc.me.2 _ _ m1 m2 pl pl' (by
           match j, l1, j', l2, hne with
           | 0, _, 1, _, _ | 0, _, 2, _, _ | 0, _, 3, _, _ | 1, _, 0, _, _ | 1, _, 2, _, _ | 1, _, 3, _, _ | 2, _, 0, _, _ | 2, _, 1, _, _ | 2, _, 3, _, _ | 3, _, 0, _, _ | 3, _, 1, _, _ | 3, _, 2, _, _ => decide
           | 0, _, 0, _, h | 1, _, 1, _, h | 2, _, 2, _, h | 3, _, 3, _, h => exact absurd rfl h) e1 e2 (w1.trans hrw) hbj hbj' hz1 hz2
     refine mem_same key (fun j mm pl hj hbj hz => same4 _ ?_)
     have hj4 : j < 4 := by obtain ⟨_, _, _, h⟩ := hlook j mm hj; exact h
     rw [f j hj4] at hbj
     exact hc.heap _ pl hbj hz
   · rw [f 1 (by decide)] at hj
     exact run_new hc.run (j := 6) (by decide) hj hz
 exact stack_rest hQ hfree hn1 hi hp hL h8 hr l2 l4 l5 g2 g4 g5 t2 t4 t5 u16 hsz4 df4 sz4 hbox hbel4 hrow hbb hbblt hm0 (Nat.le_trans hc.run.size (by omega))
end Go.Proofs.YtfhjlimdakphcaaGreat.Sx
set_option linter.unusedVariables false
set_option linter.unusedSimpArgs false
namespace Go.Proofs.YtfhjlimdakphcaaGreat.Sx
open Go
abbrev ΦW : Sig := ΦP
def turnJ (Φ : Sig) (R : T) : Inv := ⟨fun _ ρ ds => ∃ (i : Nat) (l : List Int), (nthD ds 0).int = i ∧ (nthD ds 1).list = l ∧ l.length = (T.den Φ ρ R).list.length ∧ Bytes l ∧ i ≤ l.length, fun _ ρ ds => (T.den Φ ρ R).list.length - (nthD ds 0).int.toNat⟩
def turnM (b : Nat) (R : T) (x : M (V × St)) : M (V × St) :=
 .loop 0 b 2 [.num 0, R] [(.c2 .le (.num 0) (.var b), true), (.c2 .eq (.c1 .len (.var (b + 1))) (.c1 .len R), true), (.c1 (.kin [.u8]) (.var (b + 1)), true)]
   (.split (.c2 .lt (.var b) (.c1 .len R))
     (.chk (.c2 .le (.c2 .add (.var b) (.num 1)) (.c1 .len (.var (b + 1)))) (.back 0 b [.wr .i64 (.c2 .add (.var b) (.num 1)), .set (.var (b + 1)) (.var b) (.bits .xor .u8 (.c2 .rd (.var (b + 1)) (.var b)) (.num 90))]))
     x)
theorem turn_ok {Φ : Sig} {ρ : Env} {b : Nat} {R : T} {x : M (V × St)} {B : BK} {K : BK → Env → V × St → Prop} (hR : R.lo b = true) (hb : Bytes (T.den Φ ρ R).list) (hl : (T.den Φ ρ R).list.length ≤ 140737488351232)
   (hx : ∀ B' ds, x.ok Φ (turnJ Φ R) B' (upd ρ b ds) K) : (turnM b R x).ok Φ (turnJ Φ R) B ρ K := by
 refine ⟨⟨0, _, rfl, rfl, rfl, hb, Nat.zero_le _⟩, ?_⟩
 rintro ds hds ⟨i, l, hi, hl', hll, hbl, hil⟩
 have e1 : upd ρ b ds b = nthD ds 0 := by have := upd_at (ρ := ρ) (b := b) (ds := ds) (i := 0) (by omega); rwa [Nat.add_zero] at this
 have e2 : upd ρ b ds (b + 1) = nthD ds 1 := upd_at (i := 1) (by omega)
 have w : (T.den Φ (upd ρ b ds) R).list = (T.den Φ ρ R).list := by rw [← lo_den (ρ := ρ) (ρ' := upd ρ b ds) (fun i h => (upd_lo ds h).symm) R hR]
 have hx' := hx
 generalize hρ : upd ρ b ds = ρ1 at *
 have v1 : (ρ1 b).int = i := by rw [e1]; exact hi
 have v2 : (ρ1 (b + 1)).list = l := by rw [e2]; exact hl'
 refine ⟨?_, fun d => ⟨?_, ?_⟩, fun d => by have := hx' (B.at_ b fun ds' => (turnJ Φ R).I 0 ρ ds' ∧ (turnJ Φ R).μ 0 ρ ds' < (turnJ Φ R).μ 0 ρ ds) ds; rw [hρ] at this; exact this⟩
 · intro t p hm'
   simp only [List.mem_cons, Prod.mk.injEq, List.not_mem_nil, or_false] at hm'
   rcases hm' with ⟨rfl, rfl⟩ | ⟨rfl, rfl⟩ | ⟨rfl, rfl⟩
   · rw [le_t, den_var, v1]; exact Int.natCast_nonneg _
   · rw [eq_t, int_len, int_len, w, den_var, v2, hll]
   · rw [bytes_t, den_var, v2]; exact hbl
 · rw [lt_t, den_var, v1, int_len, w] at d
   rw [le_t, int_add, int_len, den_var, den_var, v1, v2, hll]; show (i : Int) + 1 ≤ _; omega
 · rw [lt_t, den_var, v1, int_len, w] at d
   have wi : (T.den Φ ρ1 (.wr .i64 (.c2 .add (.var b) (.num 1)))).int = ((i + 1 : Nat) : Int) := by
     rw [int_wr, int_add, den_var, v1]
     show IntKind.i64.wrap ((i : Int) + 1) = _
     rw [wrap_is (by simp only [kmin]; omega) (by simp only [kmax]; omega)]; rfl
   have hx2 := bits_range .xor .u8 (l.getD i 0) 90
   refine ok_back ⟨⟨i + 1, l.set i (Go.bits .xor .u8 (l.getD i 0) 90), wi, ?_, by simpa using hll, set_bytes hbl ⟨hx2.1, by have := hx2.2; simp only [kmax, Bo.op] at this; omega⟩, by rw [List.length_set]; omega⟩, ?_⟩
   · show (T.den Φ ρ1 (.set (.var (b + 1)) (.var b) (.bits .xor .u8 (.c2 .rd (.var (b + 1)) (.var b)) (.num 90)))).list = _
     rw [list_set, int_bits, int_rd, den_var, den_var, v1, v2, Int.toNat_natCast]; rfl
   · show (T.den Φ ρ R).list.length - (T.den Φ ρ1 (.wr .i64 (.c2 .add (.var b) (.num 1)))).int.toNat < (T.den Φ ρ R).list.length - (nthD ds 0).int.toNat
     rw [wi, hi]; omega
end Go.Proofs.YtfhjlimdakphcaaGreat.Sx
set_option maxRecDepth 100000
namespace Go.Proofs.YtfhjlimdakphcaaGreat.Sx
open Go
def treeWlEq : M (V × St) :=
(.split (.c1 .not (.c2 .eq (.c1 .len (.var 0)) (.c1 .len (.var 1))))
 (.ret (.w (.c (.b (.bol false))), ⟨[], [], 2, 2, []⟩))
 (.loop 0 2 1 [(.num 0)] [((.c2 .le (.num 0) (.var 2)), true)]
 (.split (.c2 .lt (.var 2) (.c1 .len (.var 0)))
 (.chk (.c2 .lt (.var 2) (.c1 .len (.var 1)))
 (.split (.c1 .not (.c2 .eq (.c2 .rd (.var 0) (.var 2)) (.c2 .rd (.var 1) (.var 2))))
 (.ret (.w (.c (.b (.bol false))), ⟨[], [], 2, 3, []⟩))
 (.back 0 2 [(.wr .i64 (.c2 .add (.var 2) (.num 1)))])))
 (.ret (.w (.c (.b (.bol true))), ⟨[], [], 2, 3, []⟩)))))
theorem treeWlEq_is : funTree (ctxN Go.Proofs.Tryz.prog annsEq [] 8) annsEq 14 tEq.vs tEq.bs tEq.n (preF tEq.res) = treeWlEq := by kernel_rfl
end Go.Proofs.YtfhjlimdakphcaaGreat.Sx
set_option maxRecDepth 100000
namespace Go.Proofs.YtfhjlimdakphcaaGreat.Sx
open Go
def treeWlAwake : M (V × St) :=
(.split (.c2 .leq (.c2 .take (.num 6) (.c2 .drop (.num 64) (.spl (.spl (.c2 .rep (.num 134) (.cons (.num 0) .nil)) (.num 68) (.cons (.num 1) (.cons (.num 2) .nil))) (.num 64) (.cons (.num 161) (.cons (.num 35) (.cons (.num 134) (.cons (.num 221) .nil))))))) (.cons (.num 161) (.cons (.num 35) (.cons (.num 134) (.cons (.num 221) (.cons (.num 1) (.cons (.num 2) .nil)))))))
 (.ret (.w (.c (.b (.bol true))), ⟨[], [], 69, 0, []⟩))
 (.ret (.w (.c (.b (.bol false))), ⟨[], [], 63, 0, []⟩)))
theorem treeWlAwake_is : funTree (ctxN Go.Proofs.Tryz.prog annsAw consAw 8) annsAw 17 tTrue.vs tTrue.bs tTrue.n (preF tTrue.res) = treeWlAwake := by kernel_rfl
end Go.Proofs.YtfhjlimdakphcaaGreat.Sx
set_option linter.unusedVariables false
set_option linter.unusedSimpArgs false
namespace Go.Proofs.YtfhjlimdakphcaaGreat.Sx
open Go
theorem wlEq_ok : TmplOk Go.Proofs.Tryz.prog ΦW 14 tEq := eq_ok treeWlEq_is
set_option maxRecDepth 100000 in
theorem wlAwake_ok : TmplOk Go.Proofs.Tryz.prog ΦW 17 tTrue := by
 refine tmpl_of (moreCons (con_ok wlEq_ok) (moreCons (con_ok clone_ok) noCons)) treeWlAwake_is (fun ρ res hres => ⟨eqJ, ?_⟩)
 obtain rfl := ret_some hres
 refine ⟨fun c => leaf_true rfl (by decide), fun c => ?_⟩
 exfalso
 rw [leq_f] at c
 apply c
 rfl
theorem consWl0_ok : ConsOk Go.Proofs.Tryz.prog ΦW consWl0 := moreCons (con_ok wlEq_ok) (moreCons (con_ok (wpu_ok sigW)) (moreCons (con_ok (wpuR_ok sigW)) (moreCons (con_ok (wpo_ok sigW)) (moreCons (con_ok (wpoR_ok sigW)) (moreCons (con_ok (wsz_ok sigW)) (moreCons (con_ok (wszR_ok sigW)) (moreCons (con_ok (wck_ok sigW)) (moreCons (con_ok (wckR_ok sigW)) (noCons)))))))))
theorem consWl_ok : ConsOk Go.Proofs.Tryz.prog ΦW consWl := moreCons (con_ok wlAwake_ok) consWl0_ok
end Go.Proofs.YtfhjlimdakphcaaGreat.Sx
set_option maxRecDepth 100000
namespace Go.Proofs.YtfhjlimdakphcaaGreat.Sx
open Go
def xSkRef0 : T := (.cons (.c2 .rd (.var 2) (.c2 .mul (.var 3) (.num 73))) (.cons (.c2 .rd (.var 2) (.c2 .add (.c2 .mul (.var 3) (.num 73)) (.num 1))) (.cons (.c2 .rd (.var 2) (.c2 .add (.c2 .mul (.var 3) (.num 73)) (.num 2))) (.cons (.c2 .rd (.var 2) (.c2 .add (.c2 .mul (.var 3) (.num 73)) (.num 3))) (.cons (.c2 .rd (.var 2) (.c2 .add (.c2 .mul (.var 3) (.num 73)) (.num 4))) (.cons (.c2 .rd (.var 2) (.c2 .add (.c2 .mul (.var 3) (.num 73)) (.num 5))) (.cons (.c2 .rd (.var 2) (.c2 .add (.c2 .mul (.var 3) (.num 73)) (.num 6))) (.cons (.c2 .rd (.var 2) (.c2 .add (.c2 .mul (.var 3) (.num 73)) (.num 7))) (.cons (.c2 .rd (.var 2) (.c2 .add (.c2 .mul (.var 3) (.num 73)) (.num 8))) (.cons (.c2 .rd (.var 2) (.c2 .add (.c2 .mul (.var 3) (.num 73)) (.num 9))) (.cons (.c2 .rd (.var 2) (.c2 .add (.c2 .mul (.var 3) (.num 73)) (.num 10))) (.cons (.c2 .rd (.var 2) (.c2 .add (.c2 .mul (.var 3) (.num 73)) (.num 11))) (.cons (.c2 .rd (.var 2) (.c2 .add (.c2 .mul (.var 3) (.num 73)) (.num 12))) (.cons (.c2 .rd (.var 2) (.c2 .add (.c2 .mul (.var 3) (.num 73)) (.num 13))) (.cons (.c2 .rd (.var 2) (.c2 .add (.c2 .mul (.var 3) (.num 73)) (.num 14))) (.cons (.c2 .rd (.var 2) (.c2 .add (.c2 .mul (.var 3) (.num 73)) (.num 15))) (.cons (.c2 .rd (.var 2) (.c2 .add (.c2 .mul (.var 3) (.num 73)) (.num 16))) (.cons (.c2 .rd (.var 2) (.c2 .add (.c2 .mul (.var 3) (.num 73)) (.num 17))) (.cons (.c2 .rd (.var 2) (.c2 .add (.c2 .mul (.var 3) (.num 73)) (.num 18))) (.cons (.c2 .rd (.var 2) (.c2 .add (.c2 .mul (.var 3) (.num 73)) (.num 19))) (.cons (.c2 .rd (.var 2) (.c2 .add (.c2 .mul (.var 3) (.num 73)) (.num 20))) (.cons (.c2 .rd (.var 2) (.c2 .add (.c2 .mul (.var 3) (.num 73)) (.num 21))) (.cons (.c2 .rd (.var 2) (.c2 .add (.c2 .mul (.var 3) (.num 73)) (.num 22))) (.cons (.c2 .rd (.var 2) (.c2 .add (.c2 .mul (.var 3) (.num 73)) (.num 23))) (.cons (.c2 .rd (.var 2) (.c2 .add (.c2 .mul (.var 3) (.num 73)) (.num 24))) (.cons (.c2 .rd (.var 2) (.c2 .add (.c2 .mul (.var 3) (.num 73)) (.num 25))) (.cons (.c2 .rd (.var 2) (.c2 .add (.c2 .mul (.var 3) (.num 73)) (.num 26))) (.cons (.c2 .rd (.var 2) (.c2 .add (.c2 .mul (.var 3) (.num 73)) (.num 27))) (.cons (.c2 .rd (.var 2) (.c2 .add (.c2 .mul (.var 3) (.num 73)) (.num 28))) (.cons (.c2 .rd (.var 2) (.c2 .add (.c2 .mul (.var 3) (.num 73)) (.num 29))) (.cons (.c2 .rd (.var 2) (.c2 .add (.c2 .mul (.var 3) (.num 73)) (.num 30))) (.cons (.c2 .rd (.var 2) (.c2 .add (.c2 .mul (.var 3) (.num 73)) (.num 31))) (.cons (.c2 .rd (.var 2) (.c2 .add (.c2 .mul (.var 3) (.num 73)) (.num 32))) (.cons (.c2 .rd (.var 2) (.c2 .add (.c2 .mul (.var 3) (.num 73)) (.num 33))) (.cons (.c2 .rd (.var 2) (.c2 .add (.c2 .mul (.var 3) (.num 73)) (.num 34))) (.cons (.c2 .rd (.var 2) (.c2 .add (.c2 .mul (.var 3) (.num 73)) (.num 35))) (.cons (.c2 .rd (.var 2) (.c2 .add (.c2 .mul (.var 3) (.num 73)) (.num 36))) (.cons (.c2 .rd (.var 2) (.c2 .add (.c2 .mul (.var 3) (.num 73)) (.num 37))) (.cons (.c2 .rd (.var 2) (.c2 .add (.c2 .mul (.var 3) (.num 73)) (.num 38))) (.cons (.c2 .rd (.var 2) (.c2 .add (.c2 .mul (.var 3) (.num 73)) (.num 39))) (.cons (.c2 .rd (.var 2) (.c2 .add (.c2 .mul (.var 3) (.num 73)) (.num 40))) (.cons (.c2 .rd (.var 2) (.c2 .add (.c2 .mul (.var 3) (.num 73)) (.num 41))) (.cons (.c2 .rd (.var 2) (.c2 .add (.c2 .mul (.var 3) (.num 73)) (.num 42))) (.cons (.c2 .rd (.var 2) (.c2 .add (.c2 .mul (.var 3) (.num 73)) (.num 43))) (.cons (.c2 .rd (.var 2) (.c2 .add (.c2 .mul (.var 3) (.num 73)) (.num 44))) (.cons (.c2 .rd (.var 2) (.c2 .add (.c2 .mul (.var 3) (.num 73)) (.num 45))) (.cons (.c2 .rd (.var 2) (.c2 .add (.c2 .mul (.var 3) (.num 73)) (.num 46))) (.cons (.c2 .rd (.var 2) (.c2 .add (.c2 .mul (.var 3) (.num 73)) (.num 47))) (.cons (.c2 .rd (.var 2) (.c2 .add (.c2 .mul (.var 3) (.num 73)) (.num 48))) (.cons (.c2 .rd (.var 2) (.c2 .add (.c2 .mul (.var 3) (.num 73)) (.num 49))) (.cons (.c2 .rd (.var 2) (.c2 .add (.c2 .mul (.var 3) (.num 73)) (.num 50))) (.cons (.c2 .rd (.var 2) (.c2 .add (.c2 .mul (.var 3) (.num 73)) (.num 51))) (.cons (.c2 .rd (.var 2) (.c2 .add (.c2 .mul (.var 3) (.num 73)) (.num 52))) (.cons (.c2 .rd (.var 2) (.c2 .add (.c2 .mul (.var 3) (.num 73)) (.num 53))) (.cons (.c2 .rd (.var 2) (.c2 .add (.c2 .mul (.var 3) (.num 73)) (.num 54))) (.cons (.c2 .rd (.var 2) (.c2 .add (.c2 .mul (.var 3) (.num 73)) (.num 55))) (.cons (.c2 .rd (.var 2) (.c2 .add (.c2 .mul (.var 3) (.num 73)) (.num 56))) (.cons (.c2 .rd (.var 2) (.c2 .add (.c2 .mul (.var 3) (.num 73)) (.num 57))) (.cons (.c2 .rd (.var 2) (.c2 .add (.c2 .mul (.var 3) (.num 73)) (.num 58))) (.cons (.c2 .rd (.var 2) (.c2 .add (.c2 .mul (.var 3) (.num 73)) (.num 59))) (.cons (.c2 .rd (.var 2) (.c2 .add (.c2 .mul (.var 3) (.num 73)) (.num 60))) (.cons (.c2 .rd (.var 2) (.c2 .add (.c2 .mul (.var 3) (.num 73)) (.num 61))) (.cons (.c2 .rd (.var 2) (.c2 .add (.c2 .mul (.var 3) (.num 73)) (.num 62))) (.cons (.c2 .rd (.var 2) (.c2 .add (.c2 .mul (.var 3) (.num 73)) (.num 63))) (.cons (.c2 .rd (.var 2) (.c2 .add (.c2 .mul (.var 3) (.num 73)) (.num 64))) (.cons (.c2 .rd (.var 2) (.c2 .add (.c2 .mul (.var 3) (.num 73)) (.num 65))) (.cons (.c2 .rd (.var 2) (.c2 .add (.c2 .mul (.var 3) (.num 73)) (.num 66))) (.cons (.c2 .rd (.var 2) (.c2 .add (.c2 .mul (.var 3) (.num 73)) (.num 67))) (.cons (.c2 .rd (.var 2) (.c2 .add (.c2 .mul (.var 3) (.num 73)) (.num 68))) (.cons (.c2 .rd (.var 2) (.c2 .add (.c2 .mul (.var 3) (.num 73)) (.num 69))) (.cons (.c2 .rd (.var 2) (.c2 .add (.c2 .mul (.var 3) (.num 73)) (.num 70))) (.cons (.c2 .rd (.var 2) (.c2 .add (.c2 .mul (.var 3) (.num 73)) (.num 71))) (.cons (.c2 .rd (.var 2) (.c2 .add (.c2 .mul (.var 3) (.num 73)) (.num 72))) .nil)))))))))))))))))))))))))))))))))))))))))))))))))))))))))))))))))))))))))
def treeSkRef : M (V × St) :=
(.split (.c2 .lt (.num 8) (.var 1))
 (.ret (.t [.c (.sn), .c (.i .i64 (.num 3))], ⟨[], [], 2, 3, []⟩))
 (.loop 0 3 3 [(.c2 .sub (.var 1) (.num 1)), (.c1 .len (.var 0)), (.var 0)] [((.c2 .le (.num (-1)) (.var 3)), true), ((.c2 .lt (.var 3) (.var 1)), true), ((.c2 .le (.num 0) (.var 4)), true), ((.c2 .le (.var 4) (.num 140737488351232)), true), ((.c2 .eq (.c1 .len (.var 5)) (.var 4)), true), ((.c1 (.kin [.u8]) (.var 5)), true)]
 (.split (.c2 .le (.num 0) (.var 3))
 (.chk (.c2 .le (.c2 .add (.c2 .mul (.var 3) (.num 73)) (.num 73)) (.c1 .len (.var 2)))
 (.split (.c2 .eq (.fn 70 xSkRef0 (.var 5) .nil) (.num 0))
 (.chk (.c1 (.kin [.u8]) (.fn 71 xSkRef0 (.var 5) .nil))
 (.chk (.c2 .le (.c1 .len (.fn 71 xSkRef0 (.var 5) .nil)) (.num 2048))
 (.back 0 3 [(.wr .i64 (.c2 .sub (.var 3) (.num 1))), (.c1 .len (.fn 71 xSkRef0 (.var 5) .nil)), (.fn 71 xSkRef0 (.var 5) .nil)])))
 (.ret (.t [.c (.sn), .c (.i .i64 (.fn 70 xSkRef0 (.var 5) .nil))], ⟨[], [], 304, 6, []⟩))))
 (.ret (.t [.c (.s 3 1 0 (.num 0) (.var 4)), .c (.i .i64 (.num 0))], ⟨[], [(3, some ⟨true, .row [.u8] (.var 5)⟩)], 4, 6, []⟩)))))
theorem treeSkRef_is : funTree (ctxN Go.Proofs.Tryz.prog annsSk consSr 8) annsSk 19 (tStack 3).vs (tStack 3).bs (tStack 3).n (preF (tStack 3).res) = treeSkRef := by kernel_rfl
end Go.Proofs.YtfhjlimdakphcaaGreat.Sx
set_option linter.unusedVariables false
set_option linter.unusedSimpArgs false
namespace Go.Proofs.YtfhjlimdakphcaaGreat.Sx
open Go
def stkJ : Inv := ⟨fun _ ρ ds => ∃ (k : Nat) (q : List Int), (nthD ds 0).int = (k : Int) - 1 ∧ (nthD ds 1).int = q.length ∧ (nthD ds 2).list = q ∧ (k : Int) ≤ (ρ 1).int ∧ StkAt (ρ 2).list (ρ 0).list k q, fun _ ρ ds => ((nthD ds 0).int + 1).toNat⟩
set_option maxRecDepth 100000 in
theorem stackR_ok : TmplOk Go.Proofs.Tryz.prog ΦP 19 (tStack 3) := by
 refine tmpl_of (moreCons (con_ok (wpuR_ok sigW)) noCons) treeSkRef_is (fun ρ res hres => ⟨stkJ, ?_⟩)
 obtain ⟨n, hn, hn1, hi, hres⟩ := stk_some hres
 have hr := stk_res hres
 refine ⟨fun c => ?_, fun c => ?_⟩
 · rw [lt_t, den_var, hn] at c
   have c : (8 : Int) < n := c
   have e := hi.many (by omega)
   rcases hr.or with ⟨h, _⟩ | ⟨_, rfl⟩
   · rw [e] at h; cases h
   · exact ⟨⟨trivial, ⟨rfl, e.symm⟩, trivial⟩, trivial, by decide⟩
 rw [lt_f, den_var, hn] at c
 have h8 : (n : Int) ≤ 8 := c
 replace h8 : n ≤ 8 := by omega
 refine ⟨⟨n, (ρ 0).list, ?_, rfl, rfl, by rw [hn]; exact Int.le_refl _, hi.start⟩, ?_⟩
 · show (T.den ΦP ρ (.c2 .sub (.var 1) (.num 1))).int = _; rw [int_sub, den_var, hn]; rfl
 rintro ds hds ⟨k, q, i0, i1, i2, hkn, hat⟩
 have hkn : k ≤ n := by rw [hn] at hkn; omega
 have e1 : upd ρ 3 ds 1 = ρ 1 := upd_lo ds (by decide)
 have e2 : upd ρ 3 ds 2 = ρ 2 := upd_lo ds (by decide)
 have e3 : upd ρ 3 ds 3 = nthD ds 0 := upd_at (i := 0) (by omega)
 have e4 : upd ρ 3 ds 4 = nthD ds 1 := upd_at (i := 1) (by omega)
 have e5 : upd ρ 3 ds 5 = nthD ds 2 := upd_at (i := 2) (by omega)
 generalize upd ρ 3 ds = ρ' at *
 have v1 : (ρ' 1).int = n := by rw [e1, hn]
 have v3 : (ρ' 3).int = (k : Int) - 1 := by rw [e3]; exact i0
 have v4 : (ρ' 4).int = q.length := by rw [e4]; exact i1
 have v5 : (ρ' 5).list = q := by rw [e5]; exact i2
 have hqs := hat.short
 refine ⟨?_, fun c => ?_, fun c => ?_⟩
 · intro t p hm
   simp only [List.mem_cons, Prod.mk.injEq, List.not_mem_nil, or_false] at hm
   rcases hm with ⟨rfl, rfl⟩ | ⟨rfl, rfl⟩ | ⟨rfl, rfl⟩ | ⟨rfl, rfl⟩ | ⟨rfl, rfl⟩ | ⟨rfl, rfl⟩
   · rw [le_t, den_var, v3]; show (-1 : Int) ≤ _; omega
   · rw [lt_t, den_var, den_var, v3, v1]; omega
   · rw [le_t, den_var, v4]; exact Int.natCast_nonneg _
   · rw [le_t, den_var, v4]; show (q.length : Int) ≤ 140737488351232; omega
   · rw [eq_t, int_len, den_var, den_var, v5, v4]
   · rw [bytes_t, den_var, v5]; exact hat.bytes
 · rw [le_t, den_var, v3] at c
   have c : (0 : Int) ≤ (k : Int) - 1 := c
   obtain ⟨i, rfl⟩ : ∃ i, k = i + 1 := ⟨k - 1, by omega⟩
   have v3 : (ρ' 3).int = (i : Nat) := by rw [v3]; omega
   have hH : (T.den ΦP ρ' (cellT (.var 2) (.c2 .mul (.var 3) (.num 73)) 0 73)).list = hdAt (ρ 2).list i := den_hdAt (by rw [den_var, e2]) v3 hi.len (by omega)
   have h70 : (T.den ΦP ρ' (.fn 70 (cellT (.var 2) (.c2 .mul (.var 3) (.num 73)) 0 73) (.var 5) .nil)).int = pushErr (hdAt (ρ 2).list i) q := by
     show pushErr (T.den ΦP ρ' (cellT (.var 2) (.c2 .mul (.var 3) (.num 73)) 0 73)).list (ρ' 5).list = _
     rw [hH, v5]
   have h71 : (T.den ΦP ρ' (.fn 71 (cellT (.var 2) (.c2 .mul (.var 3) (.num 73)) 0 73) (.var 5) .nil)).list = pushRow (hdAt (ρ 2).list i) q := by
     show pushRow (T.den ΦP ρ' (cellT (.var 2) (.c2 .mul (.var 3) (.num 73)) 0 73)).list (ρ' 5).list = _
     rw [hH, v5]
   refine ⟨?_, fun d => ?_, fun d => ?_⟩
   · rw [le_t, int_add, int_mul, int_len, den_var, den_var, v3, e2, hi.len]; show (i : Int) * 73 + 73 ≤ _; omega
   · replace d := (eq_t ΦP ρ' (.fn 70 (cellT (.var 2) (.c2 .mul (.var 3) (.num 73)) 0 73) (.var 5) .nil) (.num 0)).mp d
     rw [h70] at d
     have d : pushErr (hdAt (ρ 2).list i) q = 0 := d
     obtain ⟨g1, g2⟩ := hat.step hi (by omega) d
     refine ⟨(bytes_t ΦP ρ' (.fn 71 (cellT (.var 2) (.c2 .mul (.var 3) (.num 73)) 0 73) (.var 5) .nil)).mpr (by rw [h71]; exact g1.bytes), (le_t ΦP ρ' (.c1 .len (.fn 71 (cellT (.var 2) (.c2 .mul (.var 3) (.num 73)) 0 73) (.var 5) .nil)) (.num 2048)).mpr (by rw [int_len, h71]; show _ ≤ (2048 : Int); omega), ?_⟩
     have w : (T.den ΦP ρ' (.wr .i64 (.c2 .sub (.var 3) (.num 1)))).int = (i : Int) - 1 := by
       rw [int_wr, int_sub, den_var, v3]
       exact wrap_is (by simp only [kmin]; show _ ≤ (i : Int) - 1; omega) (by simp only [kmax]; show (i : Int) - 1 ≤ _; omega)
     refine ok_back ⟨⟨i, pushRow (hdAt (ρ 2).list i) q, w, ?_, h71, by rw [hn]; omega, g1⟩, ?_⟩
     · show (T.den ΦP ρ' (.c1 .len (.fn 71 (cellT (.var 2) (.c2 .mul (.var 3) (.num 73)) 0 73) (.var 5) .nil))).int = _
       rw [int_len, h71]
     · show ((T.den ΦP ρ' (.wr .i64 (.c2 .sub (.var 3) (.num 1)))).int + 1).toNat < ((nthD ds 0).int + 1).toNat
       rw [w, i0]; omega
   · replace d := (eq_f ΦP ρ' (.fn 70 (cellT (.var 2) (.c2 .mul (.var 3) (.num 73)) 0 73) (.var 5) .nil) (.num 0)).mp d
     rw [h70] at d
     have d : ¬ pushErr (hdAt (ρ 2).list i) q = 0 := d
     have hE := hat.err hi (by omega) h8 d
     rcases hr.or with ⟨h, _⟩ | ⟨_, rfl⟩
     · rw [hE] at h; exact absurd h d
     · exact ⟨⟨trivial, ⟨rfl, h70.trans hE.symm⟩, trivial⟩, trivial, by decide⟩
 · rw [le_f, den_var, v3] at c
   have hk0 : k = 0 := by have c : (k : Int) - 1 < 0 := c; omega
   subst hk0
   obtain ⟨hE, hR⟩ := hat.all hi h8
   have hrow : (T.den ΦP ρ stkRowT).list = q := hR
   rcases hr.or with ⟨_, rfl⟩ | ⟨h, _⟩
   · refine ⟨⟨⟨rfl, rfl, rfl, rfl, ?_⟩, ⟨rfl, rfl⟩, trivial⟩, ⟨rfl, rfl, ⟨rfl, ?_⟩, trivial⟩, by decide⟩
     · rw [den_var, v4, int_len, hrow]
     · rw [den_var, v5, hrow]
   · exact absurd hE h
end Go.Proofs.YtfhjlimdakphcaaGreat.Sx
set_option maxRecDepth 100000
namespace Go.Proofs.YtfhjlimdakphcaaGreat.Sx
open Go
def treeSkSame : M (V × St) :=
(.split (.c1 .not (.c2 .eq (.var 0) (.var 2)))
 (.ret (.w (.c (.b (.bol false))), ⟨[], [], 2, 4, []⟩))
 (.loop 0 4 1 [(.num 0)] [((.c2 .le (.num 0) (.var 4)), true)]
 (.split (.c2 .lt (.var 4) (.var 0))
 (.chk (.c2 .le (.c2 .add (.c2 .mul (.var 4) (.num 73)) (.num 73)) (.c1 .len (.var 1)))
 (.chk (.c2 .lt (.var 4) (.var 2))
 (.chk (.c2 .le (.c2 .add (.c2 .mul (.var 4) (.num 73)) (.num 73)) (.c1 .len (.var 3)))
 (.split (.c1 .not (.c2 .and (.c2 .eq (.c2 .rd (.var 1) (.c2 .mul (.var 4) (.num 73))) (.c2 .rd (.var 3) (.c2 .mul (.var 4) (.num 73)))) (.c2 .and (.c2 .eq (.c2 .rd (.var 1) (.c2 .add (.c2 .mul (.var 4) (.num 73)) (.num 1))) (.c2 .rd (.var 3) (.c2 .add (.c2 .mul (.var 4) (.num 73)) (.num 1)))) (.c2 .and (.c2 .eq (.c2 .rd (.var 1) (.c2 .add (.c2 .mul (.var 4) (.num 73)) (.num 2))) (.c2 .rd (.var 3) (.c2 .add (.c2 .mul (.var 4) (.num 73)) (.num 2)))) (.c2 .and (.c2 .eq (.c2 .rd (.var 1) (.c2 .add (.c2 .mul (.var 4) (.num 73)) (.num 3))) (.c2 .rd (.var 3) (.c2 .add (.c2 .mul (.var 4) (.num 73)) (.num 3)))) (.c2 .and (.c2 .eq (.c2 .rd (.var 1) (.c2 .add (.c2 .mul (.var 4) (.num 73)) (.num 4))) (.c2 .rd (.var 3) (.c2 .add (.c2 .mul (.var 4) (.num 73)) (.num 4)))) (.c2 .and (.c2 .eq (.c2 .rd (.var 1) (.c2 .add (.c2 .mul (.var 4) (.num 73)) (.num 5))) (.c2 .rd (.var 3) (.c2 .add (.c2 .mul (.var 4) (.num 73)) (.num 5)))) (.c2 .and (.c2 .eq (.c2 .rd (.var 1) (.c2 .add (.c2 .mul (.var 4) (.num 73)) (.num 6))) (.c2 .rd (.var 3) (.c2 .add (.c2 .mul (.var 4) (.num 73)) (.num 6)))) (.c2 .and (.c2 .eq (.c2 .rd (.var 1) (.c2 .add (.c2 .mul (.var 4) (.num 73)) (.num 7))) (.c2 .rd (.var 3) (.c2 .add (.c2 .mul (.var 4) (.num 73)) (.num 7)))) (.c2 .and (.c2 .eq (.c2 .rd (.var 1) (.c2 .add (.c2 .mul (.var 4) (.num 73)) (.num 8))) (.c2 .rd (.var 3) (.c2 .add (.c2 .mul (.var 4) (.num 73)) (.num 8)))) (.c2 .and (.c2 .eq (.c2 .rd (.var 1) (.c2 .add (.c2 .mul (.var 4) (.num 73)) (.num 9))) (.c2 .rd (.var 3) (.c2 .add (.c2 .mul (.var 4) (.num 73)) (.num 9)))) (.c2 .and (.c2 .eq (.c2 .rd (.var 1) (.c2 .add (.c2 .mul (.var 4) (.num 73)) (.num 10))) (.c2 .rd (.var 3) (.c2 .add (.c2 .mul (.var 4) (.num 73)) (.num 10)))) (.c2 .and (.c2 .eq (.c2 .rd (.var 1) (.c2 .add (.c2 .mul (.var 4) (.num 73)) (.num 11))) (.c2 .rd (.var 3) (.c2 .add (.c2 .mul (.var 4) (.num 73)) (.num 11)))) (.c2 .and (.c2 .eq (.c2 .rd (.var 1) (.c2 .add (.c2 .mul (.var 4) (.num 73)) (.num 12))) (.c2 .rd (.var 3) (.c2 .add (.c2 .mul (.var 4) (.num 73)) (.num 12)))) (.c2 .and (.c2 .eq (.c2 .rd (.var 1) (.c2 .add (.c2 .mul (.var 4) (.num 73)) (.num 13))) (.c2 .rd (.var 3) (.c2 .add (.c2 .mul (.var 4) (.num 73)) (.num 13)))) (.c2 .and (.c2 .eq (.c2 .rd (.var 1) (.c2 .add (.c2 .mul (.var 4) (.num 73)) (.num 14))) (.c2 .rd (.var 3) (.c2 .add (.c2 .mul (.var 4) (.num 73)) (.num 14)))) (.c2 .and (.c2 .eq (.c2 .rd (.var 1) (.c2 .add (.c2 .mul (.var 4) (.num 73)) (.num 15))) (.c2 .rd (.var 3) (.c2 .add (.c2 .mul (.var 4) (.num 73)) (.num 15)))) (.c2 .and (.c2 .eq (.c2 .rd (.var 1) (.c2 .add (.c2 .mul (.var 4) (.num 73)) (.num 16))) (.c2 .rd (.var 3) (.c2 .add (.c2 .mul (.var 4) (.num 73)) (.num 16)))) (.c2 .and (.c2 .eq (.c2 .rd (.var 1) (.c2 .add (.c2 .mul (.var 4) (.num 73)) (.num 17))) (.c2 .rd (.var 3) (.c2 .add (.c2 .mul (.var 4) (.num 73)) (.num 17)))) (.c2 .and (.c2 .eq (.c2 .rd (.var 1) (.c2 .add (.c2 .mul (.var 4) (.num 73)) (.num 18))) (.c2 .rd (.var 3) (.c2 .add (.c2 .mul (.var 4) (.num 73)) (.num 18)))) (.c2 .and (.c2 .eq (.c2 .rd (.var 1) (.c2 .add (.c2 .mul (.var 4) (.num 73)) (.num 19))) (.c2 .rd (.var 3) (.c2 .add (.c2 .mul (.var 4) (.num 73)) (.num 19)))) (.c2 .and (.c2 .eq (.c2 .rd (.var 1) (.c2 .add (.c2 .mul (.var 4) (.num 73)) (.num 20))) (.c2 .rd (.var 3) (.c2 .add (.c2 .mul (.var 4) (.num 73)) (.num 20)))) (.c2 .and (.c2 .eq (.c2 .rd (.var 1) (.c2 .add (.c2 .mul (.var 4) (.num 73)) (.num 21))) (.c2 .rd (.var 3) (.c2 .add (.c2 .mul (.var 4) (.num 73)) (.num 21)))) (.c2 .and (.c2 .eq (.c2 .rd (.var 1) (.c2 .add (.c2 .mul (.var 4) (.num 73)) (.num 22))) (.c2 .rd (.var 3) (.c2 .add (.c2 .mul (.var 4) (.num 73)) (.num 22)))) (.c2 .and (.c2 .eq (.c2 .rd (.var 1) (.c2 .add (.c2 .mul (.var 4) (.num 73)) (.num 23))) (.c2 .rd (.var 3) (.c2 .add (.c2 .mul (.var 4) (.num 73)) (.num 23)))) (.c2 .and (.c2 .eq (.c2 .rd (.var 1) (.c2 .add (.c2 .mul (.var 4) (.num 73)) (.num 24))) (.c2 .rd (.var 3) (.c2 .add (.c2 .mul (.var 4) (.num 73)) (.num 24)))) (.c2 .and (.c2 .eq (.c2 .rd (.var 1) (.c2 .add (.c2 .mul (.var 4) (.num 73)) (.num 25))) (.c2 .rd (.var 3) (.c2 .add (.c2 .mul (.var 4) (.num 73)) (.num 25)))) (.c2 .and (.c2 .eq (.c2 .rd (.var 1) (.c2 .add (.c2 .mul (.var 4) (.num 73)) (.num 26))) (.c2 .rd (.var 3) (.c2 .add (.c2 .mul (.var 4) (.num 73)) (.num 26)))) (.c2 .and (.c2 .eq (.c2 .rd (.var 1) (.c2 .add (.c2 .mul (.var 4) (.num 73)) (.num 27))) (.c2 .rd (.var 3) (.c2 .add (.c2 .mul (.var 4) (.num 73)) (.num 27)))) (.c2 .and (.c2 .eq (.c2 .rd (.var 1) (.c2 .add (.c2 .mul (.var 4) (.num 73)) (.num 28))) (.c2 .rd (.var 3) (.c2 .add (.c2 .mul (.var 4) (.num 73)) (.num 28)))) (.c2 .and (.c2 .eq (.c2 .rd (.var 1) (.c2 .add (.c2 .mul (.var 4) (.num 73)) (.num 29))) (.c2 .rd (.var 3) (.c2 .add (.c2 .mul (.var 4) (.num 73)) (.num 29)))) (.c2 .and (.c2 .eq (.c2 .rd (.var 1) (.c2 .add (.c2 .mul (.var 4) (.num 73)) (.num 30))) (.c2 .rd (.var 3) (.c2 .add (.c2 .mul (.var 4) (.num 73)) (.num 30)))) (.c2 .and (.c2 .eq (.c2 .rd (.var 1) (.c2 .add (.c2 .mul (.var 4) (.num 73)) (.num 31))) (.c2 .rd (.var 3) (.c2 .add (.c2 .mul (.var 4) (.num 73)) (.num 31)))) (.c2 .and (.c2 .eq (.c2 .rd (.var 1) (.c2 .add (.c2 .mul (.var 4) (.num 73)) (.num 32))) (.c2 .rd (.var 3) (.c2 .add (.c2 .mul (.var 4) (.num 73)) (.num 32)))) (.c2 .and (.c2 .eq (.c2 .rd (.var 1) (.c2 .add (.c2 .mul (.var 4) (.num 73)) (.num 33))) (.c2 .rd (.var 3) (.c2 .add (.c2 .mul (.var 4) (.num 73)) (.num 33)))) (.c2 .and (.c2 .eq (.c2 .rd (.var 1) (.c2 .add (.c2 .mul (.var 4) (.num 73)) (.num 34))) (.c2 .rd (.var 3) (.c2 .add (.c2 .mul (.var 4) (.num 73)) (.num 34)))) (.c2 .and (.c2 .eq (.c2 .rd (.var 1) (.c2 .add (.c2 .mul (.var 4) (.num 73)) (.num 35))) (.c2 .rd (.var 3) (.c2 .add (.c2 .mul (.var 4) (.num 73)) (.num 35)))) (.c2 .and (.c2 .eq (.c2 .rd (.var 1) (.c2 .add (.c2 .mul (.var 4) (.num 73)) (.num 36))) (.c2 .rd (.var 3) (.c2 .add (.c2 .mul (.var 4) (.num 73)) (.num 36)))) (.c2 .and (.c2 .eq (.c2 .rd (.var 1) (.c2 .add (.c2 .mul (.var 4) (.num 73)) (.num 37))) (.c2 .rd (.var 3) (.c2 .add (.c2 .mul (.var 4) (.num 73)) (.num 37)))) (.c2 .and (.c2 .eq (.c2 .rd (.var 1) (.c2 .add (.c2 .mul (.var 4) (.num 73)) (.num 38))) (.c2 .rd (.var 3) (.c2 .add (.c2 .mul (.var 4) (.num 73)) (.num 38)))) (.c2 .and (.c2 .eq (.c2 .rd (.var 1) (.c2 .add (.c2 .mul (.var 4) (.num 73)) (.num 39))) (.c2 .rd (.var 3) (.c2 .add (.c2 .mul (.var 4) (.num 73)) (.num 39)))) (.c2 .and (.c2 .eq (.c2 .rd (.var 1) (.c2 .add (.c2 .mul (.var 4) (.num 73)) (.num 40))) (.c2 .rd (.var 3) (.c2 .add (.c2 .mul (.var 4) (.num 73)) (.num 40)))) (.c2 .and (.c2 .eq (.c2 .rd (.var 1) (.c2 .add (.c2 .mul (.var 4) (.num 73)) (.num 41))) (.c2 .rd (.var 3) (.c2 .add (.c2 .mul (.var 4) (.num 73)) (.num 41)))) (.c2 .and (.c2 .eq (.c2 .rd (.var 1) (.c2 .add (.c2 .mul (.var 4) (.num 73)) (.num 42))) (.c2 .rd (.var 3) (.c2 .add (.c2 .mul (.var 4) (.num 73)) (.num 42)))) (.c2 .and (.c2 .eq (.c2 .rd (.var 1) (.c2 .add (.c2 .mul (.var 4) (.num 73)) (.num 43))) (.c2 .rd (.var 3) (.c2 .add (.c2 .mul (.var 4) (.num 73)) (.num 43)))) (.c2 .and (.c2 .eq (.c2 .rd (.var 1) (.c2 .add (.c2 .mul (.var 4) (.num 73)) (.num 44))) (.c2 .rd (.var 3) (.c2 .add (.c2 .mul (.var 4) (.num 73)) (.num 44)))) (.c2 .and (.c2 .eq (.c2 .rd (.var 1) (.c2 .add (.c2 .mul (.var 4) (.num 73)) (.num 45))) (.c2 .rd (.var 3) (.c2 .add (.c2 .mul (.var 4) (.num 73)) (.num 45)))) (.c2 .and (.c2 .eq (.c2 .rd (.var 1) (.c2 .add (.c2 .mul (.var 4) (.num 73)) (.num 46))) (.c2 .rd (.var 3) (.c2 .add (.c2 .mul (.var 4) (.num 73)) (.num 46)))) (.c2 .and (.c2 .eq (.c2 .rd (.var 1) (.c2 .add (.c2 .mul (.var 4) (.num 73)) (.num 47))) (.c2 .rd (.var 3) (.c2 .add (.c2 .mul (.var 4) (.num 73)) (.num 47)))) (.c2 .and (.c2 .eq (.c2 .rd (.var 1) (.c2 .add (.c2 .mul (.var 4) (.num 73)) (.num 48))) (.c2 .rd (.var 3) (.c2 .add (.c2 .mul (.var 4) (.num 73)) (.num 48)))) (.c2 .and (.c2 .eq (.c2 .rd (.var 1) (.c2 .add (.c2 .mul (.var 4) (.num 73)) (.num 49))) (.c2 .rd (.var 3) (.c2 .add (.c2 .mul (.var 4) (.num 73)) (.num 49)))) (.c2 .and (.c2 .eq (.c2 .rd (.var 1) (.c2 .add (.c2 .mul (.var 4) (.num 73)) (.num 50))) (.c2 .rd (.var 3) (.c2 .add (.c2 .mul (.var 4) (.num 73)) (.num 50)))) (.c2 .and (.c2 .eq (.c2 .rd (.var 1) (.c2 .add (.c2 .mul (.var 4) (.num 73)) (.num 51))) (.c2 .rd (.var 3) (.c2 .add (.c2 .mul (.var 4) (.num 73)) (.num 51)))) (.c2 .and (.c2 .eq (.c2 .rd (.var 1) (.c2 .add (.c2 .mul (.var 4) (.num 73)) (.num 52))) (.c2 .rd (.var 3) (.c2 .add (.c2 .mul (.var 4) (.num 73)) (.num 52)))) (.c2 .and (.c2 .eq (.c2 .rd (.var 1) (.c2 .add (.c2 .mul (.var 4) (.num 73)) (.num 53))) (.c2 .rd (.var 3) (.c2 .add (.c2 .mul (.var 4) (.num 73)) (.num 53)))) (.c2 .and (.c2 .eq (.c2 .rd (.var 1) (.c2 .add (.c2 .mul (.var 4) (.num 73)) (.num 54))) (.c2 .rd (.var 3) (.c2 .add (.c2 .mul (.var 4) (.num 73)) (.num 54)))) (.c2 .and (.c2 .eq (.c2 .rd (.var 1) (.c2 .add (.c2 .mul (.var 4) (.num 73)) (.num 55))) (.c2 .rd (.var 3) (.c2 .add (.c2 .mul (.var 4) (.num 73)) (.num 55)))) (.c2 .and (.c2 .eq (.c2 .rd (.var 1) (.c2 .add (.c2 .mul (.var 4) (.num 73)) (.num 56))) (.c2 .rd (.var 3) (.c2 .add (.c2 .mul (.var 4) (.num 73)) (.num 56)))) (.c2 .and (.c2 .eq (.c2 .rd (.var 1) (.c2 .add (.c2 .mul (.var 4) (.num 73)) (.num 57))) (.c2 .rd (.var 3) (.c2 .add (.c2 .mul (.var 4) (.num 73)) (.num 57)))) (.c2 .and (.c2 .eq (.c2 .rd (.var 1) (.c2 .add (.c2 .mul (.var 4) (.num 73)) (.num 58))) (.c2 .rd (.var 3) (.c2 .add (.c2 .mul (.var 4) (.num 73)) (.num 58)))) (.c2 .and (.c2 .eq (.c2 .rd (.var 1) (.c2 .add (.c2 .mul (.var 4) (.num 73)) (.num 59))) (.c2 .rd (.var 3) (.c2 .add (.c2 .mul (.var 4) (.num 73)) (.num 59)))) (.c2 .and (.c2 .eq (.c2 .rd (.var 1) (.c2 .add (.c2 .mul (.var 4) (.num 73)) (.num 60))) (.c2 .rd (.var 3) (.c2 .add (.c2 .mul (.var 4) (.num 73)) (.num 60)))) (.c2 .and (.c2 .eq (.c2 .rd (.var 1) (.c2 .add (.c2 .mul (.var 4) (.num 73)) (.num 61))) (.c2 .rd (.var 3) (.c2 .add (.c2 .mul (.var 4) (.num 73)) (.num 61)))) (.c2 .and (.c2 .eq (.c2 .rd (.var 1) (.c2 .add (.c2 .mul (.var 4) (.num 73)) (.num 62))) (.c2 .rd (.var 3) (.c2 .add (.c2 .mul (.var 4) (.num 73)) (.num 62)))) (.c2 .and (.c2 .eq (.c2 .rd (.var 1) (.c2 .add (.c2 .mul (.var 4) (.num 73)) (.num 63))) (.c2 .rd (.var 3) (.c2 .add (.c2 .mul (.var 4) (.num 73)) (.num 63)))) (.c2 .and (.c2 .eq (.c2 .rd (.var 1) (.c2 .add (.c2 .mul (.var 4) (.num 73)) (.num 64))) (.c2 .rd (.var 3) (.c2 .add (.c2 .mul (.var 4) (.num 73)) (.num 64)))) (.c2 .and (.c2 .eq (.c2 .rd (.var 1) (.c2 .add (.c2 .mul (.var 4) (.num 73)) (.num 65))) (.c2 .rd (.var 3) (.c2 .add (.c2 .mul (.var 4) (.num 73)) (.num 65)))) (.c2 .and (.c2 .eq (.c2 .rd (.var 1) (.c2 .add (.c2 .mul (.var 4) (.num 73)) (.num 66))) (.c2 .rd (.var 3) (.c2 .add (.c2 .mul (.var 4) (.num 73)) (.num 66)))) (.c2 .and (.c2 .eq (.c2 .rd (.var 1) (.c2 .add (.c2 .mul (.var 4) (.num 73)) (.num 67))) (.c2 .rd (.var 3) (.c2 .add (.c2 .mul (.var 4) (.num 73)) (.num 67)))) (.c2 .and (.c2 .eq (.c2 .rd (.var 1) (.c2 .add (.c2 .mul (.var 4) (.num 73)) (.num 68))) (.c2 .rd (.var 3) (.c2 .add (.c2 .mul (.var 4) (.num 73)) (.num 68)))) (.c2 .and (.c2 .eq (.c2 .rd (.var 1) (.c2 .add (.c2 .mul (.var 4) (.num 73)) (.num 69))) (.c2 .rd (.var 3) (.c2 .add (.c2 .mul (.var 4) (.num 73)) (.num 69)))) (.c2 .and (.c2 .eq (.c2 .rd (.var 1) (.c2 .add (.c2 .mul (.var 4) (.num 73)) (.num 70))) (.c2 .rd (.var 3) (.c2 .add (.c2 .mul (.var 4) (.num 73)) (.num 70)))) (.c2 .and (.c2 .eq (.c2 .rd (.var 1) (.c2 .add (.c2 .mul (.var 4) (.num 73)) (.num 71))) (.c2 .rd (.var 3) (.c2 .add (.c2 .mul (.var 4) (.num 73)) (.num 71)))) (.c2 .eq (.c2 .rd (.var 1) (.c2 .add (.c2 .mul (.var 4) (.num 73)) (.num 72))) (.c2 .rd (.var 3) (.c2 .add (.c2 .mul (.var 4) (.num 73)) (.num 72)))))))))))))))))))))))))))))))))))))))))))))))))))))))))))))))))))))))))))))
 (.ret (.w (.c (.b (.bol false))), ⟨[], [], 2, 5, []⟩))
 (.back 0 4 [(.wr .i64 (.c2 .add (.var 4) (.num 1)))])))))
 (.ret (.w (.c (.b (.bol true))), ⟨[], [], 2, 5, []⟩)))))
theorem treeSkSame_is : funTree (ctxN Go.Proofs.Tryz.prog annsPe [] 8) annsPe 20 tSameL.vs tSameL.bs tSameL.n (preF tSameL.res) = treeSkSame := by kernel_rfl
end Go.Proofs.YtfhjlimdakphcaaGreat.Sx
set_option linter.unusedVariables false
set_option linter.unusedSimpArgs false
namespace Go.Proofs.YtfhjlimdakphcaaGreat.Sx
open Go
set_option maxRecDepth 100000 in
theorem sameL_ok {Φ : Sig} : TmplOk Go.Proofs.Tryz.prog Φ 20 tSameL := by
 refine tmpl_of noCons treeSkSame_is (fun ρ res hres => ⟨sameJ, ?_⟩)
 obtain ⟨a0, a1, hres⟩ := inR_some hres
 obtain ⟨b0, b1, hres⟩ := inR_some hres
 obtain ⟨_, hres⟩ := chk_some hres
 obtain ⟨_, hres⟩ := chk_some hres
 obtain ⟨l1, hres⟩ := chk_some hres
 obtain ⟨l2, hres⟩ := chk_some hres
 obtain rfl := ret_some hres
 simp at l1 l2
 obtain ⟨n, hn⟩ := Int.eq_ofNat_of_zero_le a0
 obtain ⟨n2, hn2⟩ := Int.eq_ofNat_of_zero_le b0
 rw [hn] at l1 a1
 rw [hn2] at l2 b1
 have hv : (T.den Φ ρ (.c2 .leq (.var 1) (.var 3))).bool = decide ((ρ 1).list = (ρ 3).list) := rfl
 refine ⟨fun c => ?_, fun c => ⟨⟨0, rfl, a0, by simp⟩, ?_⟩⟩
 · refine ⟨?_, trivial, Nat.le_refl _⟩
   show false = _
   rw [hv, eq_comm, decide_eq_false_iff_not]
   intro e
   simp [hn, hn2] at c
   rw [e] at l1; omega
 · simp [hn, hn2] at c
   rintro ds hlen ⟨i, i0, i1, i2⟩
   have e0 : upd ρ 4 ds 0 = ρ 0 := upd_lo ds (by decide)
   have e1 : upd ρ 4 ds 1 = ρ 1 := upd_lo ds (by decide)
   have e2 : upd ρ 4 ds 2 = ρ 2 := upd_lo ds (by decide)
   have e3 : upd ρ 4 ds 3 = ρ 3 := upd_lo ds (by decide)
   have e4 : upd ρ 4 ds 4 = nthD ds 0 := upd_at (i := 0) (by omega)
   generalize upd ρ 4 ds = ρ' at *
   have v4 : (ρ' 4).int = i := by rw [e4]; exact i0
   rw [hn] at i1
   have hM : (T.den Φ ρ' (.c2 .mul (.var 4) (.num 73))).int = ((73 * i : Nat) : Int) := by rw [int_mul, den_var, v4]; show (i : Int) * 73 = _; omega
   refine ⟨?_, fun d => ⟨?_, ?_, ?_, fun f => ?_, fun f => ?_⟩, fun d => ?_⟩
   · intro t p hm
     simp only [List.mem_cons, Prod.mk.injEq, List.not_mem_nil, or_false] at hm
     obtain ⟨rfl, rfl⟩ := hm
     rw [le_t, den_var, v4]; exact Int.natCast_nonneg _
   · rw [lt_t, den_var, den_var, v4, e0, hn] at d
     rw [le_t, int_add, hM, int_len, den_var, e1]; show ((73 * i : Nat) : Int) + 73 ≤ _; omega
   · rw [lt_t, den_var, den_var, v4, e0, hn] at d
     rw [lt_t, den_var, den_var, v4, e2, hn2]; omega
   · rw [lt_t, den_var, den_var, v4, e0, hn] at d
     rw [le_t, int_add, hM, int_len, den_var, e3]; show ((73 * i : Nat) : Int) + 73 ≤ _; omega
   · refine ⟨?_, trivial, Nat.le_refl _⟩
     show false = _
     rw [hv, eq_comm, decide_eq_false_iff_not]
     intro e
     rw [not_t] at f
     have : (T.den Φ ρ' (eqsT (.var 1) (.var 3) (.c2 .mul (.var 4) (.num 73)) 0 72)).bool = true := by
       rw [eqs_iff hM]
       intro j _ _
       rw [den_var, den_var, e1, e3, e]
     have f3 : (T.den Φ ρ' (eqsT (.var 1) (.var 3) (.c2 .mul (.var 4) (.num 73)) 0 72)).bool = false := f
     rw [this] at f3; cases f3
   · rw [lt_t, den_var, den_var, v4, e0, hn] at d
     rw [not_f] at f
     have f2 : (T.den Φ ρ' (eqsT (.var 1) (.var 3) (.c2 .mul (.var 4) (.num 73)) 0 72)).bool = true := f
     rw [eqs_iff hM] at f2
     have w : IntKind.i64.wrap ((i : Int) + 1) = ((i + 1 : Nat) : Int) := by rw [wrap_is (by simp only [kmin]; omega) (by simp only [kmax]; omega)]; rfl
     have w2 : (T.den Φ ρ' (.wr .i64 (.c2 .add (.var 4) (.num 1)))).int = ((i + 1 : Nat) : Int) := by rw [int_wr, int_add, den_var, v4]; exact w
     refine ok_back ⟨⟨i + 1, w2, by rw [hn]; omega, ?_⟩, ?_⟩
     · rw [show 73 * (i + 1) = 73 * i + 73 from by omega]
       refine take_many i2 (by omega) (by omega) (fun j hj => ?_)
       have := f2 j (Nat.zero_le _) (by omega)
       rw [den_var, den_var, e1, e3] at this
       exact this
     · show (ρ 0).int.toNat - (T.den Φ ρ' (.wr .i64 (.c2 .add (.var 4) (.num 1)))).int.toNat < (ρ 0).int.toNat - (nthD ds 0).int.toNat
       rw [w2, hn, i0]; omega
   · rw [lt_f, den_var, den_var, v4, e0, hn] at d
     refine ⟨?_, trivial, Nat.le_refl _⟩
     show true = _
     rw [hv, eq_comm, decide_eq_true_iff]
     have hi : i = n := by omega
     rw [hi, List.take_of_length_le (by omega), List.take_of_length_le (by omega)] at i2
     exact i2
end Go.Proofs.YtfhjlimdakphcaaGreat.Sx
set_option maxRecDepth 100000
namespace Go.Proofs.YtfhjlimdakphcaaGreat.Sx
open Go
def treeSkStacks : M (V × St) :=
(.split (.c2 .eq (.fn 80 (.c2 .take (.c2 .mul (.var 1) (.num 73)) (.var 2)) (.var 0) .nil) (.num 0))
 (.chk (.c1 (.kin [.u8]) (.fn 81 (.c2 .take (.c2 .mul (.var 1) (.num 73)) (.var 2)) (.var 0) .nil))
 (.chk (.c2 .le (.c1 .len (.fn 81 (.c2 .take (.c2 .mul (.var 1) (.num 73)) (.var 2)) (.var 0) .nil)) (.num 140737488351232))
 (.split (.c2 .eq (.fn 80 (.var 2) (.var 0) .nil) (.num 0))
 (.chk (.c1 (.kin [.u8]) (.fn 81 (.var 2) (.var 0) .nil))
 (.chk (.c2 .le (.c1 .len (.fn 81 (.var 2) (.var 0) .nil)) (.num 140737488351232))
 (.split (.c1 .not (.c2 .leq (.fn 81 (.c2 .take (.c2 .mul (.var 1) (.num 73)) (.var 2)) (.var 0) .nil) (.fn 81 (.var 2) (.var 0) .nil)))
 (.ret (.w (.c (.b (.bol false))), ⟨[], [], 806, 3, []⟩))
 (.split (.c1 .not (.c2 .leq (.c2 .take (.c2 .mul (.var 1) (.num 73)) (.var 2)) (.var 2)))
 (.ret (.w (.c (.b (.bol false))), ⟨[], [], 808, 3, []⟩))
 (.loop 0 3 2 [(.num 0), (.fn 81 (.c2 .take (.c2 .mul (.var 1) (.num 73)) (.var 2)) (.var 0) .nil)] [((.c2 .le (.num 0) (.var 3)), true), ((.c2 .eq (.c1 .len (.var 4)) (.c1 .len (.fn 81 (.c2 .take (.c2 .mul (.var 1) (.num 73)) (.var 2)) (.var 0) .nil))), true), ((.c1 (.kin [.u8]) (.var 4)), true)]
 (.split (.c2 .lt (.var 3) (.c1 .len (.fn 81 (.c2 .take (.c2 .mul (.var 1) (.num 73)) (.var 2)) (.var 0) .nil)))
 (.chk (.c2 .le (.c2 .add (.var 3) (.num 1)) (.c1 .len (.var 4)))
 (.back 0 3 [(.wr .i64 (.c2 .add (.var 3) (.num 1))), (.set (.var 4) (.var 3) (.bits .xor .u8 (.c2 .rd (.var 4) (.var 3)) (.num 90)))]))
 (.ret (.w (.c (.b (.bol true))), ⟨[], [], 5810, 5, []⟩))))))))
 (.split (.c1 .not (.c2 .eq (.num 0) (.fn 80 (.var 2) (.var 0) .nil)))
 (.ret (.w (.c (.b (.bol false))), ⟨[], [], 804, 3, []⟩))
 (.split (.c1 .not (.c2 .leq (.fn 81 (.c2 .take (.c2 .mul (.var 1) (.num 73)) (.var 2)) (.var 0) .nil) .nil))
 (.ret (.w (.c (.b (.bol false))), ⟨[], [], 805, 3, []⟩))
 (.split (.c1 .not (.c2 .leq (.c2 .take (.c2 .mul (.var 1) (.num 73)) (.var 2)) (.var 2)))
 (.ret (.w (.c (.b (.bol false))), ⟨[], [], 807, 3, []⟩))
 (.loop 0 3 2 [(.num 0), (.fn 81 (.c2 .take (.c2 .mul (.var 1) (.num 73)) (.var 2)) (.var 0) .nil)] [((.c2 .le (.num 0) (.var 3)), true), ((.c2 .eq (.c1 .len (.var 4)) (.c1 .len (.fn 81 (.c2 .take (.c2 .mul (.var 1) (.num 73)) (.var 2)) (.var 0) .nil))), true), ((.c1 (.kin [.u8]) (.var 4)), true)]
 (.split (.c2 .lt (.var 3) (.c1 .len (.fn 81 (.c2 .take (.c2 .mul (.var 1) (.num 73)) (.var 2)) (.var 0) .nil)))
 (.chk (.c2 .le (.c2 .add (.var 3) (.num 1)) (.c1 .len (.var 4)))
 (.back 0 3 [(.wr .i64 (.c2 .add (.var 3) (.num 1))), (.set (.var 4) (.var 3) (.bits .xor .u8 (.c2 .rd (.var 4) (.var 3)) (.num 90)))]))
 (.ret (.w (.c (.b (.bol true))), ⟨[], [], 5809, 5, []⟩))))))))))
 (.split (.c2 .eq (.fn 80 (.var 2) (.var 0) .nil) (.num 0))
 (.chk (.c1 (.kin [.u8]) (.fn 81 (.var 2) (.var 0) .nil))
 (.chk (.c2 .le (.c1 .len (.fn 81 (.var 2) (.var 0) .nil)) (.num 140737488351232))
 (.ret (.w (.c (.b (.bol false))), ⟨[], [], 804, 3, []⟩))))
 (.split (.c1 .not (.c2 .eq (.fn 80 (.c2 .take (.c2 .mul (.var 1) (.num 73)) (.var 2)) (.var 0) .nil) (.fn 80 (.var 2) (.var 0) .nil)))
 (.ret (.w (.c (.b (.bol false))), ⟨[], [], 804, 3, []⟩))
 (.split (.c1 .not (.c2 .leq (.c2 .take (.c2 .mul (.var 1) (.num 73)) (.var 2)) (.var 2)))
 (.ret (.w (.c (.b (.bol false))), ⟨[], [], 806, 3, []⟩))
 (.ret (.w (.c (.b (.bol true))), ⟨[], [], 5808, 3, []⟩))))))
theorem treeSkStacks_is : funTree (ctxN Go.Proofs.Tryz.prog annsSt consSt 8) annsSt 4 tWStacks.vs tWStacks.bs tWStacks.n (preF tWStacks.res) = treeSkStacks := by kernel_rfl
end Go.Proofs.YtfhjlimdakphcaaGreat.Sx
set_option linter.unusedVariables false
set_option linter.unusedSimpArgs false
set_option maxRecDepth 100000
namespace Go.Proofs.YtfhjlimdakphcaaGreat.Sx
open Go
theorem consSt_ok : ConsOk Go.Proofs.Tryz.prog ΦP consSt := moreCons (con_ok wlAwake_ok) (moreCons (con_ok wlEq_ok) (moreCons (con_ok sameL_ok) (moreCons (con_ok stack_ok) (moreCons (con_ok stackR_ok) noCons))))
def stTk : T := .c2 .take (.c2 .mul (.var 1) (.num 73)) (.var 2)
theorem stk_good {L p : List Int} {n : Nat} (hi : StkIn L p n) (h : stkErr L p = 0) : Bytes (putH pushErr (rowsOf L) p).2 ∧ (putH pushErr (rowsOf L) p).2.length ≤ 140737488351232 := by
 have h8 : n ≤ 8 := by
   by_cases c : n ≤ 8
   · exact c
   · rw [hi.many (by omega)] at h; cases h
 have go : ∀ k, k ≤ n → StkAt L p (n - k) (putH pushErr ((rowsOf L).drop (n - k)) p).2 := by
   intro k
   induction k with
   | zero => intro _; have := hi.start; rw [Nat.sub_zero, this.put]; exact this
   | succ k ih =>
     intro hk
     have hs := ih (by omega)
     obtain ⟨m, hm⟩ : ∃ m, n - k = m + 1 := ⟨n - k - 1, by omega⟩
     rw [hm] at hs
     by_cases c : pushErr (hdAt L m) (putH pushErr ((rowsOf L).drop (m + 1)) p).2 = 0
     · have g := (hs.step hi (by omega) c).1
       rw [show n - (k + 1) = m from by omega]
       have e := g.put
       rw [e]; exact g
     · exact absurd h (by rw [hs.err hi (by omega) h8 c]; exact c)
 have := go n (Nat.le_refl _)
 rw [Nat.sub_self, List.drop_zero] at this
 exact ⟨this.bytes, this.short⟩
theorem wStacks_ok : TmplOk Go.Proofs.Tryz.prog ΦP 4 tWStacks := by
 refine tmpl_of consSt_ok treeSkStacks_is (fun ρ res hres => ⟨turnJ ΦP (.fn 81 stTk (.var 0) .nil), ?_⟩)
 obtain ⟨n, hn, hn1, hi, hres⟩ := stk_some hres
 obtain ⟨hb, hres⟩ := chk_some hres
 obtain rfl := ret_some hres
 have hT : (T.den ΦP ρ stTk).list = (ρ 2).list := by
   rw [stTk, list_take, int_mul, den_var, den_var, hn]
   apply List.take_of_length_le
   have := hi.len
   show (ρ 2).list.length ≤ ((n : Int) * 73).toNat
   omega
 have hE1 : (T.den ΦP ρ (.fn 80 stTk (.var 0) .nil)).int = stkErr (ρ 2).list (ρ 0).list := by
   show stkErr (T.den ΦP ρ stTk).list (ρ 0).list = _; rw [hT]
 have hE2 : (T.den ΦP ρ (.fn 80 (.var 2) (.var 0) .nil)).int = stkErr (ρ 2).list (ρ 0).list := rfl
 have hR1 : (T.den ΦP ρ (.fn 81 stTk (.var 0) .nil)).list = (putH pushErr (rowsOf (ρ 2).list) (ρ 0).list).2 := by
   show (putH pushErr (rowsOf (T.den ΦP ρ stTk).list) (ρ 0).list).2 = _; rw [hT]
 have hR2 : (T.den ΦP ρ (.fn 81 (.var 2) (.var 0) .nil)).list = (putH pushErr (rowsOf (ρ 2).list) (ρ 0).list).2 := rfl
 refine ⟨fun c => ?_, fun c => ⟨fun c2 => ?_, fun c2 => ⟨fun q => ?_, fun _ => ⟨fun q => ?_, fun _ => leaf_true rfl (by decide)⟩⟩⟩⟩
 · replace c := (eq_t ΦP ρ (.fn 80 stTk (.var 0) .nil) (.num 0)).mp c
   rw [hE1] at c
   obtain ⟨g1, g2⟩ := stk_good hi c
   have g2' : (((putH pushErr (rowsOf (ρ 2).list) (ρ 0).list).2.length : Nat) : Int) ≤ 140737488351232 := by omega
   refine ⟨(bytes_t ΦP ρ (.fn 81 stTk (.var 0) .nil)).mpr (by rw [hR1]; exact g1), (le_t ΦP ρ (.c1 .len (.fn 81 stTk (.var 0) .nil)) (.num 140737488351232)).mpr (by rw [int_len, hR1]; exact g2'), fun c2 => ?_, fun c2 => ?_⟩
   · refine ⟨by rw [bytes_t, hR2]; exact g1, by rw [le_t, int_len, hR2]; exact g2', fun q => ?_, fun _ => ⟨fun q => ?_, fun _ => ?_⟩⟩
     · exfalso; rw [not_t] at q; exact (leq_f ΦP ρ (.fn 81 stTk (.var 0) .nil) (.fn 81 (.var 2) (.var 0) .nil)).mp q (hR1.trans hR2.symm)
     · exfalso; rw [not_t] at q; exact (leq_f ΦP ρ stTk (.var 2)).mp q hT
     · exact turn_ok (b := 3) (R := .fn 81 stTk (.var 0) .nil) rfl (by rw [hR1]; exact g1) (by rw [hR1]; exact g2) (fun B' ds => leaf_true rfl (by decide))
   · exfalso; rw [eq_f, hE2] at c2; exact c2 c
 · exfalso
   replace c := (eq_f ΦP ρ (.fn 80 stTk (.var 0) .nil) (.num 0)).mp c
   rw [hE1] at c; rw [eq_t, hE2] at c2; exact c c2
 · exfalso; rw [not_t] at q; exact (eq_f ΦP ρ (.fn 80 stTk (.var 0) .nil) (.fn 80 (.var 2) (.var 0) .nil)).mp q (hE1.trans hE2.symm)
 · exfalso; rw [not_t] at q; exact (leq_f ΦP ρ stTk (.var 2)).mp q hT
end Go.Proofs.YtfhjlimdakphcaaGreat.Sx
set_option maxRecDepth 100000
namespace Go.Proofs.YtfhjlimdakphcaaGreat.Sx
open Go
end Go.Proofs.YtfhjlimdakphcaaGreat.Sx
set_option maxRecDepth 100000
namespace Go.Proofs.YtfhjlimdakphcaaGreat.Sx
open Go
end Go.Proofs.YtfhjlimdakphcaaGreat.Sx
