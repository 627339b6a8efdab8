/- Sx: texts of this claim put together: TPbBytes, TWdLink, HdWLink, TWdTag, HdWTag, TWdNet4, HdWNet4, TWdNet6, HdWNet6, TWdSeg, HdWSeg, TWdDgram, HdWDgram, PbK, TPbWhole, TPbBring, TPbHeads, PcK, PcH, TPeNext, TPeNextR, TPePeel. Conditions: none. -/
import Derived.Test.YtbiodlomlendkaaU4
import Derived.Test.YtbiodlomlendkaaProg
import Derived.KernelRfl
/- Sx: what Go function 39 does, as a tree of conditions (printed by a tool of this claim, proved by the kernel). Conditions: none. -/
set_option maxRecDepth 100000
namespace Go.Proofs.Ytbiodlomlendkaa.Sx
open Go
def treePbBytes : M (V × St) :=
(.split (.c2 .eq (.var 0) (.num 1))
 (.split (.c2 .eq (.fn 41 (.cons (.var 1) (.cons (.var 2) (.cons (.var 3) (.cons (.var 4) (.cons (.var 5) (.cons (.var 6) (.cons (.var 7) (.cons (.var 8) (.cons (.var 9) (.cons (.var 10) (.cons (.var 11) (.cons (.var 12) (.cons (.var 13) .nil))))))))))))) (.var 73) .nil) (.num 0))
  (.chk (.c1 (.kin [.u8]) (.fn 31 (.cons (.var 1) (.cons (.var 2) (.cons (.var 3) (.cons (.var 4) (.cons (.var 5) (.cons (.var 6) (.cons (.var 7) (.cons (.var 8) (.cons (.var 9) (.cons (.var 10) (.cons (.var 11) (.cons (.var 12) (.cons (.var 13) .nil))))))))))))) (.var 73) .nil))
  (.chk (.c2 .eq (.c1 .len (.fn 31 (.cons (.var 1) (.cons (.var 2) (.cons (.var 3) (.cons (.var 4) (.cons (.var 5) (.cons (.var 6) (.cons (.var 7) (.cons (.var 8) (.cons (.var 9) (.cons (.var 10) (.cons (.var 11) (.cons (.var 12) (.cons (.var 13) .nil))))))))))))) (.var 73) .nil)) (.num 14))
  (.ret (.t [.c (.s 5 1 0 (.num 0) (.num 14)), .c (.b (.bol true))], ⟨[], [(5, some ⟨true, .row [.u8] (.fn 31 (.cons (.var 1) (.cons (.var 2) (.cons (.var 3) (.cons (.var 4) (.cons (.var 5) (.cons (.var 6) (.cons (.var 7) (.cons (.var 8) (.cons (.var 9) (.cons (.var 10) (.cons (.var 11) (.cons (.var 12) (.cons (.var 13) .nil))))))))))))) (.var 73) .nil)⟩)], 62, 74, []⟩))))
  (.ret (.t [.c (.sn), .c (.b (.c2 .eq (.fn 41 (.cons (.var 1) (.cons (.var 2) (.cons (.var 3) (.cons (.var 4) (.cons (.var 5) (.cons (.var 6) (.cons (.var 7) (.cons (.var 8) (.cons (.var 9) (.cons (.var 10) (.cons (.var 11) (.cons (.var 12) (.cons (.var 13) .nil))))))))))))) (.var 73) .nil) (.num 0)))], ⟨[], [], 62, 74, []⟩)))
 (.split (.c2 .eq (.var 0) (.num 2))
  (.split (.c2 .eq (.fn 42 (.cons (.var 14) (.cons (.var 15) (.cons (.var 16) .nil))) (.var 73) .nil) (.num 0))
   (.chk (.c1 (.kin [.u8]) (.fn 32 (.cons (.var 14) (.cons (.var 15) (.cons (.var 16) .nil))) (.var 73) .nil))
   (.chk (.c2 .eq (.c1 .len (.fn 32 (.cons (.var 14) (.cons (.var 15) (.cons (.var 16) .nil))) (.var 73) .nil)) (.num 4))
   (.ret (.t [.c (.s 5 1 0 (.num 0) (.num 4)), .c (.b (.bol true))], ⟨[], [(5, some ⟨true, .row [.u8] (.fn 32 (.cons (.var 14) (.cons (.var 15) (.cons (.var 16) .nil))) (.var 73) .nil)⟩)], 62, 74, []⟩))))
   (.ret (.t [.c (.sn), .c (.b (.c2 .eq (.fn 42 (.cons (.var 14) (.cons (.var 15) (.cons (.var 16) .nil))) (.var 73) .nil) (.num 0)))], ⟨[], [], 62, 74, []⟩)))
  (.split (.c2 .eq (.var 0) (.num 3))
   (.split (.c2 .eq (.fn 43 (.cons (.var 17) (.cons (.var 18) (.cons (.var 19) (.cons (.var 20) (.cons (.var 21) (.cons (.var 22) (.cons (.var 23) (.cons (.var 24) (.cons (.var 25) (.cons (.var 26) (.cons (.var 27) (.cons (.var 28) .nil)))))))))))) (.var 73) .nil) (.num 0))
    (.chk (.c1 (.kin [.u8]) (.fn 33 (.cons (.var 17) (.cons (.var 18) (.cons (.var 19) (.cons (.var 20) (.cons (.var 21) (.cons (.var 22) (.cons (.var 23) (.cons (.var 24) (.cons (.var 25) (.cons (.var 26) (.cons (.var 27) (.cons (.var 28) .nil)))))))))))) (.var 73) .nil))
    (.chk (.c2 .eq (.c1 .len (.fn 33 (.cons (.var 17) (.cons (.var 18) (.cons (.var 19) (.cons (.var 20) (.cons (.var 21) (.cons (.var 22) (.cons (.var 23) (.cons (.var 24) (.cons (.var 25) (.cons (.var 26) (.cons (.var 27) (.cons (.var 28) .nil)))))))))))) (.var 73) .nil)) (.num 20))
    (.ret (.t [.c (.s 5 1 0 (.num 0) (.num 20)), .c (.b (.bol true))], ⟨[], [(5, some ⟨true, .row [.u8] (.fn 33 (.cons (.var 17) (.cons (.var 18) (.cons (.var 19) (.cons (.var 20) (.cons (.var 21) (.cons (.var 22) (.cons (.var 23) (.cons (.var 24) (.cons (.var 25) (.cons (.var 26) (.cons (.var 27) (.cons (.var 28) .nil)))))))))))) (.var 73) .nil)⟩)], 62, 74, []⟩))))
    (.ret (.t [.c (.sn), .c (.b (.c2 .eq (.fn 43 (.cons (.var 17) (.cons (.var 18) (.cons (.var 19) (.cons (.var 20) (.cons (.var 21) (.cons (.var 22) (.cons (.var 23) (.cons (.var 24) (.cons (.var 25) (.cons (.var 26) (.cons (.var 27) (.cons (.var 28) .nil)))))))))))) (.var 73) .nil) (.num 0)))], ⟨[], [], 62, 74, []⟩)))
   (.split (.c2 .eq (.var 0) (.num 4))
    (.split (.c2 .eq (.fn 44 (.cons (.var 29) (.cons (.var 30) (.cons (.var 31) (.cons (.var 32) (.cons (.var 33) (.cons (.var 34) (.cons (.var 35) (.cons (.var 36) (.cons (.var 37) (.cons (.var 38) (.cons (.var 39) (.cons (.var 40) (.cons (.var 41) (.cons (.var 42) (.cons (.var 43) (.cons (.var 44) (.cons (.var 45) (.cons (.var 46) (.cons (.var 47) (.cons (.var 48) (.cons (.var 49) (.cons (.var 50) (.cons (.var 51) (.cons (.var 52) (.cons (.var 53) (.cons (.var 54) (.cons (.var 55) (.cons (.var 56) (.cons (.var 57) (.cons (.var 58) (.cons (.var 59) (.cons (.var 60) (.cons (.var 61) (.cons (.var 62) (.cons (.var 63) (.cons (.var 64) .nil)))))))))))))))))))))))))))))))))))) (.var 73) .nil) (.num 0))
     (.chk (.c1 (.kin [.u8]) (.fn 34 (.cons (.var 29) (.cons (.var 30) (.cons (.var 31) (.cons (.var 32) (.cons (.var 33) (.cons (.var 34) (.cons (.var 35) (.cons (.var 36) (.cons (.var 37) (.cons (.var 38) (.cons (.var 39) (.cons (.var 40) (.cons (.var 41) (.cons (.var 42) (.cons (.var 43) (.cons (.var 44) (.cons (.var 45) (.cons (.var 46) (.cons (.var 47) (.cons (.var 48) (.cons (.var 49) (.cons (.var 50) (.cons (.var 51) (.cons (.var 52) (.cons (.var 53) (.cons (.var 54) (.cons (.var 55) (.cons (.var 56) (.cons (.var 57) (.cons (.var 58) (.cons (.var 59) (.cons (.var 60) (.cons (.var 61) (.cons (.var 62) (.cons (.var 63) (.cons (.var 64) .nil)))))))))))))))))))))))))))))))))))) (.var 73) .nil))
     (.chk (.c2 .eq (.c1 .len (.fn 34 (.cons (.var 29) (.cons (.var 30) (.cons (.var 31) (.cons (.var 32) (.cons (.var 33) (.cons (.var 34) (.cons (.var 35) (.cons (.var 36) (.cons (.var 37) (.cons (.var 38) (.cons (.var 39) (.cons (.var 40) (.cons (.var 41) (.cons (.var 42) (.cons (.var 43) (.cons (.var 44) (.cons (.var 45) (.cons (.var 46) (.cons (.var 47) (.cons (.var 48) (.cons (.var 49) (.cons (.var 50) (.cons (.var 51) (.cons (.var 52) (.cons (.var 53) (.cons (.var 54) (.cons (.var 55) (.cons (.var 56) (.cons (.var 57) (.cons (.var 58) (.cons (.var 59) (.cons (.var 60) (.cons (.var 61) (.cons (.var 62) (.cons (.var 63) (.cons (.var 64) .nil)))))))))))))))))))))))))))))))))))) (.var 73) .nil)) (.num 40))
     (.ret (.t [.c (.s 5 1 0 (.num 0) (.num 40)), .c (.b (.bol true))], ⟨[], [(5, some ⟨true, .row [.u8] (.fn 34 (.cons (.var 29) (.cons (.var 30) (.cons (.var 31) (.cons (.var 32) (.cons (.var 33) (.cons (.var 34) (.cons (.var 35) (.cons (.var 36) (.cons (.var 37) (.cons (.var 38) (.cons (.var 39) (.cons (.var 40) (.cons (.var 41) (.cons (.var 42) (.cons (.var 43) (.cons (.var 44) (.cons (.var 45) (.cons (.var 46) (.cons (.var 47) (.cons (.var 48) (.cons (.var 49) (.cons (.var 50) (.cons (.var 51) (.cons (.var 52) (.cons (.var 53) (.cons (.var 54) (.cons (.var 55) (.cons (.var 56) (.cons (.var 57) (.cons (.var 58) (.cons (.var 59) (.cons (.var 60) (.cons (.var 61) (.cons (.var 62) (.cons (.var 63) (.cons (.var 64) .nil)))))))))))))))))))))))))))))))))))) (.var 73) .nil)⟩)], 62, 74, []⟩))))
     (.ret (.t [.c (.sn), .c (.b (.c2 .eq (.fn 44 (.cons (.var 29) (.cons (.var 30) (.cons (.var 31) (.cons (.var 32) (.cons (.var 33) (.cons (.var 34) (.cons (.var 35) (.cons (.var 36) (.cons (.var 37) (.cons (.var 38) (.cons (.var 39) (.cons (.var 40) (.cons (.var 41) (.cons (.var 42) (.cons (.var 43) (.cons (.var 44) (.cons (.var 45) (.cons (.var 46) (.cons (.var 47) (.cons (.var 48) (.cons (.var 49) (.cons (.var 50) (.cons (.var 51) (.cons (.var 52) (.cons (.var 53) (.cons (.var 54) (.cons (.var 55) (.cons (.var 56) (.cons (.var 57) (.cons (.var 58) (.cons (.var 59) (.cons (.var 60) (.cons (.var 61) (.cons (.var 62) (.cons (.var 63) (.cons (.var 64) .nil)))))))))))))))))))))))))))))))))))) (.var 73) .nil) (.num 0)))], ⟨[], [], 62, 74, []⟩)))
    (.split (.c2 .eq (.var 0) (.num 5))
     (.split (.c2 .eq (.fn 45 (.cons (.var 65) (.cons (.var 66) (.cons (.var 67) (.cons (.var 68) (.cons (.var 69) (.cons (.var 70) .nil)))))) (.var 73) .nil) (.num 0))
      (.chk (.c1 (.kin [.u8]) (.fn 35 (.cons (.var 65) (.cons (.var 66) (.cons (.var 67) (.cons (.var 68) (.cons (.var 69) (.cons (.var 70) .nil)))))) (.var 73) .nil))
      (.chk (.c2 .eq (.c1 .len (.fn 35 (.cons (.var 65) (.cons (.var 66) (.cons (.var 67) (.cons (.var 68) (.cons (.var 69) (.cons (.var 70) .nil)))))) (.var 73) .nil)) (.num 20))
      (.ret (.t [.c (.s 5 1 0 (.num 0) (.num 20)), .c (.b (.bol true))], ⟨[], [(5, some ⟨true, .row [.u8] (.fn 35 (.cons (.var 65) (.cons (.var 66) (.cons (.var 67) (.cons (.var 68) (.cons (.var 69) (.cons (.var 70) .nil)))))) (.var 73) .nil)⟩)], 62, 74, []⟩))))
      (.ret (.t [.c (.sn), .c (.b (.c2 .eq (.fn 45 (.cons (.var 65) (.cons (.var 66) (.cons (.var 67) (.cons (.var 68) (.cons (.var 69) (.cons (.var 70) .nil)))))) (.var 73) .nil) (.num 0)))], ⟨[], [], 62, 74, []⟩)))
     (.split (.c2 .eq (.var 0) (.num 6))
      (.split (.c2 .eq (.fn 46 (.cons (.var 71) (.cons (.var 72) .nil)) (.var 73) .nil) (.num 0))
       (.chk (.c1 (.kin [.u8]) (.fn 36 (.cons (.var 71) (.cons (.var 72) .nil)) (.var 73) .nil))
       (.chk (.c2 .eq (.c1 .len (.fn 36 (.cons (.var 71) (.cons (.var 72) .nil)) (.var 73) .nil)) (.num 8))
       (.ret (.t [.c (.s 5 1 0 (.num 0) (.num 8)), .c (.b (.bol true))], ⟨[], [(5, some ⟨true, .row [.u8] (.fn 36 (.cons (.var 71) (.cons (.var 72) .nil)) (.var 73) .nil)⟩)], 62, 74, []⟩))))
       (.ret (.t [.c (.sn), .c (.b (.c2 .eq (.fn 46 (.cons (.var 71) (.cons (.var 72) .nil)) (.var 73) .nil) (.num 0)))], ⟨[], [], 62, 74, []⟩)))
      (.ret (.t [.c (.sn), .c (.b (.bol false))], ⟨[], [], 2, 74, []⟩))))))))
theorem treePbBytes_is : funTree (ctxN Go.Proofs.Try.prog annsPb consWd 8) annsPb 39 (tHb 5).vs (tHb 5).bs (tHb 5).n (preF (tHb 5).res) = treePbBytes := by kernel_rfl
end Go.Proofs.Ytbiodlomlendkaa.Sx
/- Sx: what Go function 73 does, as a tree of conditions (printed by a tool of this claim, proved by the kernel). Conditions: none. -/
set_option maxRecDepth 100000
namespace Go.Proofs.Ytbiodlomlendkaa.Sx
open Go
def treeWdLink : M (V × St) :=
(.split (.c2 .lt (.num 2034) (.c1 .len (.var 13)))
 (.ret (.t [.c (.sn), .c (.i .i64 (.num 5))], ⟨[], [], 3, 14, []⟩))
 (.ret (.t [.c (.s 3 1 0 (.num 0) (.num 14)), .c (.i .i64 (.num 0))], ⟨[], [(3, some ⟨true, .row [.u8] (.cons (.var 0) (.cons (.var 1) (.cons (.var 2) (.cons (.var 3) (.cons (.var 4) (.cons (.var 5) (.cons (.var 6) (.cons (.var 7) (.cons (.var 8) (.cons (.var 9) (.cons (.var 10) (.cons (.var 11) (.cons (.c2 .fdiv (.var 12) (.num 256)) (.cons (.c2 .sub (.var 12) (.c2 .mul (.c2 .fdiv (.var 12) (.num 256)) (.num 256))) .nil))))))))))))))⟩)], 4, 14, []⟩)))
theorem treeWdLink_is : funTree (ctxN Go.Proofs.Try.prog annsHd consSum 8) annsHd 73 (tBytes 1 3 60 14 kLink).vs (tBytes 1 3 60 14 kLink).bs (tBytes 1 3 60 14 kLink).n (preF (tBytes 1 3 60 14 kLink).res) = treeWdLink := by kernel_rfl
end Go.Proofs.Ytbiodlomlendkaa.Sx
/- Sx laws of headers: the writers of layer Link. Conditions: none. -/
set_option linter.unusedVariables false
set_option linter.unusedSimpArgs false
namespace Go.Proofs.Ytbiodlomlendkaa.Sx
open Go
set_option maxRecDepth 100000 in
theorem wdLink_ok {Φ : Sig} (hΦ : HdSig Φ) : TmplOk Go.Proofs.Try.prog Φ 73 (tBytes 1 3 60 14 kLink) := by
  refine tmpl_of (consSum_ok hΦ.toSumSig) treeWdLink_is (fun ρ res hres => ⟨eqJ, ?_⟩)
  obtain ⟨hk, hres⟩ := inKs_some hres
  obtain ⟨h0, hres⟩ := short_some hres
  obtain ⟨hb, hres⟩ := bytes_some hres
  have hr := wr_res (n := 13) hΦ ⟨by decide, by decide⟩ hres
  have h0' : (ρ 13).list.length ≤ 140737488351232 := h0
  have hb' : Bytes (ρ 13).list := hb
  have a0 : (hdrOf Φ ρ 13)[0]?.getD 0 = (ρ 0).int := hdr_at 13 0 (by decide)
  have a1 : (hdrOf Φ ρ 13)[1]?.getD 0 = (ρ 1).int := hdr_at 13 1 (by decide)
  have a2 : (hdrOf Φ ρ 13)[2]?.getD 0 = (ρ 2).int := hdr_at 13 2 (by decide)
  have a3 : (hdrOf Φ ρ 13)[3]?.getD 0 = (ρ 3).int := hdr_at 13 3 (by decide)
  have a4 : (hdrOf Φ ρ 13)[4]?.getD 0 = (ρ 4).int := hdr_at 13 4 (by decide)
  have a5 : (hdrOf Φ ρ 13)[5]?.getD 0 = (ρ 5).int := hdr_at 13 5 (by decide)
  have a6 : (hdrOf Φ ρ 13)[6]?.getD 0 = (ρ 6).int := hdr_at 13 6 (by decide)
  have a7 : (hdrOf Φ ρ 13)[7]?.getD 0 = (ρ 7).int := hdr_at 13 7 (by decide)
  have a8 : (hdrOf Φ ρ 13)[8]?.getD 0 = (ρ 8).int := hdr_at 13 8 (by decide)
  have a9 : (hdrOf Φ ρ 13)[9]?.getD 0 = (ρ 9).int := hdr_at 13 9 (by decide)
  have a10 : (hdrOf Φ ρ 13)[10]?.getD 0 = (ρ 10).int := hdr_at 13 10 (by decide)
  have a11 : (hdrOf Φ ρ 13)[11]?.getD 0 = (ρ 11).int := hdr_at 13 11 (by decide)
  have a12 : (hdrOf Φ ρ 13)[12]?.getD 0 = (ρ 12).int := hdr_at 13 12 (by decide)
  have b0 := hk 0 .u8 rfl
  have b1 := hk 1 .u8 rfl
  have b2 := hk 2 .u8 rfl
  have b3 := hk 3 .u8 rfl
  have b4 := hk 4 .u8 rfl
  have b5 := hk 5 .u8 rfl
  have b6 := hk 6 .u8 rfl
  have b7 := hk 7 .u8 rfl
  have b8 := hk 8 .u8 rfl
  have b9 := hk 9 .u8 rfl
  have b10 := hk 10 .u8 rfl
  have b11 := hk 11 .u8 rfl
  have b12 := hk 12 .u16 rfl
  simp only [kmin, kmax, Nat.zero_add] at b0 b1 b2 b3 b4 b5 b6 b7 b8 b9 b10 b11 b12
  have m1 : ∀ x : Int, x - x / 256 * 256 = x % 256 := fun x => by omega
  refine ⟨fun c1 => ?_, fun c1 => ?_⟩
  · simp [hΦ.sum, hΦ.ocs, wrap_ocs, m1] at c1
    have hz : wrFail 1 (hdrOf Φ ρ 13) (ρ 13).list = 5 := by
      simp only [wrFail, g, a0, a1, a2, a3, a4, a5, a6, a7, a8, a9, a10, a11, a12]
      repeat' split
      all_goals first | rfl | omega
    exact leaf_wr_err hr hz (by decide) (by decide)
  · simp [hΦ.sum, hΦ.ocs, wrap_ocs, m1] at c1
    have hz : wrFail 1 (hdrOf Φ ρ 13) (ρ 13).list = 0 := by
      simp only [wrFail, g, a0, a1, a2, a3, a4, a5, a6, a7, a8, a9, a10, a11, a12]
      repeat' split
      all_goals first | rfl | omega
    refine leaf_wr_ok hr hz ?_ rfl (by decide)
    simp only [list_cons, list_nil, int_add, int_sub, int_mul, int_fdiv, int_len, den_var, den_num, D.int_i, fdiv_lit, m1, int_wr, den_fn, hΦ.sum, hΦ.ocs, wrap_ocs, wrGood, wrBase, putF, fld, fld1, List.set_cons_succ, List.set_cons_zero, List.cons_append, List.nil_append, g, a0, a1, a2, a3, a4, a5, a6, a7, a8, a9, a10, a11, a12]
    all_goals try simp only [List.cons.injEq, and_true, true_and]
    all_goals repeat' apply And.intro
    all_goals first | rfl | omega
end Go.Proofs.Ytbiodlomlendkaa.Sx
/- Sx: what Go function 74 does, as a tree of conditions (printed by a tool of this claim, proved by the kernel). Conditions: none. -/
set_option maxRecDepth 100000
namespace Go.Proofs.Ytbiodlomlendkaa.Sx
open Go
def treeWdTag : M (V × St) :=
(.split (.c2 .lt (.num 7) (.var 0))
 (.ret (.t [.c (.sn), .c (.i .i64 (.num 60))], ⟨[], [], 3, 4, []⟩))
 (.split (.c2 .lt (.num 4095) (.var 1))
  (.ret (.t [.c (.sn), .c (.i .i64 (.num 60))], ⟨[], [], 3, 4, []⟩))
  (.split (.c2 .lt (.num 2044) (.c1 .len (.var 3)))
   (.ret (.t [.c (.sn), .c (.i .i64 (.num 5))], ⟨[], [], 3, 4, []⟩))
   (.ret (.t [.c (.s 3 1 0 (.num 0) (.num 4)), .c (.i .i64 (.num 0))], ⟨[], [(3, some ⟨true, .row [.u8] (.cons (.c2 .fdiv (.c2 .add (.c2 .mul (.var 0) (.num 8192)) (.var 1)) (.num 256)) (.cons (.c2 .sub (.c2 .add (.c2 .mul (.var 0) (.num 8192)) (.var 1)) (.c2 .mul (.c2 .fdiv (.c2 .add (.c2 .mul (.var 0) (.num 8192)) (.var 1)) (.num 256)) (.num 256))) (.cons (.c2 .fdiv (.var 2) (.num 256)) (.cons (.c2 .sub (.var 2) (.c2 .mul (.c2 .fdiv (.var 2) (.num 256)) (.num 256))) .nil))))⟩)], 4, 4, []⟩)))))
theorem treeWdTag_is : funTree (ctxN Go.Proofs.Try.prog annsHd consSum 8) annsHd 74 (tBytes 2 3 60 4 kTag).vs (tBytes 2 3 60 4 kTag).bs (tBytes 2 3 60 4 kTag).n (preF (tBytes 2 3 60 4 kTag).res) = treeWdTag := by kernel_rfl
end Go.Proofs.Ytbiodlomlendkaa.Sx
/- Sx laws of headers: the writers of layer Tag. Conditions: none. -/
set_option linter.unusedVariables false
set_option linter.unusedSimpArgs false
namespace Go.Proofs.Ytbiodlomlendkaa.Sx
open Go
set_option maxRecDepth 100000 in
theorem wdTag_ok {Φ : Sig} (hΦ : HdSig Φ) : TmplOk Go.Proofs.Try.prog Φ 74 (tBytes 2 3 60 4 kTag) := by
  refine tmpl_of (consSum_ok hΦ.toSumSig) treeWdTag_is (fun ρ res hres => ⟨eqJ, ?_⟩)
  obtain ⟨hk, hres⟩ := inKs_some hres
  obtain ⟨h0, hres⟩ := short_some hres
  obtain ⟨hb, hres⟩ := bytes_some hres
  have hr := wr_res (n := 3) hΦ ⟨by decide, by decide⟩ hres
  have h0' : (ρ 3).list.length ≤ 140737488351232 := h0
  have hb' : Bytes (ρ 3).list := hb
  have a0 : (hdrOf Φ ρ 3)[0]?.getD 0 = (ρ 0).int := hdr_at 3 0 (by decide)
  have a1 : (hdrOf Φ ρ 3)[1]?.getD 0 = (ρ 1).int := hdr_at 3 1 (by decide)
  have a2 : (hdrOf Φ ρ 3)[2]?.getD 0 = (ρ 2).int := hdr_at 3 2 (by decide)
  have b0 := hk 0 .u8 rfl
  have b1 := hk 1 .u16 rfl
  have b2 := hk 2 .u16 rfl
  simp only [kmin, kmax, Nat.zero_add] at b0 b1 b2
  have m1 : ∀ x : Int, x - x / 256 * 256 = x % 256 := fun x => by omega
  refine ⟨fun c1 => ?_, fun c1 => ?_⟩
  · simp [hΦ.sum, hΦ.ocs, wrap_ocs, m1] at c1
    have hz : wrFail 2 (hdrOf Φ ρ 3) (ρ 3).list = 60 := by
      simp only [wrFail, g, a0, a1, a2]
      repeat' split
      all_goals first | rfl | omega
    exact leaf_wr_err hr hz (by decide) (by decide)
  · refine ⟨fun c2 => ?_, fun c2 => ?_⟩
    · simp [hΦ.sum, hΦ.ocs, wrap_ocs, m1] at c1 c2
      have hz : wrFail 2 (hdrOf Φ ρ 3) (ρ 3).list = 60 := by
        simp only [wrFail, g, a0, a1, a2]
        repeat' split
        all_goals first | rfl | omega
      exact leaf_wr_err hr hz (by decide) (by decide)
    · refine ⟨fun c3 => ?_, fun c3 => ?_⟩
      · simp [hΦ.sum, hΦ.ocs, wrap_ocs, m1] at c1 c2 c3
        have hz : wrFail 2 (hdrOf Φ ρ 3) (ρ 3).list = 5 := by
          simp only [wrFail, g, a0, a1, a2]
          repeat' split
          all_goals first | rfl | omega
        exact leaf_wr_err hr hz (by decide) (by decide)
      · simp [hΦ.sum, hΦ.ocs, wrap_ocs, m1] at c1 c2 c3
        have hz : wrFail 2 (hdrOf Φ ρ 3) (ρ 3).list = 0 := by
          simp only [wrFail, g, a0, a1, a2]
          repeat' split
          all_goals first | rfl | omega
        refine leaf_wr_ok hr hz ?_ rfl (by decide)
        simp only [list_cons, list_nil, int_add, int_sub, int_mul, int_fdiv, int_len, den_var, den_num, D.int_i, fdiv_lit, m1, int_wr, den_fn, hΦ.sum, hΦ.ocs, wrap_ocs, wrGood, wrBase, putF, fld, fld1, List.set_cons_succ, List.set_cons_zero, List.cons_append, List.nil_append, g, a0, a1, a2]
        all_goals try simp only [List.cons.injEq, and_true, true_and]
        all_goals repeat' apply And.intro
        all_goals first | rfl | omega
end Go.Proofs.Ytbiodlomlendkaa.Sx
/- Sx: what Go function 75 does, as a tree of conditions (printed by a tool of this claim, proved by the kernel). Conditions: none. -/
set_option maxRecDepth 100000
namespace Go.Proofs.Ytbiodlomlendkaa.Sx
open Go
def treeWdNet4 : M (V × St) :=
(.split (.c2 .lt (.num 2028) (.c1 .len (.var 12)))
 (.ret (.t [.c (.sn), .c (.i .i64 (.num 5))], ⟨[], [], 3, 13, []⟩))
 (.ret (.t [.c (.s 3 1 0 (.num 0) (.num 20)), .c (.i .i64 (.num 0))], ⟨[], [(3, some ⟨true, .row [.u8] (.cons (.num 69) (.cons (.var 0) (.cons (.c2 .fdiv (.c2 .add (.num 20) (.c1 .len (.var 12))) (.num 256)) (.cons (.c2 .sub (.c2 .add (.num 20) (.c1 .len (.var 12))) (.c2 .mul (.c2 .fdiv (.c2 .add (.num 20) (.c1 .len (.var 12))) (.num 256)) (.num 256))) (.cons (.c2 .fdiv (.var 3) (.num 256)) (.cons (.c2 .sub (.var 3) (.c2 .mul (.c2 .fdiv (.var 3) (.num 256)) (.num 256))) (.cons (.num 0) (.cons (.num 0) (.cons (.var 1) (.cons (.var 2) (.cons (.c2 .fdiv (.c2 .sub (.num 65535) (.wr .u16 (.fn 2 (.c2 .add (.wr .u16 (.fn 1 (.cons (.num 69) (.cons (.var 0) (.cons (.c2 .fdiv (.c2 .add (.num 20) (.c1 .len (.var 12))) (.num 256)) (.cons (.c2 .sub (.c2 .add (.num 20) (.c1 .len (.var 12))) (.c2 .mul (.c2 .fdiv (.c2 .add (.num 20) (.c1 .len (.var 12))) (.num 256)) (.num 256))) (.cons (.c2 .fdiv (.var 3) (.num 256)) (.cons (.c2 .sub (.var 3) (.c2 .mul (.c2 .fdiv (.var 3) (.num 256)) (.num 256))) (.cons (.num 0) (.cons (.num 0) (.cons (.var 1) (.cons (.var 2) (.cons (.num 0) (.cons (.num 0) (.cons (.var 4) (.cons (.var 5) (.cons (.var 6) (.cons (.var 7) (.cons (.var 8) (.cons (.var 9) (.cons (.var 10) (.cons (.var 11) .nil)))))))))))))))))))) .nil .nil)) (.wr .u16 (.fn 1 .nil .nil .nil))) .nil .nil))) (.num 256)) (.cons (.c2 .sub (.c2 .sub (.num 65535) (.wr .u16 (.fn 2 (.c2 .add (.wr .u16 (.fn 1 (.cons (.num 69) (.cons (.var 0) (.cons (.c2 .fdiv (.c2 .add (.num 20) (.c1 .len (.var 12))) (.num 256)) (.cons (.c2 .sub (.c2 .add (.num 20) (.c1 .len (.var 12))) (.c2 .mul (.c2 .fdiv (.c2 .add (.num 20) (.c1 .len (.var 12))) (.num 256)) (.num 256))) (.cons (.c2 .fdiv (.var 3) (.num 256)) (.cons (.c2 .sub (.var 3) (.c2 .mul (.c2 .fdiv (.var 3) (.num 256)) (.num 256))) (.cons (.num 0) (.cons (.num 0) (.cons (.var 1) (.cons (.var 2) (.cons (.num 0) (.cons (.num 0) (.cons (.var 4) (.cons (.var 5) (.cons (.var 6) (.cons (.var 7) (.cons (.var 8) (.cons (.var 9) (.cons (.var 10) (.cons (.var 11) .nil)))))))))))))))))))) .nil .nil)) (.wr .u16 (.fn 1 .nil .nil .nil))) .nil .nil))) (.c2 .mul (.c2 .fdiv (.c2 .sub (.num 65535) (.wr .u16 (.fn 2 (.c2 .add (.wr .u16 (.fn 1 (.cons (.num 69) (.cons (.var 0) (.cons (.c2 .fdiv (.c2 .add (.num 20) (.c1 .len (.var 12))) (.num 256)) (.cons (.c2 .sub (.c2 .add (.num 20) (.c1 .len (.var 12))) (.c2 .mul (.c2 .fdiv (.c2 .add (.num 20) (.c1 .len (.var 12))) (.num 256)) (.num 256))) (.cons (.c2 .fdiv (.var 3) (.num 256)) (.cons (.c2 .sub (.var 3) (.c2 .mul (.c2 .fdiv (.var 3) (.num 256)) (.num 256))) (.cons (.num 0) (.cons (.num 0) (.cons (.var 1) (.cons (.var 2) (.cons (.num 0) (.cons (.num 0) (.cons (.var 4) (.cons (.var 5) (.cons (.var 6) (.cons (.var 7) (.cons (.var 8) (.cons (.var 9) (.cons (.var 10) (.cons (.var 11) .nil)))))))))))))))))))) .nil .nil)) (.wr .u16 (.fn 1 .nil .nil .nil))) .nil .nil))) (.num 256)) (.num 256))) (.cons (.var 4) (.cons (.var 5) (.cons (.var 6) (.cons (.var 7) (.cons (.var 8) (.cons (.var 9) (.cons (.var 10) (.cons (.var 11) .nil))))))))))))))))))))⟩)], 5, 13, []⟩)))
theorem treeWdNet4_is : funTree (ctxN Go.Proofs.Try.prog annsHd consSum 8) annsHd 75 (tBytes 3 3 60 20 kNet4).vs (tBytes 3 3 60 20 kNet4).bs (tBytes 3 3 60 20 kNet4).n (preF (tBytes 3 3 60 20 kNet4).res) = treeWdNet4 := by kernel_rfl
end Go.Proofs.Ytbiodlomlendkaa.Sx
/- Sx laws of headers: the writers of layer Net4. Conditions: none. -/
set_option linter.unusedVariables false
set_option linter.unusedSimpArgs false
namespace Go.Proofs.Ytbiodlomlendkaa.Sx
open Go
set_option maxRecDepth 100000 in
theorem wdNet4_ok {Φ : Sig} (hΦ : HdSig Φ) : TmplOk Go.Proofs.Try.prog Φ 75 (tBytes 3 3 60 20 kNet4) := by
  refine tmpl_of (consSum_ok hΦ.toSumSig) treeWdNet4_is (fun ρ res hres => ⟨eqJ, ?_⟩)
  obtain ⟨hk, hres⟩ := inKs_some hres
  obtain ⟨h0, hres⟩ := short_some hres
  obtain ⟨hb, hres⟩ := bytes_some hres
  have hr := wr_res (n := 12) hΦ ⟨by decide, by decide⟩ hres
  have h0' : (ρ 12).list.length ≤ 140737488351232 := h0
  have hb' : Bytes (ρ 12).list := hb
  have a0 : (hdrOf Φ ρ 12)[0]?.getD 0 = (ρ 0).int := hdr_at 12 0 (by decide)
  have a1 : (hdrOf Φ ρ 12)[1]?.getD 0 = (ρ 1).int := hdr_at 12 1 (by decide)
  have a2 : (hdrOf Φ ρ 12)[2]?.getD 0 = (ρ 2).int := hdr_at 12 2 (by decide)
  have a3 : (hdrOf Φ ρ 12)[3]?.getD 0 = (ρ 3).int := hdr_at 12 3 (by decide)
  have a4 : (hdrOf Φ ρ 12)[4]?.getD 0 = (ρ 4).int := hdr_at 12 4 (by decide)
  have a5 : (hdrOf Φ ρ 12)[5]?.getD 0 = (ρ 5).int := hdr_at 12 5 (by decide)
  have a6 : (hdrOf Φ ρ 12)[6]?.getD 0 = (ρ 6).int := hdr_at 12 6 (by decide)
  have a7 : (hdrOf Φ ρ 12)[7]?.getD 0 = (ρ 7).int := hdr_at 12 7 (by decide)
  have a8 : (hdrOf Φ ρ 12)[8]?.getD 0 = (ρ 8).int := hdr_at 12 8 (by decide)
  have a9 : (hdrOf Φ ρ 12)[9]?.getD 0 = (ρ 9).int := hdr_at 12 9 (by decide)
  have a10 : (hdrOf Φ ρ 12)[10]?.getD 0 = (ρ 10).int := hdr_at 12 10 (by decide)
  have a11 : (hdrOf Φ ρ 12)[11]?.getD 0 = (ρ 11).int := hdr_at 12 11 (by decide)
  have b0 := hk 0 .u8 rfl
  have b1 := hk 1 .u8 rfl
  have b2 := hk 2 .u8 rfl
  have b3 := hk 3 .u16 rfl
  have b4 := hk 4 .u8 rfl
  have b5 := hk 5 .u8 rfl
  have b6 := hk 6 .u8 rfl
  have b7 := hk 7 .u8 rfl
  have b8 := hk 8 .u8 rfl
  have b9 := hk 9 .u8 rfl
  have b10 := hk 10 .u8 rfl
  have b11 := hk 11 .u8 rfl
  simp only [kmin, kmax, Nat.zero_add] at b0 b1 b2 b3 b4 b5 b6 b7 b8 b9 b10 b11
  have m1 : ∀ x : Int, x - x / 256 * 256 = x % 256 := fun x => by omega
  have hB : 0 ≤ wsum (wrBase 3 (hdrOf Φ ρ 12) (ρ 12).list) := by simp only [wrBase, wsum, g, a0, a1, a2, a3, a4, a5, a6, a7, a8, a9, a10, a11]; omega
  have hS : ocs (ocs (wsum (wrBase 3 (hdrOf Φ ρ 12) (ρ 12).list)) + ocs (wsum [])) = ocs (wsum (wrBase 3 (hdrOf Φ ρ 12) (ρ 12).list ++ [])) := by rw [ocs_two hB (by simp [wsum]), wsum_app _ _ (by simp [wrBase])]
  simp only [wrBase, g, a0, a1, a2, a3, a4, a5, a6, a7, a8, a9, a10, a11, List.cons_append, List.nil_append] at hS
  have hR := ocs_range (wsum (wrBase 3 (hdrOf Φ ρ 12) (ρ 12).list ++ []))
  simp only [wrBase, g, a0, a1, a2, a3, a4, a5, a6, a7, a8, a9, a10, a11, List.cons_append, List.nil_append] at hR
  refine ⟨fun c1 => ?_, fun c1 => ?_⟩
  · simp [hΦ.sum, hΦ.ocs, wrap_ocs, m1] at c1
    have hz : wrFail 3 (hdrOf Φ ρ 12) (ρ 12).list = 5 := by
      simp only [wrFail, g, a0, a1, a2, a3, a4, a5, a6, a7, a8, a9, a10, a11]
      repeat' split
      all_goals first | rfl | omega
    exact leaf_wr_err hr hz (by decide) (by decide)
  · simp [hΦ.sum, hΦ.ocs, wrap_ocs, m1] at c1
    have hz : wrFail 3 (hdrOf Φ ρ 12) (ρ 12).list = 0 := by
      simp only [wrFail, g, a0, a1, a2, a3, a4, a5, a6, a7, a8, a9, a10, a11]
      repeat' split
      all_goals first | rfl | omega
    refine leaf_wr_ok hr hz ?_ rfl (by decide)
    simp only [list_cons, list_nil, int_add, int_sub, int_mul, int_fdiv, int_len, den_var, den_num, D.int_i, fdiv_lit, m1, int_wr, den_fn, hΦ.sum, hΦ.ocs, wrap_ocs, hS, wrGood, wrBase, putF, fld, fld1, List.set_cons_succ, List.set_cons_zero, List.cons_append, List.nil_append, g, a0, a1, a2, a3, a4, a5, a6, a7, a8, a9, a10, a11]
    all_goals try simp only [List.cons.injEq, and_true, true_and]
    all_goals repeat' apply And.intro
    all_goals first | rfl | omega
end Go.Proofs.Ytbiodlomlendkaa.Sx
/- Sx: what Go function 76 does, as a tree of conditions (printed by a tool of this claim, proved by the kernel). Conditions: none. -/
set_option maxRecDepth 100000
namespace Go.Proofs.Ytbiodlomlendkaa.Sx
open Go
def treeWdNet6 : M (V × St) :=
(.split (.c2 .le (.num 1048576) (.var 1))
 (.ret (.t [.c (.sn), .c (.i .i64 (.num 80))], ⟨[], [], 3, 37, []⟩))
 (.split (.c2 .lt (.num 2008) (.c1 .len (.var 36)))
  (.ret (.t [.c (.sn), .c (.i .i64 (.num 5))], ⟨[], [], 3, 37, []⟩))
  (.ret (.t [.c (.s 3 1 0 (.num 0) (.num 40)), .c (.i .i64 (.num 0))], ⟨[], [(3, some ⟨true, .row [.u8] (.cons (.c2 .fdiv (.c2 .add (.c2 .add (.num 24576) (.c2 .mul (.var 0) (.num 16))) (.c2 .fdiv (.var 1) (.num 65536))) (.num 256)) (.cons (.c2 .sub (.c2 .add (.c2 .add (.num 24576) (.c2 .mul (.var 0) (.num 16))) (.c2 .fdiv (.var 1) (.num 65536))) (.c2 .mul (.c2 .fdiv (.c2 .add (.c2 .add (.num 24576) (.c2 .mul (.var 0) (.num 16))) (.c2 .fdiv (.var 1) (.num 65536))) (.num 256)) (.num 256))) (.cons (.c2 .fdiv (.c2 .sub (.var 1) (.c2 .mul (.c2 .fdiv (.var 1) (.num 65536)) (.num 65536))) (.num 256)) (.cons (.c2 .sub (.c2 .sub (.var 1) (.c2 .mul (.c2 .fdiv (.var 1) (.num 65536)) (.num 65536))) (.c2 .mul (.c2 .fdiv (.c2 .sub (.var 1) (.c2 .mul (.c2 .fdiv (.var 1) (.num 65536)) (.num 65536))) (.num 256)) (.num 256))) (.cons (.c2 .fdiv (.c1 .len (.var 36)) (.num 256)) (.cons (.c2 .sub (.c1 .len (.var 36)) (.c2 .mul (.c2 .fdiv (.c1 .len (.var 36)) (.num 256)) (.num 256))) (.cons (.var 2) (.cons (.var 3) (.cons (.var 4) (.cons (.var 5) (.cons (.var 6) (.cons (.var 7) (.cons (.var 8) (.cons (.var 9) (.cons (.var 10) (.cons (.var 11) (.cons (.var 12) (.cons (.var 13) (.cons (.var 14) (.cons (.var 15) (.cons (.var 16) (.cons (.var 17) (.cons (.var 18) (.cons (.var 19) (.cons (.var 20) (.cons (.var 21) (.cons (.var 22) (.cons (.var 23) (.cons (.var 24) (.cons (.var 25) (.cons (.var 26) (.cons (.var 27) (.cons (.var 28) (.cons (.var 29) (.cons (.var 30) (.cons (.var 31) (.cons (.var 32) (.cons (.var 33) (.cons (.var 34) (.cons (.var 35) .nil))))))))))))))))))))))))))))))))))))))))⟩)], 4, 37, []⟩))))
theorem treeWdNet6_is : funTree (ctxN Go.Proofs.Try.prog annsHd consSum 8) annsHd 76 (tBytes 4 3 60 40 kNet6).vs (tBytes 4 3 60 40 kNet6).bs (tBytes 4 3 60 40 kNet6).n (preF (tBytes 4 3 60 40 kNet6).res) = treeWdNet6 := by kernel_rfl
end Go.Proofs.Ytbiodlomlendkaa.Sx
/- Sx laws of headers: the writers of layer Net6. Conditions: none. -/
set_option linter.unusedVariables false
set_option linter.unusedSimpArgs false
namespace Go.Proofs.Ytbiodlomlendkaa.Sx
open Go
set_option maxRecDepth 100000 in
theorem wdNet6_ok {Φ : Sig} (hΦ : HdSig Φ) : TmplOk Go.Proofs.Try.prog Φ 76 (tBytes 4 3 60 40 kNet6) := by
  refine tmpl_of (consSum_ok hΦ.toSumSig) treeWdNet6_is (fun ρ res hres => ⟨eqJ, ?_⟩)
  obtain ⟨hk, hres⟩ := inKs_some hres
  obtain ⟨h0, hres⟩ := short_some hres
  obtain ⟨hb, hres⟩ := bytes_some hres
  have hr := wr_res (n := 36) hΦ ⟨by decide, by decide⟩ hres
  have h0' : (ρ 36).list.length ≤ 140737488351232 := h0
  have hb' : Bytes (ρ 36).list := hb
  have a0 : (hdrOf Φ ρ 36)[0]?.getD 0 = (ρ 0).int := hdr_at 36 0 (by decide)
  have a1 : (hdrOf Φ ρ 36)[1]?.getD 0 = (ρ 1).int := hdr_at 36 1 (by decide)
  have a2 : (hdrOf Φ ρ 36)[2]?.getD 0 = (ρ 2).int := hdr_at 36 2 (by decide)
  have a3 : (hdrOf Φ ρ 36)[3]?.getD 0 = (ρ 3).int := hdr_at 36 3 (by decide)
  have a4 : (hdrOf Φ ρ 36)[4]?.getD 0 = (ρ 4).int := hdr_at 36 4 (by decide)
  have a5 : (hdrOf Φ ρ 36)[5]?.getD 0 = (ρ 5).int := hdr_at 36 5 (by decide)
  have a6 : (hdrOf Φ ρ 36)[6]?.getD 0 = (ρ 6).int := hdr_at 36 6 (by decide)
  have a7 : (hdrOf Φ ρ 36)[7]?.getD 0 = (ρ 7).int := hdr_at 36 7 (by decide)
  have a8 : (hdrOf Φ ρ 36)[8]?.getD 0 = (ρ 8).int := hdr_at 36 8 (by decide)
  have a9 : (hdrOf Φ ρ 36)[9]?.getD 0 = (ρ 9).int := hdr_at 36 9 (by decide)
  have a10 : (hdrOf Φ ρ 36)[10]?.getD 0 = (ρ 10).int := hdr_at 36 10 (by decide)
  have a11 : (hdrOf Φ ρ 36)[11]?.getD 0 = (ρ 11).int := hdr_at 36 11 (by decide)
  have a12 : (hdrOf Φ ρ 36)[12]?.getD 0 = (ρ 12).int := hdr_at 36 12 (by decide)
  have a13 : (hdrOf Φ ρ 36)[13]?.getD 0 = (ρ 13).int := hdr_at 36 13 (by decide)
  have a14 : (hdrOf Φ ρ 36)[14]?.getD 0 = (ρ 14).int := hdr_at 36 14 (by decide)
  have a15 : (hdrOf Φ ρ 36)[15]?.getD 0 = (ρ 15).int := hdr_at 36 15 (by decide)
  have a16 : (hdrOf Φ ρ 36)[16]?.getD 0 = (ρ 16).int := hdr_at 36 16 (by decide)
  have a17 : (hdrOf Φ ρ 36)[17]?.getD 0 = (ρ 17).int := hdr_at 36 17 (by decide)
  have a18 : (hdrOf Φ ρ 36)[18]?.getD 0 = (ρ 18).int := hdr_at 36 18 (by decide)
  have a19 : (hdrOf Φ ρ 36)[19]?.getD 0 = (ρ 19).int := hdr_at 36 19 (by decide)
  have a20 : (hdrOf Φ ρ 36)[20]?.getD 0 = (ρ 20).int := hdr_at 36 20 (by decide)
  have a21 : (hdrOf Φ ρ 36)[21]?.getD 0 = (ρ 21).int := hdr_at 36 21 (by decide)
  have a22 : (hdrOf Φ ρ 36)[22]?.getD 0 = (ρ 22).int := hdr_at 36 22 (by decide)
  have a23 : (hdrOf Φ ρ 36)[23]?.getD 0 = (ρ 23).int := hdr_at 36 23 (by decide)
  have a24 : (hdrOf Φ ρ 36)[24]?.getD 0 = (ρ 24).int := hdr_at 36 24 (by decide)
  have a25 : (hdrOf Φ ρ 36)[25]?.getD 0 = (ρ 25).int := hdr_at 36 25 (by decide)
  have a26 : (hdrOf Φ ρ 36)[26]?.getD 0 = (ρ 26).int := hdr_at 36 26 (by decide)
  have a27 : (hdrOf Φ ρ 36)[27]?.getD 0 = (ρ 27).int := hdr_at 36 27 (by decide)
  have a28 : (hdrOf Φ ρ 36)[28]?.getD 0 = (ρ 28).int := hdr_at 36 28 (by decide)
  have a29 : (hdrOf Φ ρ 36)[29]?.getD 0 = (ρ 29).int := hdr_at 36 29 (by decide)
  have a30 : (hdrOf Φ ρ 36)[30]?.getD 0 = (ρ 30).int := hdr_at 36 30 (by decide)
  have a31 : (hdrOf Φ ρ 36)[31]?.getD 0 = (ρ 31).int := hdr_at 36 31 (by decide)
  have a32 : (hdrOf Φ ρ 36)[32]?.getD 0 = (ρ 32).int := hdr_at 36 32 (by decide)
  have a33 : (hdrOf Φ ρ 36)[33]?.getD 0 = (ρ 33).int := hdr_at 36 33 (by decide)
  have a34 : (hdrOf Φ ρ 36)[34]?.getD 0 = (ρ 34).int := hdr_at 36 34 (by decide)
  have a35 : (hdrOf Φ ρ 36)[35]?.getD 0 = (ρ 35).int := hdr_at 36 35 (by decide)
  have b0 := hk 0 .u8 rfl
  have b1 := hk 1 .u32 rfl
  simp only [kmin, kmax, Nat.zero_add] at b0 b1
  have m1 : ∀ x : Int, x - x / 256 * 256 = x % 256 := fun x => by omega
  refine ⟨fun c1 => ?_, fun c1 => ?_⟩
  · simp [hΦ.sum, hΦ.ocs, wrap_ocs, m1] at c1
    have hz : wrFail 4 (hdrOf Φ ρ 36) (ρ 36).list = 80 := by
      simp only [wrFail, g, a0, a1, a2, a3, a4, a5, a6, a7, a8, a9, a10, a11, a12, a13, a14, a15, a16, a17, a18, a19, a20, a21, a22, a23, a24, a25, a26, a27, a28, a29, a30, a31, a32, a33, a34, a35]
      repeat' split
      all_goals first | rfl | omega
    exact leaf_wr_err hr hz (by decide) (by decide)
  · refine ⟨fun c2 => ?_, fun c2 => ?_⟩
    · simp [hΦ.sum, hΦ.ocs, wrap_ocs, m1] at c1 c2
      have hz : wrFail 4 (hdrOf Φ ρ 36) (ρ 36).list = 5 := by
        simp only [wrFail, g, a0, a1, a2, a3, a4, a5, a6, a7, a8, a9, a10, a11, a12, a13, a14, a15, a16, a17, a18, a19, a20, a21, a22, a23, a24, a25, a26, a27, a28, a29, a30, a31, a32, a33, a34, a35]
        repeat' split
        all_goals first | rfl | omega
      exact leaf_wr_err hr hz (by decide) (by decide)
    · simp [hΦ.sum, hΦ.ocs, wrap_ocs, m1] at c1 c2
      have hz : wrFail 4 (hdrOf Φ ρ 36) (ρ 36).list = 0 := by
        simp only [wrFail, g, a0, a1, a2, a3, a4, a5, a6, a7, a8, a9, a10, a11, a12, a13, a14, a15, a16, a17, a18, a19, a20, a21, a22, a23, a24, a25, a26, a27, a28, a29, a30, a31, a32, a33, a34, a35]
        repeat' split
        all_goals first | rfl | omega
      refine leaf_wr_ok hr hz ?_ rfl (by decide)
      simp only [list_cons, list_nil, int_add, int_sub, int_mul, int_fdiv, int_len, den_var, den_num, D.int_i, fdiv_lit, m1, int_wr, den_fn, hΦ.sum, hΦ.ocs, wrap_ocs, wrGood, wrBase, putF, fld, fld1, List.set_cons_succ, List.set_cons_zero, List.cons_append, List.nil_append, g, a0, a1, a2, a3, a4, a5, a6, a7, a8, a9, a10, a11, a12, a13, a14, a15, a16, a17, a18, a19, a20, a21, a22, a23, a24, a25, a26, a27, a28, a29, a30, a31, a32, a33, a34, a35]
      all_goals try simp only [List.cons.injEq, and_true, true_and]
      all_goals repeat' apply And.intro
      all_goals first | rfl | omega
end Go.Proofs.Ytbiodlomlendkaa.Sx
/- Sx: what Go function 77 does, as a tree of conditions (printed by a tool of this claim, proved by the kernel). Conditions: none. -/
set_option maxRecDepth 100000
namespace Go.Proofs.Ytbiodlomlendkaa.Sx
open Go
def treeWdSeg : M (V × St) :=
(.split (.c2 .le (.num 64) (.var 4))
 (.ret (.t [.c (.sn), .c (.i .i64 (.num 90))], ⟨[], [], 3, 7, []⟩))
 (.split (.c2 .lt (.num 2028) (.c1 .len (.var 6)))
  (.ret (.t [.c (.sn), .c (.i .i64 (.num 5))], ⟨[], [], 3, 7, []⟩))
  (.ret (.t [.c (.s 3 1 0 (.num 0) (.num 20)), .c (.i .i64 (.num 0))], ⟨[], [(3, some ⟨true, .row [.u8] (.cons (.c2 .fdiv (.var 0) (.num 256)) (.cons (.c2 .sub (.var 0) (.c2 .mul (.c2 .fdiv (.var 0) (.num 256)) (.num 256))) (.cons (.c2 .fdiv (.var 1) (.num 256)) (.cons (.c2 .sub (.var 1) (.c2 .mul (.c2 .fdiv (.var 1) (.num 256)) (.num 256))) (.cons (.c2 .fdiv (.c2 .fdiv (.var 2) (.num 65536)) (.num 256)) (.cons (.c2 .sub (.c2 .fdiv (.var 2) (.num 65536)) (.c2 .mul (.c2 .fdiv (.c2 .fdiv (.var 2) (.num 65536)) (.num 256)) (.num 256))) (.cons (.c2 .fdiv (.c2 .sub (.var 2) (.c2 .mul (.c2 .fdiv (.var 2) (.num 65536)) (.num 65536))) (.num 256)) (.cons (.c2 .sub (.c2 .sub (.var 2) (.c2 .mul (.c2 .fdiv (.var 2) (.num 65536)) (.num 65536))) (.c2 .mul (.c2 .fdiv (.c2 .sub (.var 2) (.c2 .mul (.c2 .fdiv (.var 2) (.num 65536)) (.num 65536))) (.num 256)) (.num 256))) (.cons (.c2 .fdiv (.c2 .fdiv (.var 3) (.num 65536)) (.num 256)) (.cons (.c2 .sub (.c2 .fdiv (.var 3) (.num 65536)) (.c2 .mul (.c2 .fdiv (.c2 .fdiv (.var 3) (.num 65536)) (.num 256)) (.num 256))) (.cons (.c2 .fdiv (.c2 .sub (.var 3) (.c2 .mul (.c2 .fdiv (.var 3) (.num 65536)) (.num 65536))) (.num 256)) (.cons (.c2 .sub (.c2 .sub (.var 3) (.c2 .mul (.c2 .fdiv (.var 3) (.num 65536)) (.num 65536))) (.c2 .mul (.c2 .fdiv (.c2 .sub (.var 3) (.c2 .mul (.c2 .fdiv (.var 3) (.num 65536)) (.num 65536))) (.num 256)) (.num 256))) (.cons (.c2 .fdiv (.c2 .add (.num 20480) (.var 4)) (.num 256)) (.cons (.c2 .sub (.c2 .add (.num 20480) (.var 4)) (.c2 .mul (.c2 .fdiv (.c2 .add (.num 20480) (.var 4)) (.num 256)) (.num 256))) (.cons (.c2 .fdiv (.var 5) (.num 256)) (.cons (.c2 .sub (.var 5) (.c2 .mul (.c2 .fdiv (.var 5) (.num 256)) (.num 256))) (.cons (.c2 .fdiv (.c2 .sub (.num 65535) (.wr .u16 (.fn 2 (.c2 .add (.wr .u16 (.fn 1 (.cons (.c2 .fdiv (.var 0) (.num 256)) (.cons (.c2 .sub (.var 0) (.c2 .mul (.c2 .fdiv (.var 0) (.num 256)) (.num 256))) (.cons (.c2 .fdiv (.var 1) (.num 256)) (.cons (.c2 .sub (.var 1) (.c2 .mul (.c2 .fdiv (.var 1) (.num 256)) (.num 256))) (.cons (.c2 .fdiv (.c2 .fdiv (.var 2) (.num 65536)) (.num 256)) (.cons (.c2 .sub (.c2 .fdiv (.var 2) (.num 65536)) (.c2 .mul (.c2 .fdiv (.c2 .fdiv (.var 2) (.num 65536)) (.num 256)) (.num 256))) (.cons (.c2 .fdiv (.c2 .sub (.var 2) (.c2 .mul (.c2 .fdiv (.var 2) (.num 65536)) (.num 65536))) (.num 256)) (.cons (.c2 .sub (.c2 .sub (.var 2) (.c2 .mul (.c2 .fdiv (.var 2) (.num 65536)) (.num 65536))) (.c2 .mul (.c2 .fdiv (.c2 .sub (.var 2) (.c2 .mul (.c2 .fdiv (.var 2) (.num 65536)) (.num 65536))) (.num 256)) (.num 256))) (.cons (.c2 .fdiv (.c2 .fdiv (.var 3) (.num 65536)) (.num 256)) (.cons (.c2 .sub (.c2 .fdiv (.var 3) (.num 65536)) (.c2 .mul (.c2 .fdiv (.c2 .fdiv (.var 3) (.num 65536)) (.num 256)) (.num 256))) (.cons (.c2 .fdiv (.c2 .sub (.var 3) (.c2 .mul (.c2 .fdiv (.var 3) (.num 65536)) (.num 65536))) (.num 256)) (.cons (.c2 .sub (.c2 .sub (.var 3) (.c2 .mul (.c2 .fdiv (.var 3) (.num 65536)) (.num 65536))) (.c2 .mul (.c2 .fdiv (.c2 .sub (.var 3) (.c2 .mul (.c2 .fdiv (.var 3) (.num 65536)) (.num 65536))) (.num 256)) (.num 256))) (.cons (.c2 .fdiv (.c2 .add (.num 20480) (.var 4)) (.num 256)) (.cons (.c2 .sub (.c2 .add (.num 20480) (.var 4)) (.c2 .mul (.c2 .fdiv (.c2 .add (.num 20480) (.var 4)) (.num 256)) (.num 256))) (.cons (.c2 .fdiv (.var 5) (.num 256)) (.cons (.c2 .sub (.var 5) (.c2 .mul (.c2 .fdiv (.var 5) (.num 256)) (.num 256))) (.cons (.num 0) (.cons (.num 0) (.cons (.num 0) (.cons (.num 0) .nil)))))))))))))))))))) .nil .nil)) (.wr .u16 (.fn 1 (.var 6) .nil .nil))) .nil .nil))) (.num 256)) (.cons (.c2 .sub (.c2 .sub (.num 65535) (.wr .u16 (.fn 2 (.c2 .add (.wr .u16 (.fn 1 (.cons (.c2 .fdiv (.var 0) (.num 256)) (.cons (.c2 .sub (.var 0) (.c2 .mul (.c2 .fdiv (.var 0) (.num 256)) (.num 256))) (.cons (.c2 .fdiv (.var 1) (.num 256)) (.cons (.c2 .sub (.var 1) (.c2 .mul (.c2 .fdiv (.var 1) (.num 256)) (.num 256))) (.cons (.c2 .fdiv (.c2 .fdiv (.var 2) (.num 65536)) (.num 256)) (.cons (.c2 .sub (.c2 .fdiv (.var 2) (.num 65536)) (.c2 .mul (.c2 .fdiv (.c2 .fdiv (.var 2) (.num 65536)) (.num 256)) (.num 256))) (.cons (.c2 .fdiv (.c2 .sub (.var 2) (.c2 .mul (.c2 .fdiv (.var 2) (.num 65536)) (.num 65536))) (.num 256)) (.cons (.c2 .sub (.c2 .sub (.var 2) (.c2 .mul (.c2 .fdiv (.var 2) (.num 65536)) (.num 65536))) (.c2 .mul (.c2 .fdiv (.c2 .sub (.var 2) (.c2 .mul (.c2 .fdiv (.var 2) (.num 65536)) (.num 65536))) (.num 256)) (.num 256))) (.cons (.c2 .fdiv (.c2 .fdiv (.var 3) (.num 65536)) (.num 256)) (.cons (.c2 .sub (.c2 .fdiv (.var 3) (.num 65536)) (.c2 .mul (.c2 .fdiv (.c2 .fdiv (.var 3) (.num 65536)) (.num 256)) (.num 256))) (.cons (.c2 .fdiv (.c2 .sub (.var 3) (.c2 .mul (.c2 .fdiv (.var 3) (.num 65536)) (.num 65536))) (.num 256)) (.cons (.c2 .sub (.c2 .sub (.var 3) (.c2 .mul (.c2 .fdiv (.var 3) (.num 65536)) (.num 65536))) (.c2 .mul (.c2 .fdiv (.c2 .sub (.var 3) (.c2 .mul (.c2 .fdiv (.var 3) (.num 65536)) (.num 65536))) (.num 256)) (.num 256))) (.cons (.c2 .fdiv (.c2 .add (.num 20480) (.var 4)) (.num 256)) (.cons (.c2 .sub (.c2 .add (.num 20480) (.var 4)) (.c2 .mul (.c2 .fdiv (.c2 .add (.num 20480) (.var 4)) (.num 256)) (.num 256))) (.cons (.c2 .fdiv (.var 5) (.num 256)) (.cons (.c2 .sub (.var 5) (.c2 .mul (.c2 .fdiv (.var 5) (.num 256)) (.num 256))) (.cons (.num 0) (.cons (.num 0) (.cons (.num 0) (.cons (.num 0) .nil)))))))))))))))))))) .nil .nil)) (.wr .u16 (.fn 1 (.var 6) .nil .nil))) .nil .nil))) (.c2 .mul (.c2 .fdiv (.c2 .sub (.num 65535) (.wr .u16 (.fn 2 (.c2 .add (.wr .u16 (.fn 1 (.cons (.c2 .fdiv (.var 0) (.num 256)) (.cons (.c2 .sub (.var 0) (.c2 .mul (.c2 .fdiv (.var 0) (.num 256)) (.num 256))) (.cons (.c2 .fdiv (.var 1) (.num 256)) (.cons (.c2 .sub (.var 1) (.c2 .mul (.c2 .fdiv (.var 1) (.num 256)) (.num 256))) (.cons (.c2 .fdiv (.c2 .fdiv (.var 2) (.num 65536)) (.num 256)) (.cons (.c2 .sub (.c2 .fdiv (.var 2) (.num 65536)) (.c2 .mul (.c2 .fdiv (.c2 .fdiv (.var 2) (.num 65536)) (.num 256)) (.num 256))) (.cons (.c2 .fdiv (.c2 .sub (.var 2) (.c2 .mul (.c2 .fdiv (.var 2) (.num 65536)) (.num 65536))) (.num 256)) (.cons (.c2 .sub (.c2 .sub (.var 2) (.c2 .mul (.c2 .fdiv (.var 2) (.num 65536)) (.num 65536))) (.c2 .mul (.c2 .fdiv (.c2 .sub (.var 2) (.c2 .mul (.c2 .fdiv (.var 2) (.num 65536)) (.num 65536))) (.num 256)) (.num 256))) (.cons (.c2 .fdiv (.c2 .fdiv (.var 3) (.num 65536)) (.num 256)) (.cons (.c2 .sub (.c2 .fdiv (.var 3) (.num 65536)) (.c2 .mul (.c2 .fdiv (.c2 .fdiv (.var 3) (.num 65536)) (.num 256)) (.num 256))) (.cons (.c2 .fdiv (.c2 .sub (.var 3) (.c2 .mul (.c2 .fdiv (.var 3) (.num 65536)) (.num 65536))) (.num 256)) (.cons (.c2 .sub (.c2 .sub (.var 3) (.c2 .mul (.c2 .fdiv (.var 3) (.num 65536)) (.num 65536))) (.c2 .mul (.c2 .fdiv (.c2 .sub (.var 3) (.c2 .mul (.c2 .fdiv (.var 3) (.num 65536)) (.num 65536))) (.num 256)) (.num 256))) (.cons (.c2 .fdiv (.c2 .add (.num 20480) (.var 4)) (.num 256)) (.cons (.c2 .sub (.c2 .add (.num 20480) (.var 4)) (.c2 .mul (.c2 .fdiv (.c2 .add (.num 20480) (.var 4)) (.num 256)) (.num 256))) (.cons (.c2 .fdiv (.var 5) (.num 256)) (.cons (.c2 .sub (.var 5) (.c2 .mul (.c2 .fdiv (.var 5) (.num 256)) (.num 256))) (.cons (.num 0) (.cons (.num 0) (.cons (.num 0) (.cons (.num 0) .nil)))))))))))))))))))) .nil .nil)) (.wr .u16 (.fn 1 (.var 6) .nil .nil))) .nil .nil))) (.num 256)) (.num 256))) (.cons (.num 0) (.cons (.num 0) .nil))))))))))))))))))))⟩)], 6, 7, []⟩))))
theorem treeWdSeg_is : funTree (ctxN Go.Proofs.Try.prog annsHd consSum 8) annsHd 77 (tBytes 5 3 60 20 kSeg).vs (tBytes 5 3 60 20 kSeg).bs (tBytes 5 3 60 20 kSeg).n (preF (tBytes 5 3 60 20 kSeg).res) = treeWdSeg := by kernel_rfl
end Go.Proofs.Ytbiodlomlendkaa.Sx
/- Sx laws of headers: the writers of layer Seg. Conditions: none. -/
set_option linter.unusedVariables false
set_option linter.unusedSimpArgs false
namespace Go.Proofs.Ytbiodlomlendkaa.Sx
open Go
set_option maxRecDepth 100000 in
theorem wdSeg_ok {Φ : Sig} (hΦ : HdSig Φ) : TmplOk Go.Proofs.Try.prog Φ 77 (tBytes 5 3 60 20 kSeg) := by
  refine tmpl_of (consSum_ok hΦ.toSumSig) treeWdSeg_is (fun ρ res hres => ⟨eqJ, ?_⟩)
  obtain ⟨hk, hres⟩ := inKs_some hres
  obtain ⟨h0, hres⟩ := short_some hres
  obtain ⟨hb, hres⟩ := bytes_some hres
  have hr := wr_res (n := 6) hΦ ⟨by decide, by decide⟩ hres
  have h0' : (ρ 6).list.length ≤ 140737488351232 := h0
  have hb' : Bytes (ρ 6).list := hb
  have a0 : (hdrOf Φ ρ 6)[0]?.getD 0 = (ρ 0).int := hdr_at 6 0 (by decide)
  have a1 : (hdrOf Φ ρ 6)[1]?.getD 0 = (ρ 1).int := hdr_at 6 1 (by decide)
  have a2 : (hdrOf Φ ρ 6)[2]?.getD 0 = (ρ 2).int := hdr_at 6 2 (by decide)
  have a3 : (hdrOf Φ ρ 6)[3]?.getD 0 = (ρ 3).int := hdr_at 6 3 (by decide)
  have a4 : (hdrOf Φ ρ 6)[4]?.getD 0 = (ρ 4).int := hdr_at 6 4 (by decide)
  have a5 : (hdrOf Φ ρ 6)[5]?.getD 0 = (ρ 5).int := hdr_at 6 5 (by decide)
  have b0 := hk 0 .u16 rfl
  have b1 := hk 1 .u16 rfl
  have b2 := hk 2 .u32 rfl
  have b3 := hk 3 .u32 rfl
  have b4 := hk 4 .u8 rfl
  have b5 := hk 5 .u16 rfl
  simp only [kmin, kmax, Nat.zero_add] at b0 b1 b2 b3 b4 b5
  have n1 : ∀ x : Int, x / 65536 / 256 = x / 16777216 := fun x => by omega
  have n2 : ∀ x : Int, (x - x / 65536 * 65536) / 256 = x / 256 % 256 := fun x => by omega
  have n3 : ∀ x : Int, (x - x / 65536 * 65536) % 256 = x % 256 := fun x => by omega
  have n4 : ∀ x : Int, x / 65536 - x / 16777216 * 256 = x / 65536 % 256 := fun x => by omega
  have n5 : ∀ x : Int, x - x / 65536 * 65536 - x / 256 % 256 * 256 = x % 256 := fun x => by omega
  have n6 : ∀ x : Int, x / 256 / 256 = x / 65536 := fun x => by omega
  have n7 : ∀ x : Int, x / 256 - x / 65536 * 256 = x / 256 % 256 := fun x => by omega
  have m1 : ∀ x : Int, x - x / 256 * 256 = x % 256 := fun x => by omega
  have hB : 0 ≤ wsum (wrBase 5 (hdrOf Φ ρ 6) (ρ 6).list) := by simp only [wrBase, wsum, g, a0, a1, a2, a3, a4, a5]; omega
  have hS : ocs (ocs (wsum (wrBase 5 (hdrOf Φ ρ 6) (ρ 6).list)) + ocs (wsum (ρ 6).list)) = ocs (wsum (wrBase 5 (hdrOf Φ ρ 6) (ρ 6).list ++ (ρ 6).list)) := by rw [ocs_two hB (wsum_range hb').1, wsum_app _ _ (by simp [wrBase])]
  simp only [wrBase, g, a0, a1, a2, a3, a4, a5, List.cons_append, List.nil_append] at hS
  have hR := ocs_range (wsum (wrBase 5 (hdrOf Φ ρ 6) (ρ 6).list ++ (ρ 6).list))
  simp only [wrBase, g, a0, a1, a2, a3, a4, a5, List.cons_append, List.nil_append] at hR
  refine ⟨fun c1 => ?_, fun c1 => ?_⟩
  · simp [hΦ.sum, hΦ.ocs, wrap_ocs, m1, hS] at c1
    have hz : wrFail 5 (hdrOf Φ ρ 6) (ρ 6).list = 90 := by
      simp only [wrFail, g, a0, a1, a2, a3, a4, a5]
      repeat' split
      all_goals first | rfl | omega
    exact leaf_wr_err hr hz (by decide) (by decide)
  · refine ⟨fun c2 => ?_, fun c2 => ?_⟩
    · simp [hΦ.sum, hΦ.ocs, wrap_ocs, m1, hS] at c1 c2
      have hz : wrFail 5 (hdrOf Φ ρ 6) (ρ 6).list = 5 := by
        simp only [wrFail, g, a0, a1, a2, a3, a4, a5]
        repeat' split
        all_goals first | rfl | omega
      exact leaf_wr_err hr hz (by decide) (by decide)
    · simp [hΦ.sum, hΦ.ocs, wrap_ocs, m1, hS] at c1 c2
      have hz : wrFail 5 (hdrOf Φ ρ 6) (ρ 6).list = 0 := by
        simp only [wrFail, g, a0, a1, a2, a3, a4, a5]
        repeat' split
        all_goals first | rfl | omega
      have q1 : (20480 + (ρ 4).int) / 256 = 80 := by omega
      have q2 : (20480 + (ρ 4).int) % 256 = (ρ 4).int := by omega
      have q3 : 20480 + (ρ 4).int - 80 * 256 = (ρ 4).int := by omega
      refine leaf_wr_ok hr hz ?_ rfl (by decide)
      simp only [list_cons, list_nil, int_add, int_sub, int_mul, int_fdiv, int_len, den_var, den_num, D.int_i, fdiv_lit, m1, n1, n2, n3, n4, n5, q1, q2, q3, int_wr, den_fn, hΦ.sum, hΦ.ocs, wrap_ocs, hS, wrGood, wrBase, putF, fld, fld1, List.set_cons_succ, List.set_cons_zero, List.cons_append, List.nil_append, g, a0, a1, a2, a3, a4, a5]
      all_goals try simp only [List.cons.injEq, and_true, true_and]
      all_goals repeat' apply And.intro
      all_goals first | rfl | omega
end Go.Proofs.Ytbiodlomlendkaa.Sx
/- Sx: what Go function 78 does, as a tree of conditions (printed by a tool of this claim, proved by the kernel). Conditions: none. -/
set_option maxRecDepth 100000
namespace Go.Proofs.Ytbiodlomlendkaa.Sx
open Go
def treeWdDgram : M (V × St) :=
(.split (.c2 .lt (.num 2040) (.c1 .len (.var 2)))
 (.ret (.t [.c (.sn), .c (.i .i64 (.num 5))], ⟨[], [], 3, 3, []⟩))
 (.split (.c1 .not (.c2 .eq (.c2 .sub (.num 65535) (.wr .u16 (.fn 2 (.c2 .add (.wr .u16 (.fn 1 (.cons (.c2 .fdiv (.var 0) (.num 256)) (.cons (.c2 .sub (.var 0) (.c2 .mul (.c2 .fdiv (.var 0) (.num 256)) (.num 256))) (.cons (.c2 .fdiv (.var 1) (.num 256)) (.cons (.c2 .sub (.var 1) (.c2 .mul (.c2 .fdiv (.var 1) (.num 256)) (.num 256))) (.cons (.c2 .fdiv (.c2 .add (.num 8) (.c1 .len (.var 2))) (.num 256)) (.cons (.c2 .sub (.c2 .add (.num 8) (.c1 .len (.var 2))) (.c2 .mul (.c2 .fdiv (.c2 .add (.num 8) (.c1 .len (.var 2))) (.num 256)) (.num 256))) (.cons (.num 0) (.cons (.num 0) .nil)))))))) .nil .nil)) (.wr .u16 (.fn 1 (.var 2) .nil .nil))) .nil .nil))) (.num 0)))
  (.ret (.t [.c (.s 3 1 0 (.num 0) (.num 8)), .c (.i .i64 (.num 0))], ⟨[], [(3, some ⟨true, .row [.u8] (.cons (.c2 .fdiv (.var 0) (.num 256)) (.cons (.c2 .sub (.var 0) (.c2 .mul (.c2 .fdiv (.var 0) (.num 256)) (.num 256))) (.cons (.c2 .fdiv (.var 1) (.num 256)) (.cons (.c2 .sub (.var 1) (.c2 .mul (.c2 .fdiv (.var 1) (.num 256)) (.num 256))) (.cons (.c2 .fdiv (.c2 .add (.num 8) (.c1 .len (.var 2))) (.num 256)) (.cons (.c2 .sub (.c2 .add (.num 8) (.c1 .len (.var 2))) (.c2 .mul (.c2 .fdiv (.c2 .add (.num 8) (.c1 .len (.var 2))) (.num 256)) (.num 256))) (.cons (.c2 .fdiv (.c2 .sub (.num 65535) (.wr .u16 (.fn 2 (.c2 .add (.wr .u16 (.fn 1 (.cons (.c2 .fdiv (.var 0) (.num 256)) (.cons (.c2 .sub (.var 0) (.c2 .mul (.c2 .fdiv (.var 0) (.num 256)) (.num 256))) (.cons (.c2 .fdiv (.var 1) (.num 256)) (.cons (.c2 .sub (.var 1) (.c2 .mul (.c2 .fdiv (.var 1) (.num 256)) (.num 256))) (.cons (.c2 .fdiv (.c2 .add (.num 8) (.c1 .len (.var 2))) (.num 256)) (.cons (.c2 .sub (.c2 .add (.num 8) (.c1 .len (.var 2))) (.c2 .mul (.c2 .fdiv (.c2 .add (.num 8) (.c1 .len (.var 2))) (.num 256)) (.num 256))) (.cons (.num 0) (.cons (.num 0) .nil)))))))) .nil .nil)) (.wr .u16 (.fn 1 (.var 2) .nil .nil))) .nil .nil))) (.num 256)) (.cons (.c2 .sub (.c2 .sub (.num 65535) (.wr .u16 (.fn 2 (.c2 .add (.wr .u16 (.fn 1 (.cons (.c2 .fdiv (.var 0) (.num 256)) (.cons (.c2 .sub (.var 0) (.c2 .mul (.c2 .fdiv (.var 0) (.num 256)) (.num 256))) (.cons (.c2 .fdiv (.var 1) (.num 256)) (.cons (.c2 .sub (.var 1) (.c2 .mul (.c2 .fdiv (.var 1) (.num 256)) (.num 256))) (.cons (.c2 .fdiv (.c2 .add (.num 8) (.c1 .len (.var 2))) (.num 256)) (.cons (.c2 .sub (.c2 .add (.num 8) (.c1 .len (.var 2))) (.c2 .mul (.c2 .fdiv (.c2 .add (.num 8) (.c1 .len (.var 2))) (.num 256)) (.num 256))) (.cons (.num 0) (.cons (.num 0) .nil)))))))) .nil .nil)) (.wr .u16 (.fn 1 (.var 2) .nil .nil))) .nil .nil))) (.c2 .mul (.c2 .fdiv (.c2 .sub (.num 65535) (.wr .u16 (.fn 2 (.c2 .add (.wr .u16 (.fn 1 (.cons (.c2 .fdiv (.var 0) (.num 256)) (.cons (.c2 .sub (.var 0) (.c2 .mul (.c2 .fdiv (.var 0) (.num 256)) (.num 256))) (.cons (.c2 .fdiv (.var 1) (.num 256)) (.cons (.c2 .sub (.var 1) (.c2 .mul (.c2 .fdiv (.var 1) (.num 256)) (.num 256))) (.cons (.c2 .fdiv (.c2 .add (.num 8) (.c1 .len (.var 2))) (.num 256)) (.cons (.c2 .sub (.c2 .add (.num 8) (.c1 .len (.var 2))) (.c2 .mul (.c2 .fdiv (.c2 .add (.num 8) (.c1 .len (.var 2))) (.num 256)) (.num 256))) (.cons (.num 0) (.cons (.num 0) .nil)))))))) .nil .nil)) (.wr .u16 (.fn 1 (.var 2) .nil .nil))) .nil .nil))) (.num 256)) (.num 256))) .nil))))))))⟩)], 6, 3, []⟩))
  (.ret (.t [.c (.s 3 1 0 (.num 0) (.num 8)), .c (.i .i64 (.num 0))], ⟨[], [(3, some ⟨true, .row [.u8] (.cons (.c2 .fdiv (.var 0) (.num 256)) (.cons (.c2 .sub (.var 0) (.c2 .mul (.c2 .fdiv (.var 0) (.num 256)) (.num 256))) (.cons (.c2 .fdiv (.var 1) (.num 256)) (.cons (.c2 .sub (.var 1) (.c2 .mul (.c2 .fdiv (.var 1) (.num 256)) (.num 256))) (.cons (.c2 .fdiv (.c2 .add (.num 8) (.c1 .len (.var 2))) (.num 256)) (.cons (.c2 .sub (.c2 .add (.num 8) (.c1 .len (.var 2))) (.c2 .mul (.c2 .fdiv (.c2 .add (.num 8) (.c1 .len (.var 2))) (.num 256)) (.num 256))) (.cons (.num 255) (.cons (.num 255) .nil))))))))⟩)], 6, 3, []⟩))))
theorem treeWdDgram_is : funTree (ctxN Go.Proofs.Try.prog annsHd consSum 8) annsHd 78 (tBytes 6 3 60 8 kDgram).vs (tBytes 6 3 60 8 kDgram).bs (tBytes 6 3 60 8 kDgram).n (preF (tBytes 6 3 60 8 kDgram).res) = treeWdDgram := by kernel_rfl
end Go.Proofs.Ytbiodlomlendkaa.Sx
/- Sx laws of headers: the writers of layer Dgram. Conditions: none. -/
set_option linter.unusedVariables false
set_option linter.unusedSimpArgs false
namespace Go.Proofs.Ytbiodlomlendkaa.Sx
open Go
set_option maxRecDepth 100000 in
theorem wdDgram_ok {Φ : Sig} (hΦ : HdSig Φ) : TmplOk Go.Proofs.Try.prog Φ 78 (tBytes 6 3 60 8 kDgram) := by
  refine tmpl_of (consSum_ok hΦ.toSumSig) treeWdDgram_is (fun ρ res hres => ⟨eqJ, ?_⟩)
  obtain ⟨hk, hres⟩ := inKs_some hres
  obtain ⟨h0, hres⟩ := short_some hres
  obtain ⟨hb, hres⟩ := bytes_some hres
  have hr := wr_res (n := 2) hΦ ⟨by decide, by decide⟩ hres
  have h0' : (ρ 2).list.length ≤ 140737488351232 := h0
  have hb' : Bytes (ρ 2).list := hb
  have a0 : (hdrOf Φ ρ 2)[0]?.getD 0 = (ρ 0).int := hdr_at 2 0 (by decide)
  have a1 : (hdrOf Φ ρ 2)[1]?.getD 0 = (ρ 1).int := hdr_at 2 1 (by decide)
  have b0 := hk 0 .u16 rfl
  have b1 := hk 1 .u16 rfl
  simp only [kmin, kmax, Nat.zero_add] at b0 b1
  have m1 : ∀ x : Int, x - x / 256 * 256 = x % 256 := fun x => by omega
  have hB : 0 ≤ wsum (wrBase 6 (hdrOf Φ ρ 2) (ρ 2).list) := by simp only [wrBase, wsum, g, a0, a1]; omega
  have hS : ocs (ocs (wsum (wrBase 6 (hdrOf Φ ρ 2) (ρ 2).list)) + ocs (wsum (ρ 2).list)) = ocs (wsum (wrBase 6 (hdrOf Φ ρ 2) (ρ 2).list ++ (ρ 2).list)) := by rw [ocs_two hB (wsum_range hb').1, wsum_app _ _ (by simp [wrBase])]
  simp only [wrBase, g, a0, a1, List.cons_append, List.nil_append] at hS
  have hR := ocs_range (wsum (wrBase 6 (hdrOf Φ ρ 2) (ρ 2).list ++ (ρ 2).list))
  simp only [wrBase, g, a0, a1, List.cons_append, List.nil_append] at hR
  refine ⟨fun c1 => ?_, fun c1 => ?_⟩
  · simp [hΦ.sum, hΦ.ocs, wrap_ocs, m1, hS] at c1
    have hz : wrFail 6 (hdrOf Φ ρ 2) (ρ 2).list = 5 := by
      simp only [wrFail, g, a0, a1]
      repeat' split
      all_goals first | rfl | omega
    exact leaf_wr_err hr hz (by decide) (by decide)
  · refine ⟨fun c2 => ?_, fun c2 => ?_⟩
    · simp [hΦ.sum, hΦ.ocs, wrap_ocs, m1, hS] at c1 c2
      have hz : wrFail 6 (hdrOf Φ ρ 2) (ρ 2).list = 0 := by
        simp only [wrFail, g, a0, a1]
        repeat' split
        all_goals first | rfl | omega
      refine leaf_wr_ok hr hz ?_ rfl (by decide)
      simp only [list_cons, list_nil, int_add, int_sub, int_mul, int_fdiv, int_len, den_var, den_num, D.int_i, fdiv_lit, m1, int_wr, den_fn, hΦ.sum, hΦ.ocs, wrap_ocs, hS, wrGood, wrBase, putF, fld, fld1, List.set_cons_succ, List.set_cons_zero, List.cons_append, List.nil_append, g, a0, a1]
      all_goals try simp only [List.cons.injEq, and_true, true_and]
      all_goals repeat' apply And.intro
      all_goals first | rfl | omega
    · simp [hΦ.sum, hΦ.ocs, wrap_ocs, m1, hS] at c1 c2
      have hz : wrFail 6 (hdrOf Φ ρ 2) (ρ 2).list = 0 := by
        simp only [wrFail, g, a0, a1]
        repeat' split
        all_goals first | rfl | omega
      refine leaf_wr_ok hr hz ?_ rfl (by decide)
      simp only [list_cons, list_nil, int_add, int_sub, int_mul, int_fdiv, int_len, den_var, den_num, D.int_i, fdiv_lit, m1, int_wr, den_fn, hΦ.sum, hΦ.ocs, wrap_ocs, hS, wrGood, wrBase, putF, fld, fld1, List.set_cons_succ, List.set_cons_zero, List.cons_append, List.nil_append, g, a0, a1]
      all_goals try simp only [List.cons.injEq, and_true, true_and]
      all_goals repeat' apply And.intro
      all_goals first | rfl | omega
end Go.Proofs.Ytbiodlomlendkaa.Sx
/- Sx laws of peeling: headers that are put on: the contract of bytes. Conditions: none. -/
set_option linter.unusedVariables false
set_option linter.unusedSimpArgs false
namespace Go.Proofs.Ytbiodlomlendkaa.Sx
open Go
theorem consWd_ok {Φ : Sig} (hΦ : HdSig Φ) : ConsOk Go.Proofs.Try.prog Φ consWd := moreCons (con_ok (wdLink_ok hΦ)) (moreCons (con_ok (wdTag_ok hΦ)) (moreCons (con_ok (wdNet4_ok hΦ)) (moreCons (con_ok (wdNet6_ok hΦ)) (moreCons (con_ok (wdSeg_ok hΦ)) (moreCons (con_ok (wdDgram_ok hΦ)) (noCons))))))
set_option maxRecDepth 100000 in
theorem hb_ok {Φ : Sig} (hΦ : PbSig Φ) : TmplOk Go.Proofs.Try.prog Φ 39 (tHb 5) := by
  refine tmpl_of (consWd_ok hΦ.toHdSig) treePbBytes_is (fun ρ res hres => ⟨eqJ, ?_⟩)
  obtain ⟨hk, hres⟩ := inKs_some hres
  obtain ⟨h0, hres⟩ := short_some hres
  obtain ⟨hb, hres⟩ := bytes_some hres
  have hr := hb_res hΦ hres
  have g0 : g (T.den Φ ρ (varsT 0 73)).list 0 = (ρ 0).int := rfl
  refine ⟨fun q => ?_, fun n1 => ?_⟩
  · rw [eq_t, den_var] at q
    replace q : (ρ 0).int = 1 := q
    have hF : (T.den Φ ρ (varsT 1 13)).list = hdFields 1 (T.den Φ ρ (varsT 0 73)).list := vars_sub Φ ρ (b := 1) (n := 13) (m := 73) (by decide)
    have hg : GoodInts kLink (T.den Φ ρ (varsT 1 13)).list := good_vars (ks := kLink) (b := 1) hk (by decide)
    have hE : headErr (T.den Φ ρ (varsT 0 73)).list (ρ 73).list = wrFail 1 (T.den Φ ρ (varsT 1 13)).list (ρ 73).list := by
      rw [headErr, g0, q, if_pos (by decide), hF]; rfl
    have hR : headRow (T.den Φ ρ (varsT 0 73)).list (ρ 73).list = wrGood 1 (T.den Φ ρ (varsT 1 13)).list (ρ 73).list := by
      rw [headRow, g0, q, hF]; rfl
    have d1 : (T.den Φ ρ (.fn 41 (varsT 1 13) (.var 73) .nil)).int = wrFail 1 (T.den Φ ρ (varsT 1 13)).list (ρ 73).list := by rw [den_fn, hΦ.wrErr 1 _ _ _ (by decide) (by decide)]; rfl
    have d2 : (T.den Φ ρ (.fn 31 (varsT 1 13) (.var 73) .nil)).list = wrGood 1 (T.den Φ ρ (varsT 1 13)).list (ρ 73).list := by rw [den_fn, hΦ.wrRow 1 _ _ _ (by decide) (by decide)]; rfl
    refine ⟨fun c => ?_, fun c => ?_⟩
    · replace c := (eq_t Φ ρ (.fn 41 (varsT 1 13) (.var 73) .nil) (.num 0)).mp c
      rw [d1] at c
      have hl := wr_len (k := 1) ⟨by decide, by decide⟩ (T.den Φ ρ (varsT 1 13)).list (ρ 73).list
      refine ⟨?_, ?_, leaf_hb_ok hr (hE.trans c) (d2.trans hR.symm) ?_ (by decide)⟩
      · refine (bytes_t Φ ρ (.fn 31 (varsT 1 13) (.var 73) .nil)).mpr ?_
        rw [d2]; exact bytesLink hg c
      · refine (eq_t Φ ρ (.c1 .len (.fn 31 (varsT 1 13) (.var 73) .nil)) (.num 14)).mpr ?_
        rw [int_len, d2, hl]; rfl
      · rw [hR, hl]; rfl
    · have c2 := (eq_f Φ ρ (.fn 41 (varsT 1 13) (.var 73) .nil) (.num 0)).mp c
      rw [d1] at c2
      exact leaf_hb_err hr (fun h => c2 (hE.symm.trans h)) c (by decide)
  refine ⟨fun q => ?_, fun n2 => ?_⟩
  · rw [eq_t, den_var] at q
    replace q : (ρ 0).int = 2 := q
    have hF : (T.den Φ ρ (varsT 14 3)).list = hdFields 2 (T.den Φ ρ (varsT 0 73)).list := vars_sub Φ ρ (b := 14) (n := 3) (m := 73) (by decide)
    have hg : GoodInts kTag (T.den Φ ρ (varsT 14 3)).list := good_vars (ks := kTag) (b := 14) hk (by decide)
    have hE : headErr (T.den Φ ρ (varsT 0 73)).list (ρ 73).list = wrFail 2 (T.den Φ ρ (varsT 14 3)).list (ρ 73).list := by
      rw [headErr, g0, q, if_pos (by decide), hF]; rfl
    have hR : headRow (T.den Φ ρ (varsT 0 73)).list (ρ 73).list = wrGood 2 (T.den Φ ρ (varsT 14 3)).list (ρ 73).list := by
      rw [headRow, g0, q, hF]; rfl
    have d1 : (T.den Φ ρ (.fn 42 (varsT 14 3) (.var 73) .nil)).int = wrFail 2 (T.den Φ ρ (varsT 14 3)).list (ρ 73).list := by rw [den_fn, hΦ.wrErr 2 _ _ _ (by decide) (by decide)]; rfl
    have d2 : (T.den Φ ρ (.fn 32 (varsT 14 3) (.var 73) .nil)).list = wrGood 2 (T.den Φ ρ (varsT 14 3)).list (ρ 73).list := by rw [den_fn, hΦ.wrRow 2 _ _ _ (by decide) (by decide)]; rfl
    refine ⟨fun c => ?_, fun c => ?_⟩
    · replace c := (eq_t Φ ρ (.fn 42 (varsT 14 3) (.var 73) .nil) (.num 0)).mp c
      rw [d1] at c
      have hl := wr_len (k := 2) ⟨by decide, by decide⟩ (T.den Φ ρ (varsT 14 3)).list (ρ 73).list
      refine ⟨?_, ?_, leaf_hb_ok hr (hE.trans c) (d2.trans hR.symm) ?_ (by decide)⟩
      · refine (bytes_t Φ ρ (.fn 32 (varsT 14 3) (.var 73) .nil)).mpr ?_
        rw [d2]; exact bytesTag hg c
      · refine (eq_t Φ ρ (.c1 .len (.fn 32 (varsT 14 3) (.var 73) .nil)) (.num 4)).mpr ?_
        rw [int_len, d2, hl]; rfl
      · rw [hR, hl]; rfl
    · have c2 := (eq_f Φ ρ (.fn 42 (varsT 14 3) (.var 73) .nil) (.num 0)).mp c
      rw [d1] at c2
      exact leaf_hb_err hr (fun h => c2 (hE.symm.trans h)) c (by decide)
  refine ⟨fun q => ?_, fun n3 => ?_⟩
  · rw [eq_t, den_var] at q
    replace q : (ρ 0).int = 3 := q
    have hF : (T.den Φ ρ (varsT 17 12)).list = hdFields 3 (T.den Φ ρ (varsT 0 73)).list := vars_sub Φ ρ (b := 17) (n := 12) (m := 73) (by decide)
    have hg : GoodInts kNet4 (T.den Φ ρ (varsT 17 12)).list := good_vars (ks := kNet4) (b := 17) hk (by decide)
    have hE : headErr (T.den Φ ρ (varsT 0 73)).list (ρ 73).list = wrFail 3 (T.den Φ ρ (varsT 17 12)).list (ρ 73).list := by
      rw [headErr, g0, q, if_pos (by decide), hF]; rfl
    have hR : headRow (T.den Φ ρ (varsT 0 73)).list (ρ 73).list = wrGood 3 (T.den Φ ρ (varsT 17 12)).list (ρ 73).list := by
      rw [headRow, g0, q, hF]; rfl
    have d1 : (T.den Φ ρ (.fn 43 (varsT 17 12) (.var 73) .nil)).int = wrFail 3 (T.den Φ ρ (varsT 17 12)).list (ρ 73).list := by rw [den_fn, hΦ.wrErr 3 _ _ _ (by decide) (by decide)]; rfl
    have d2 : (T.den Φ ρ (.fn 33 (varsT 17 12) (.var 73) .nil)).list = wrGood 3 (T.den Φ ρ (varsT 17 12)).list (ρ 73).list := by rw [den_fn, hΦ.wrRow 3 _ _ _ (by decide) (by decide)]; rfl
    refine ⟨fun c => ?_, fun c => ?_⟩
    · replace c := (eq_t Φ ρ (.fn 43 (varsT 17 12) (.var 73) .nil) (.num 0)).mp c
      rw [d1] at c
      have hl := wr_len (k := 3) ⟨by decide, by decide⟩ (T.den Φ ρ (varsT 17 12)).list (ρ 73).list
      refine ⟨?_, ?_, leaf_hb_ok hr (hE.trans c) (d2.trans hR.symm) ?_ (by decide)⟩
      · refine (bytes_t Φ ρ (.fn 33 (varsT 17 12) (.var 73) .nil)).mpr ?_
        rw [d2]; exact bytesNet4 hg c
      · refine (eq_t Φ ρ (.c1 .len (.fn 33 (varsT 17 12) (.var 73) .nil)) (.num 20)).mpr ?_
        rw [int_len, d2, hl]; rfl
      · rw [hR, hl]; rfl
    · have c2 := (eq_f Φ ρ (.fn 43 (varsT 17 12) (.var 73) .nil) (.num 0)).mp c
      rw [d1] at c2
      exact leaf_hb_err hr (fun h => c2 (hE.symm.trans h)) c (by decide)
  refine ⟨fun q => ?_, fun n4 => ?_⟩
  · rw [eq_t, den_var] at q
    replace q : (ρ 0).int = 4 := q
    have hF : (T.den Φ ρ (varsT 29 36)).list = hdFields 4 (T.den Φ ρ (varsT 0 73)).list := vars_sub Φ ρ (b := 29) (n := 36) (m := 73) (by decide)
    have hg : GoodInts kNet6 (T.den Φ ρ (varsT 29 36)).list := good_vars (ks := kNet6) (b := 29) hk (by decide)
    have hE : headErr (T.den Φ ρ (varsT 0 73)).list (ρ 73).list = wrFail 4 (T.den Φ ρ (varsT 29 36)).list (ρ 73).list := by
      rw [headErr, g0, q, if_pos (by decide), hF]; rfl
    have hR : headRow (T.den Φ ρ (varsT 0 73)).list (ρ 73).list = wrGood 4 (T.den Φ ρ (varsT 29 36)).list (ρ 73).list := by
      rw [headRow, g0, q, hF]; rfl
    have d1 : (T.den Φ ρ (.fn 44 (varsT 29 36) (.var 73) .nil)).int = wrFail 4 (T.den Φ ρ (varsT 29 36)).list (ρ 73).list := by rw [den_fn, hΦ.wrErr 4 _ _ _ (by decide) (by decide)]; rfl
    have d2 : (T.den Φ ρ (.fn 34 (varsT 29 36) (.var 73) .nil)).list = wrGood 4 (T.den Φ ρ (varsT 29 36)).list (ρ 73).list := by rw [den_fn, hΦ.wrRow 4 _ _ _ (by decide) (by decide)]; rfl
    refine ⟨fun c => ?_, fun c => ?_⟩
    · replace c := (eq_t Φ ρ (.fn 44 (varsT 29 36) (.var 73) .nil) (.num 0)).mp c
      rw [d1] at c
      have hl := wr_len (k := 4) ⟨by decide, by decide⟩ (T.den Φ ρ (varsT 29 36)).list (ρ 73).list
      refine ⟨?_, ?_, leaf_hb_ok hr (hE.trans c) (d2.trans hR.symm) ?_ (by decide)⟩
      · refine (bytes_t Φ ρ (.fn 34 (varsT 29 36) (.var 73) .nil)).mpr ?_
        rw [d2]; exact bytesNet6 hg c
      · refine (eq_t Φ ρ (.c1 .len (.fn 34 (varsT 29 36) (.var 73) .nil)) (.num 40)).mpr ?_
        rw [int_len, d2, hl]; rfl
      · rw [hR, hl]; rfl
    · have c2 := (eq_f Φ ρ (.fn 44 (varsT 29 36) (.var 73) .nil) (.num 0)).mp c
      rw [d1] at c2
      exact leaf_hb_err hr (fun h => c2 (hE.symm.trans h)) c (by decide)
  refine ⟨fun q => ?_, fun n5 => ?_⟩
  · rw [eq_t, den_var] at q
    replace q : (ρ 0).int = 5 := q
    have hF : (T.den Φ ρ (varsT 65 6)).list = hdFields 5 (T.den Φ ρ (varsT 0 73)).list := vars_sub Φ ρ (b := 65) (n := 6) (m := 73) (by decide)
    have hg : GoodInts kSeg (T.den Φ ρ (varsT 65 6)).list := good_vars (ks := kSeg) (b := 65) hk (by decide)
    have hE : headErr (T.den Φ ρ (varsT 0 73)).list (ρ 73).list = wrFail 5 (T.den Φ ρ (varsT 65 6)).list (ρ 73).list := by
      rw [headErr, g0, q, if_pos (by decide), hF]; rfl
    have hR : headRow (T.den Φ ρ (varsT 0 73)).list (ρ 73).list = wrGood 5 (T.den Φ ρ (varsT 65 6)).list (ρ 73).list := by
      rw [headRow, g0, q, hF]; rfl
    have d1 : (T.den Φ ρ (.fn 45 (varsT 65 6) (.var 73) .nil)).int = wrFail 5 (T.den Φ ρ (varsT 65 6)).list (ρ 73).list := by rw [den_fn, hΦ.wrErr 5 _ _ _ (by decide) (by decide)]; rfl
    have d2 : (T.den Φ ρ (.fn 35 (varsT 65 6) (.var 73) .nil)).list = wrGood 5 (T.den Φ ρ (varsT 65 6)).list (ρ 73).list := by rw [den_fn, hΦ.wrRow 5 _ _ _ (by decide) (by decide)]; rfl
    refine ⟨fun c => ?_, fun c => ?_⟩
    · replace c := (eq_t Φ ρ (.fn 45 (varsT 65 6) (.var 73) .nil) (.num 0)).mp c
      rw [d1] at c
      have hl := wr_len (k := 5) ⟨by decide, by decide⟩ (T.den Φ ρ (varsT 65 6)).list (ρ 73).list
      refine ⟨?_, ?_, leaf_hb_ok hr (hE.trans c) (d2.trans hR.symm) ?_ (by decide)⟩
      · refine (bytes_t Φ ρ (.fn 35 (varsT 65 6) (.var 73) .nil)).mpr ?_
        rw [d2]; exact bytesSeg hg c
      · refine (eq_t Φ ρ (.c1 .len (.fn 35 (varsT 65 6) (.var 73) .nil)) (.num 20)).mpr ?_
        rw [int_len, d2, hl]; rfl
      · rw [hR, hl]; rfl
    · have c2 := (eq_f Φ ρ (.fn 45 (varsT 65 6) (.var 73) .nil) (.num 0)).mp c
      rw [d1] at c2
      exact leaf_hb_err hr (fun h => c2 (hE.symm.trans h)) c (by decide)
  refine ⟨fun q => ?_, fun n6 => ?_⟩
  · rw [eq_t, den_var] at q
    replace q : (ρ 0).int = 6 := q
    have hF : (T.den Φ ρ (varsT 71 2)).list = hdFields 6 (T.den Φ ρ (varsT 0 73)).list := vars_sub Φ ρ (b := 71) (n := 2) (m := 73) (by decide)
    have hg : GoodInts kDgram (T.den Φ ρ (varsT 71 2)).list := good_vars (ks := kDgram) (b := 71) hk (by decide)
    have hE : headErr (T.den Φ ρ (varsT 0 73)).list (ρ 73).list = wrFail 6 (T.den Φ ρ (varsT 71 2)).list (ρ 73).list := by
      rw [headErr, g0, q, if_pos (by decide), hF]; rfl
    have hR : headRow (T.den Φ ρ (varsT 0 73)).list (ρ 73).list = wrGood 6 (T.den Φ ρ (varsT 71 2)).list (ρ 73).list := by
      rw [headRow, g0, q, hF]; rfl
    have d1 : (T.den Φ ρ (.fn 46 (varsT 71 2) (.var 73) .nil)).int = wrFail 6 (T.den Φ ρ (varsT 71 2)).list (ρ 73).list := by rw [den_fn, hΦ.wrErr 6 _ _ _ (by decide) (by decide)]; rfl
    have d2 : (T.den Φ ρ (.fn 36 (varsT 71 2) (.var 73) .nil)).list = wrGood 6 (T.den Φ ρ (varsT 71 2)).list (ρ 73).list := by rw [den_fn, hΦ.wrRow 6 _ _ _ (by decide) (by decide)]; rfl
    refine ⟨fun c => ?_, fun c => ?_⟩
    · replace c := (eq_t Φ ρ (.fn 46 (varsT 71 2) (.var 73) .nil) (.num 0)).mp c
      rw [d1] at c
      have hl := wr_len (k := 6) ⟨by decide, by decide⟩ (T.den Φ ρ (varsT 71 2)).list (ρ 73).list
      refine ⟨?_, ?_, leaf_hb_ok hr (hE.trans c) (d2.trans hR.symm) ?_ (by decide)⟩
      · refine (bytes_t Φ ρ (.fn 36 (varsT 71 2) (.var 73) .nil)).mpr ?_
        rw [d2]; exact bytesDgram hg c
      · refine (eq_t Φ ρ (.c1 .len (.fn 36 (varsT 71 2) (.var 73) .nil)) (.num 8)).mpr ?_
        rw [int_len, d2, hl]; rfl
      · rw [hR, hl]; rfl
    · have c2 := (eq_f Φ ρ (.fn 46 (varsT 71 2) (.var 73) .nil) (.num 0)).mp c
      rw [d1] at c2
      exact leaf_hb_err hr (fun h => c2 (hE.symm.trans h)) c (by decide)
  refine leaf_hb_err hr ?_ rfl (by decide)
  rw [headErr, g0, if_neg ?_]
  · decide
  · rintro ⟨p1, p2⟩
    rw [eq_f, den_var] at n1
    rw [eq_f, den_var] at n2
    rw [eq_f, den_var] at n3
    rw [eq_f, den_var] at n4
    rw [eq_f, den_var] at n5
    rw [eq_f, den_var] at n6
    have h6 : ¬ (ρ 0).int = 1 ∧ ¬ (ρ 0).int = 2 ∧ ¬ (ρ 0).int = 3 ∧ ¬ (ρ 0).int = 4 ∧ ¬ (ρ 0).int = 5 ∧ ¬ (ρ 0).int = 6 := ⟨n1, n2, n3, n4, n5, n6⟩
    omega
end Go.Proofs.Ytbiodlomlendkaa.Sx
/- Sx: what Go function 22 does, as a tree of conditions (printed by a tool of this claim, proved by the kernel). Conditions: none. -/
set_option maxRecDepth 100000
namespace Go.Proofs.Ytbiodlomlendkaa.Sx
open Go
def xPbWhole0 : T := (.cons (.c2 .rd (.var 1) (.c2 .mul (.var 3) (.num 73))) (.cons (.c2 .rd (.var 1) (.c2 .add (.c2 .mul (.var 3) (.num 73)) (.num 1))) (.cons (.c2 .rd (.var 1) (.c2 .add (.c2 .mul (.var 3) (.num 73)) (.num 2))) (.cons (.c2 .rd (.var 1) (.c2 .add (.c2 .mul (.var 3) (.num 73)) (.num 3))) (.cons (.c2 .rd (.var 1) (.c2 .add (.c2 .mul (.var 3) (.num 73)) (.num 4))) (.cons (.c2 .rd (.var 1) (.c2 .add (.c2 .mul (.var 3) (.num 73)) (.num 5))) (.cons (.c2 .rd (.var 1) (.c2 .add (.c2 .mul (.var 3) (.num 73)) (.num 6))) (.cons (.c2 .rd (.var 1) (.c2 .add (.c2 .mul (.var 3) (.num 73)) (.num 7))) (.cons (.c2 .rd (.var 1) (.c2 .add (.c2 .mul (.var 3) (.num 73)) (.num 8))) (.cons (.c2 .rd (.var 1) (.c2 .add (.c2 .mul (.var 3) (.num 73)) (.num 9))) (.cons (.c2 .rd (.var 1) (.c2 .add (.c2 .mul (.var 3) (.num 73)) (.num 10))) (.cons (.c2 .rd (.var 1) (.c2 .add (.c2 .mul (.var 3) (.num 73)) (.num 11))) (.cons (.c2 .rd (.var 1) (.c2 .add (.c2 .mul (.var 3) (.num 73)) (.num 12))) (.cons (.c2 .rd (.var 1) (.c2 .add (.c2 .mul (.var 3) (.num 73)) (.num 13))) (.cons (.c2 .rd (.var 1) (.c2 .add (.c2 .mul (.var 3) (.num 73)) (.num 14))) (.cons (.c2 .rd (.var 1) (.c2 .add (.c2 .mul (.var 3) (.num 73)) (.num 15))) (.cons (.c2 .rd (.var 1) (.c2 .add (.c2 .mul (.var 3) (.num 73)) (.num 16))) (.cons (.c2 .rd (.var 1) (.c2 .add (.c2 .mul (.var 3) (.num 73)) (.num 17))) (.cons (.c2 .rd (.var 1) (.c2 .add (.c2 .mul (.var 3) (.num 73)) (.num 18))) (.cons (.c2 .rd (.var 1) (.c2 .add (.c2 .mul (.var 3) (.num 73)) (.num 19))) (.cons (.c2 .rd (.var 1) (.c2 .add (.c2 .mul (.var 3) (.num 73)) (.num 20))) (.cons (.c2 .rd (.var 1) (.c2 .add (.c2 .mul (.var 3) (.num 73)) (.num 21))) (.cons (.c2 .rd (.var 1) (.c2 .add (.c2 .mul (.var 3) (.num 73)) (.num 22))) (.cons (.c2 .rd (.var 1) (.c2 .add (.c2 .mul (.var 3) (.num 73)) (.num 23))) (.cons (.c2 .rd (.var 1) (.c2 .add (.c2 .mul (.var 3) (.num 73)) (.num 24))) (.cons (.c2 .rd (.var 1) (.c2 .add (.c2 .mul (.var 3) (.num 73)) (.num 25))) (.cons (.c2 .rd (.var 1) (.c2 .add (.c2 .mul (.var 3) (.num 73)) (.num 26))) (.cons (.c2 .rd (.var 1) (.c2 .add (.c2 .mul (.var 3) (.num 73)) (.num 27))) (.cons (.c2 .rd (.var 1) (.c2 .add (.c2 .mul (.var 3) (.num 73)) (.num 28))) (.cons (.c2 .rd (.var 1) (.c2 .add (.c2 .mul (.var 3) (.num 73)) (.num 29))) (.cons (.c2 .rd (.var 1) (.c2 .add (.c2 .mul (.var 3) (.num 73)) (.num 30))) (.cons (.c2 .rd (.var 1) (.c2 .add (.c2 .mul (.var 3) (.num 73)) (.num 31))) (.cons (.c2 .rd (.var 1) (.c2 .add (.c2 .mul (.var 3) (.num 73)) (.num 32))) (.cons (.c2 .rd (.var 1) (.c2 .add (.c2 .mul (.var 3) (.num 73)) (.num 33))) (.cons (.c2 .rd (.var 1) (.c2 .add (.c2 .mul (.var 3) (.num 73)) (.num 34))) (.cons (.c2 .rd (.var 1) (.c2 .add (.c2 .mul (.var 3) (.num 73)) (.num 35))) (.cons (.c2 .rd (.var 1) (.c2 .add (.c2 .mul (.var 3) (.num 73)) (.num 36))) (.cons (.c2 .rd (.var 1) (.c2 .add (.c2 .mul (.var 3) (.num 73)) (.num 37))) (.cons (.c2 .rd (.var 1) (.c2 .add (.c2 .mul (.var 3) (.num 73)) (.num 38))) (.cons (.c2 .rd (.var 1) (.c2 .add (.c2 .mul (.var 3) (.num 73)) (.num 39))) (.cons (.c2 .rd (.var 1) (.c2 .add (.c2 .mul (.var 3) (.num 73)) (.num 40))) (.cons (.c2 .rd (.var 1) (.c2 .add (.c2 .mul (.var 3) (.num 73)) (.num 41))) (.cons (.c2 .rd (.var 1) (.c2 .add (.c2 .mul (.var 3) (.num 73)) (.num 42))) (.cons (.c2 .rd (.var 1) (.c2 .add (.c2 .mul (.var 3) (.num 73)) (.num 43))) (.cons (.c2 .rd (.var 1) (.c2 .add (.c2 .mul (.var 3) (.num 73)) (.num 44))) (.cons (.c2 .rd (.var 1) (.c2 .add (.c2 .mul (.var 3) (.num 73)) (.num 45))) (.cons (.c2 .rd (.var 1) (.c2 .add (.c2 .mul (.var 3) (.num 73)) (.num 46))) (.cons (.c2 .rd (.var 1) (.c2 .add (.c2 .mul (.var 3) (.num 73)) (.num 47))) (.cons (.c2 .rd (.var 1) (.c2 .add (.c2 .mul (.var 3) (.num 73)) (.num 48))) (.cons (.c2 .rd (.var 1) (.c2 .add (.c2 .mul (.var 3) (.num 73)) (.num 49))) (.cons (.c2 .rd (.var 1) (.c2 .add (.c2 .mul (.var 3) (.num 73)) (.num 50))) (.cons (.c2 .rd (.var 1) (.c2 .add (.c2 .mul (.var 3) (.num 73)) (.num 51))) (.cons (.c2 .rd (.var 1) (.c2 .add (.c2 .mul (.var 3) (.num 73)) (.num 52))) (.cons (.c2 .rd (.var 1) (.c2 .add (.c2 .mul (.var 3) (.num 73)) (.num 53))) (.cons (.c2 .rd (.var 1) (.c2 .add (.c2 .mul (.var 3) (.num 73)) (.num 54))) (.cons (.c2 .rd (.var 1) (.c2 .add (.c2 .mul (.var 3) (.num 73)) (.num 55))) (.cons (.c2 .rd (.var 1) (.c2 .add (.c2 .mul (.var 3) (.num 73)) (.num 56))) (.cons (.c2 .rd (.var 1) (.c2 .add (.c2 .mul (.var 3) (.num 73)) (.num 57))) (.cons (.c2 .rd (.var 1) (.c2 .add (.c2 .mul (.var 3) (.num 73)) (.num 58))) (.cons (.c2 .rd (.var 1) (.c2 .add (.c2 .mul (.var 3) (.num 73)) (.num 59))) (.cons (.c2 .rd (.var 1) (.c2 .add (.c2 .mul (.var 3) (.num 73)) (.num 60))) (.cons (.c2 .rd (.var 1) (.c2 .add (.c2 .mul (.var 3) (.num 73)) (.num 61))) (.cons (.c2 .rd (.var 1) (.c2 .add (.c2 .mul (.var 3) (.num 73)) (.num 62))) (.cons (.c2 .rd (.var 1) (.c2 .add (.c2 .mul (.var 3) (.num 73)) (.num 63))) (.cons (.c2 .rd (.var 1) (.c2 .add (.c2 .mul (.var 3) (.num 73)) (.num 64))) (.cons (.c2 .rd (.var 1) (.c2 .add (.c2 .mul (.var 3) (.num 73)) (.num 65))) (.cons (.c2 .rd (.var 1) (.c2 .add (.c2 .mul (.var 3) (.num 73)) (.num 66))) (.cons (.c2 .rd (.var 1) (.c2 .add (.c2 .mul (.var 3) (.num 73)) (.num 67))) (.cons (.c2 .rd (.var 1) (.c2 .add (.c2 .mul (.var 3) (.num 73)) (.num 68))) (.cons (.c2 .rd (.var 1) (.c2 .add (.c2 .mul (.var 3) (.num 73)) (.num 69))) (.cons (.c2 .rd (.var 1) (.c2 .add (.c2 .mul (.var 3) (.num 73)) (.num 70))) (.cons (.c2 .rd (.var 1) (.c2 .add (.c2 .mul (.var 3) (.num 73)) (.num 71))) (.cons (.c2 .rd (.var 1) (.c2 .add (.c2 .mul (.var 3) (.num 73)) (.num 72))) .nil)))))))))))))))))))))))))))))))))))))))))))))))))))))))))))))))))))))))))
def treePbWhole : M (V × St) :=
(.loop 0 3 3 [(.c2 .sub (.var 0) (.num 1)), (.c1 .len (.var 2)), (.var 2)] [((.c2 .le (.num (-1)) (.var 3)), true), ((.c2 .lt (.var 3) (.var 0)), true), ((.c2 .le (.num 0) (.var 4)), true), ((.c2 .le (.var 4) (.num 5000)), true), ((.c2 .eq (.c1 .len (.var 5)) (.var 4)), true), ((.c1 (.kin [.u8]) (.var 5)), true)]
 (.split (.c2 .le (.num 0) (.var 3))
  (.chk (.c2 .le (.c2 .add (.c2 .mul (.var 3) (.num 73)) (.num 73)) (.c1 .len (.var 1)))
  (.split (.c2 .eq (.fn 60 xPbWhole0 (.var 5) .nil) (.num 0))
   (.chk (.c1 (.kin [.u8]) (.fn 61 xPbWhole0 (.var 5) .nil))
   (.chk (.c2 .le (.c1 .len (.fn 61 xPbWhole0 (.var 5) .nil)) (.num 40))
   (.back 0 3 [(.wr .i64 (.c2 .sub (.var 3) (.num 1))), (.c2 .add (.c1 .len (.fn 61 xPbWhole0 (.var 5) .nil)) (.var 4)), (.c2 .app (.fn 61 xPbWhole0 (.var 5) .nil) (.c2 .take (.var 4) (.var 5)))])))
   (.ret (.t [.c (.sn), .c (.b (.bol false))], ⟨[], [], 204, 6, []⟩))))
  (.ret (.t [.c (.s 3 1 0 (.num 0) (.var 4)), .c (.b (.bol true))], ⟨[], [(3, some ⟨true, .row [.u8] (.var 5)⟩)], 4, 6, []⟩))))
theorem treePbWhole_is : funTree (ctxN Go.Proofs.Try.prog annsPb consWhl 8) annsPb 22 (tWhole 3).vs (tWhole 3).bs (tWhole 3).n (preF (tWhole 3).res) = treePbWhole := by kernel_rfl
end Go.Proofs.Ytbiodlomlendkaa.Sx
/- Sx: what Go function 20 does, as a tree of conditions (printed by a tool of this claim, proved by the kernel). Conditions: none. -/
set_option maxRecDepth 100000
namespace Go.Proofs.Ytbiodlomlendkaa.Sx
open Go
def treePbBring : M (V × St) :=
(.split (.c2 .lt (.c2 .rem (.var 0) (.var 1)) (.num 0))
 (.ret (.w (.c (.i .i64 (.wr .i64 (.c2 .add (.c2 .rem (.var 0) (.var 1)) (.var 1))))), ⟨[], [], 0, 2, []⟩))
 (.ret (.w (.c (.i .i64 (.c2 .rem (.var 0) (.var 1)))), ⟨[], [], 0, 2, []⟩)))
theorem treePbBring_is : funTree (ctxN Go.Proofs.Try.prog annsPb [] 8) annsPb 20 tBring.vs tBring.bs tBring.n (preF tBring.res) = treePbBring := by kernel_rfl
end Go.Proofs.Ytbiodlomlendkaa.Sx
/- Sx: what Go function 21 does, as a tree of conditions (printed by a tool of this claim, proved by the kernel). Conditions: none. -/
set_option maxRecDepth 100000
namespace Go.Proofs.Ytbiodlomlendkaa.Sx
open Go
def xPbHeads0 : T := (.cons (.num 0) (.cons (.num 0) (.cons (.num 0) (.cons (.num 0) (.cons (.num 0) (.cons (.num 0) (.cons (.num 0) (.cons (.num 0) (.cons (.num 0) (.cons (.num 0) (.cons (.num 0) (.cons (.num 0) (.cons (.num 0) (.cons (.num 0) (.cons (.num 0) (.cons (.num 0) (.cons (.num 0) (.cons (.num 0) (.cons (.num 0) (.cons (.num 0) (.cons (.num 0) (.cons (.num 0) (.cons (.num 0) (.cons (.num 0) (.cons (.num 0) (.cons (.num 0) (.cons (.num 0) (.cons (.num 0) (.cons (.num 0) (.cons (.num 0) (.cons (.num 0) (.cons (.num 0) (.cons (.num 0) (.cons (.num 0) (.cons (.num 0) (.cons (.num 0) (.cons (.num 0) (.cons (.num 0) (.cons (.num 0) (.cons (.num 0) (.cons (.num 0) (.cons (.num 0) (.cons (.num 0) (.cons (.num 0) .nil))))))))))))))))))))))))))))))))))))))))))))
def xPbHeads1 : T := (.cons (.num 0) (.cons (.num 0) (.cons (.num 0) (.cons (.num 0) (.cons (.num 0) (.cons (.num 0) (.cons (.num 0) (.cons (.num 0) (.cons (.num 0) (.cons (.num 0) (.cons (.num 0) (.cons (.num 0) xPbHeads0))))))))))))
def xPbHeads2 : T := (.cons (.num 1) (.cons (.var 3) (.cons (.var 4) (.cons (.var 5) (.cons (.var 6) (.cons (.var 7) (.cons (.var 8) (.cons (.var 9) (.cons (.var 10) (.cons (.var 11) (.cons (.var 12) (.cons (.var 13) (.cons (.var 14) (.cons (.num 33024) (.cons (.num 0) (.cons (.num 0) (.cons (.num 0) xPbHeads1)))))))))))))))))
def xPbHeads3 : T := (.cons (.var 22) (.cons (.var 23) (.cons (.var 24) (.cons (.var 25) (.cons (.var 26) (.cons (.var 27) (.cons (.var 28) (.cons (.var 29) (.cons (.var 30) xPbHeads0)))))))))
def xPbHeads4 : T := (.cons (.num 5) (.cons (.num 0) (.cons (.num 0) (.cons (.num 0) (.cons (.num 0) (.cons (.num 0) (.cons (.num 0) (.cons (.num 0) (.cons (.num 0) (.cons (.num 0) (.cons (.num 0) (.cons (.num 0) (.cons (.num 0) (.cons (.num 0) (.cons (.num 0) (.cons (.num 0) (.cons (.num 0) (.cons (.num 0) (.cons (.num 0) (.cons (.num 0) (.cons (.num 0) (.cons (.num 0) (.cons (.num 0) (.cons (.num 0) (.cons (.num 0) (.cons (.num 0) (.cons (.num 0) (.cons (.num 0) (.cons (.num 0) (.cons (.num 0) (.cons (.num 0) (.cons (.num 0) (.cons (.num 0) (.cons (.num 0) (.cons (.num 0) (.cons (.num 0) (.cons (.num 0) (.cons (.num 0) (.cons (.num 0) (.cons (.num 0) (.cons (.num 0) (.cons (.num 0) (.cons (.num 0) (.cons (.num 0) (.cons (.num 0) (.cons (.num 0) (.cons (.num 0) (.cons (.num 0) (.cons (.num 0) (.cons (.num 0) (.cons (.num 0) (.cons (.num 0) (.cons (.num 0) (.cons (.num 0) (.cons (.num 0) (.cons (.num 0) (.cons (.num 0) (.cons (.num 0) (.cons (.num 0) (.cons (.num 0) (.cons (.num 0) (.cons (.num 0) (.cons (.num 0) (.cons (.num 0) (.cons (.num 0) (.cons (.var 67) (.cons (.var 68) (.cons (.var 69) (.cons (.var 70) (.cons (.c2 .rem (.var 71) (.num 64)) (.cons (.var 72) (.cons (.num 0) (.cons (.num 0) .nil)))))))))))))))))))))))))))))))))))))))))))))))))))))))))))))))))))))))))
def xPbHeads5 : T := (.cons (.num 1) (.cons (.var 3) (.cons (.var 4) (.cons (.var 5) (.cons (.var 6) (.cons (.var 7) (.cons (.var 8) (.cons (.var 9) (.cons (.var 10) (.cons (.var 11) (.cons (.var 12) (.cons (.var 13) (.cons (.var 14) (.cons (.num 2048) (.cons (.num 0) (.cons (.num 0) (.cons (.num 0) xPbHeads1)))))))))))))))))
def xPbHeads6 : T := (.cons (.num 6) (.cons (.num 0) (.cons (.num 0) (.cons (.num 0) (.cons (.num 0) (.cons (.num 0) (.cons (.num 0) (.cons (.num 0) (.cons (.num 0) (.cons (.num 0) (.cons (.num 0) (.cons (.num 0) (.cons (.num 0) (.cons (.num 0) (.cons (.num 0) (.cons (.num 0) (.cons (.num 0) (.cons (.num 0) (.cons (.num 0) (.cons (.num 0) (.cons (.num 0) (.cons (.num 0) (.cons (.num 0) (.cons (.num 0) (.cons (.num 0) (.cons (.num 0) (.cons (.num 0) (.cons (.num 0) (.cons (.num 0) (.cons (.num 0) (.cons (.num 0) (.cons (.num 0) (.cons (.num 0) (.cons (.num 0) (.cons (.num 0) (.cons (.num 0) (.cons (.num 0) (.cons (.num 0) (.cons (.num 0) (.cons (.num 0) (.cons (.num 0) (.cons (.num 0) (.cons (.num 0) (.cons (.num 0) (.cons (.num 0) (.cons (.num 0) (.cons (.num 0) (.cons (.num 0) (.cons (.num 0) (.cons (.num 0) (.cons (.num 0) (.cons (.num 0) (.cons (.num 0) (.cons (.num 0) (.cons (.num 0) (.cons (.num 0) (.cons (.num 0) (.cons (.num 0) (.cons (.num 0) (.cons (.num 0) (.cons (.num 0) (.cons (.num 0) (.cons (.num 0) (.cons (.num 0) (.cons (.num 0) (.cons (.num 0) (.cons (.num 0) (.cons (.num 0) (.cons (.num 0) (.cons (.num 0) (.cons (.num 0) (.cons (.var 73) (.cons (.var 74) .nil)))))))))))))))))))))))))))))))))))))))))))))))))))))))))))))))))))))))))
def xPbHeads7 : T := (.cons (.var 34) (.cons (.var 35) (.cons (.var 36) (.cons (.var 37) (.cons (.var 38) (.cons (.var 39) (.cons (.var 40) (.cons (.var 41) (.cons (.var 42) (.cons (.var 43) (.cons (.var 44) (.cons (.var 45) (.cons (.var 46) (.cons (.var 47) (.cons (.var 48) (.cons (.var 49) (.cons (.var 50) (.cons (.var 51) (.cons (.var 52) (.cons (.var 53) (.cons (.var 54) (.cons (.var 55) (.cons (.var 56) (.cons (.var 57) (.cons (.var 58) (.cons (.var 59) (.cons (.var 60) (.cons (.var 61) (.cons (.var 62) (.cons (.var 63) (.cons (.var 64) (.cons (.var 65) (.cons (.var 66) (.cons (.num 0) (.cons (.num 0) (.cons (.num 0) (.cons (.num 0) (.cons (.num 0) (.cons (.num 0) (.cons (.num 0) (.cons (.num 0) .nil)))))))))))))))))))))))))))))))))))))))))
def xPbHeads8 : T := (.cons (.num 1) (.cons (.var 3) (.cons (.var 4) (.cons (.var 5) (.cons (.var 6) (.cons (.var 7) (.cons (.var 8) (.cons (.var 9) (.cons (.var 10) (.cons (.var 11) (.cons (.var 12) (.cons (.var 13) (.cons (.var 14) (.cons (.num 34525) (.cons (.num 0) (.cons (.num 0) (.cons (.num 0) xPbHeads1)))))))))))))))))
def xPbHeads9 : T := (.cons (.num 1) (.cons (.var 3) (.cons (.var 4) (.cons (.var 5) (.cons (.var 6) (.cons (.var 7) (.cons (.var 8) (.cons (.var 9) (.cons (.var 10) (.cons (.var 11) (.cons (.var 12) (.cons (.var 13) (.cons (.var 14) (.cons (.num 4660) (.cons (.num 0) (.cons (.num 0) (.cons (.num 0) xPbHeads1)))))))))))))))))
def treePbHeads : M (V × St) :=
(.split (.c2 .eq (.c2 .rem (.var 1) (.num 3)) (.num 1))
 (.split (.c2 .eq (.c2 .rem (.var 2) (.num 3)) (.num 1))
  (.chk (.c2 .le (.num (-9223372036854775808)) (.var 0))
  (.chk (.c2 .le (.var 0) (.num 9223372036854775807))
  (.chk (.c2 .le (.num 0) (.fn 66 (.var 0) (.num 6) .nil))
  (.chk (.c2 .lt (.fn 66 (.var 0) (.num 6) .nil) (.num 6))
  (.split (.c2 .lt (.num 0) (.fn 66 (.var 0) (.num 6) .nil))
   (.loop 0 75 4 [(.num 0), (.num 33024), (.num 1), xPbHeads2] [((.c2 .le (.num 0) (.var 75)), true), ((.c2 .le (.var 75) (.num 5)), true), ((.c2 .le (.num 0) (.var 76)), true), ((.c2 .le (.var 76) (.num 65535)), true), ((.c2 .le (.num 1) (.var 77)), true), ((.c2 .le (.var 77) (.num 6)), true), ((.c2 .eq (.c1 .len (.var 78)) (.c2 .mul (.var 77) (.num 73))), true), ((.c1 (.kin [.u8, .u8, .u8, .u8, .u8, .u8, .u8, .u8, .u8, .u8, .u8, .u8, .u8, .u16, .u8, .u16, .u16, .u8, .u8, .u8, .u16, .u8, .u8, .u8, .u8, .u8, .u8, .u8, .u8, .u8, .u32, .u8, .u8, .u8, .u8, .u8, .u8, .u8, .u8, .u8, .u8, .u8, .u8, .u8, .u8, .u8, .u8, .u8, .u8, .u8, .u8, .u8, .u8, .u8, .u8, .u8, .u8, .u8, .u8, .u8, .u8, .u8, .u8, .u8, .u8, .u16, .u16, .u32, .u32, .u8, .u16, .u16, .u16]) (.var 78)), true)]
    (.split (.c2 .lt (.var 75) (.fn 66 (.var 0) (.num 6) .nil))
     (.split (.c2 .eq (.var 75) (.c2 .sub (.fn 66 (.var 0) (.num 6) .nil) (.num 1)))
      (.back 0 75 [(.c2 .add (.var 75) (.num 1)), (.num 2048), (.c2 .add (.var 77) (.num 1)), (.c2 .app (.c2 .take (.c2 .mul (.var 77) (.num 73)) (.var 78)) (.cons (.num 2) (.cons (.num 0) (.cons (.num 0) (.cons (.num 0) (.cons (.num 0) (.cons (.num 0) (.cons (.num 0) (.cons (.num 0) (.cons (.num 0) (.cons (.num 0) (.cons (.num 0) (.cons (.num 0) (.cons (.num 0) (.cons (.num 0) (.cons (.c2 .rem (.var 16) (.num 8)) (.cons (.c2 .rem (.var 17) (.num 4096)) (.cons (.num 2048) xPbHeads1))))))))))))))))))])
      (.back 0 75 [(.c2 .add (.var 75) (.num 1)), (.var 76), (.c2 .add (.var 77) (.num 1)), (.c2 .app (.c2 .take (.c2 .mul (.var 77) (.num 73)) (.var 78)) (.cons (.num 2) (.cons (.num 0) (.cons (.num 0) (.cons (.num 0) (.cons (.num 0) (.cons (.num 0) (.cons (.num 0) (.cons (.num 0) (.cons (.num 0) (.cons (.num 0) (.cons (.num 0) (.cons (.num 0) (.cons (.num 0) (.cons (.num 0) (.cons (.c2 .rem (.var 16) (.num 8)) (.cons (.c2 .rem (.var 17) (.num 4096)) (.cons (.var 76) xPbHeads1))))))))))))))))))]))
     (.ret (.w (.c (.s 10 73 0 (.num 0) (.c2 .add (.var 77) (.num 2)))), ⟨[], [(10, some ⟨true, .row [.u8, .u8, .u8, .u8, .u8, .u8, .u8, .u8, .u8, .u8, .u8, .u8, .u8, .u16, .u8, .u16, .u16, .u8, .u8, .u8, .u16, .u8, .u8, .u8, .u8, .u8, .u8, .u8, .u8, .u8, .u32, .u8, .u8, .u8, .u8, .u8, .u8, .u8, .u8, .u8, .u8, .u8, .u8, .u8, .u8, .u8, .u8, .u8, .u8, .u8, .u8, .u8, .u8, .u8, .u8, .u8, .u8, .u8, .u8, .u8, .u8, .u8, .u8, .u8, .u8, .u16, .u16, .u32, .u32, .u8, .u16, .u16, .u16] (.c2 .app (.c2 .take (.c2 .mul (.c2 .add (.var 77) (.num 1)) (.num 73)) (.c2 .app (.c2 .take (.c2 .mul (.var 77) (.num 73)) (.var 78)) (.cons (.num 3) (.cons (.num 0) (.cons (.num 0) (.cons (.num 0) (.cons (.num 0) (.cons (.num 0) (.cons (.num 0) (.cons (.num 0) (.cons (.num 0) (.cons (.num 0) (.cons (.num 0) (.cons (.num 0) (.cons (.num 0) (.cons (.num 0) (.cons (.num 0) (.cons (.num 0) (.cons (.num 0) (.cons (.var 19) (.cons (.var 20) (.cons (.num 6) xPbHeads3)))))))))))))))))))))) xPbHeads4)⟩)], 11, 79, []⟩))))
   (.loop 0 75 4 [(.num 0), (.num 2048), (.num 1), xPbHeads5] [((.c2 .le (.num 0) (.var 75)), true), ((.c2 .le (.var 75) (.num 5)), true), ((.c2 .le (.num 0) (.var 76)), true), ((.c2 .le (.var 76) (.num 65535)), true), ((.c2 .le (.num 1) (.var 77)), true), ((.c2 .le (.var 77) (.num 6)), true), ((.c2 .eq (.c1 .len (.var 78)) (.c2 .mul (.var 77) (.num 73))), true), ((.c1 (.kin [.u8, .u8, .u8, .u8, .u8, .u8, .u8, .u8, .u8, .u8, .u8, .u8, .u8, .u16, .u8, .u16, .u16, .u8, .u8, .u8, .u16, .u8, .u8, .u8, .u8, .u8, .u8, .u8, .u8, .u8, .u32, .u8, .u8, .u8, .u8, .u8, .u8, .u8, .u8, .u8, .u8, .u8, .u8, .u8, .u8, .u8, .u8, .u8, .u8, .u8, .u8, .u8, .u8, .u8, .u8, .u8, .u8, .u8, .u8, .u8, .u8, .u8, .u8, .u8, .u8, .u16, .u16, .u32, .u32, .u8, .u16, .u16, .u16]) (.var 78)), true)]
    (.ret (.w (.c (.s 10 73 0 (.num 0) (.c2 .add (.var 77) (.num 2)))), ⟨[], [(10, some ⟨true, .row [.u8, .u8, .u8, .u8, .u8, .u8, .u8, .u8, .u8, .u8, .u8, .u8, .u8, .u16, .u8, .u16, .u16, .u8, .u8, .u8, .u16, .u8, .u8, .u8, .u8, .u8, .u8, .u8, .u8, .u8, .u32, .u8, .u8, .u8, .u8, .u8, .u8, .u8, .u8, .u8, .u8, .u8, .u8, .u8, .u8, .u8, .u8, .u8, .u8, .u8, .u8, .u8, .u8, .u8, .u8, .u8, .u8, .u8, .u8, .u8, .u8, .u8, .u8, .u8, .u8, .u16, .u16, .u32, .u32, .u8, .u16, .u16, .u16] (.c2 .app (.c2 .take (.c2 .mul (.c2 .add (.var 77) (.num 1)) (.num 73)) (.c2 .app (.c2 .take (.c2 .mul (.var 77) (.num 73)) (.var 78)) (.cons (.num 3) (.cons (.num 0) (.cons (.num 0) (.cons (.num 0) (.cons (.num 0) (.cons (.num 0) (.cons (.num 0) (.cons (.num 0) (.cons (.num 0) (.cons (.num 0) (.cons (.num 0) (.cons (.num 0) (.cons (.num 0) (.cons (.num 0) (.cons (.num 0) (.cons (.num 0) (.cons (.num 0) (.cons (.var 19) (.cons (.var 20) (.cons (.num 6) xPbHeads3)))))))))))))))))))))) xPbHeads4)⟩)], 11, 79, []⟩))))))))
  (.split (.c2 .eq (.c2 .rem (.var 2) (.num 3)) (.num 2))
   (.chk (.c2 .le (.num (-9223372036854775808)) (.var 0))
   (.chk (.c2 .le (.var 0) (.num 9223372036854775807))
   (.chk (.c2 .le (.num 0) (.fn 66 (.var 0) (.num 6) .nil))
   (.chk (.c2 .lt (.fn 66 (.var 0) (.num 6) .nil) (.num 6))
   (.split (.c2 .lt (.num 0) (.fn 66 (.var 0) (.num 6) .nil))
    (.loop 0 75 4 [(.num 0), (.num 33024), (.num 1), xPbHeads2] [((.c2 .le (.num 0) (.var 75)), true), ((.c2 .le (.var 75) (.num 5)), true), ((.c2 .le (.num 0) (.var 76)), true), ((.c2 .le (.var 76) (.num 65535)), true), ((.c2 .le (.num 1) (.var 77)), true), ((.c2 .le (.var 77) (.num 6)), true), ((.c2 .eq (.c1 .len (.var 78)) (.c2 .mul (.var 77) (.num 73))), true), ((.c1 (.kin [.u8, .u8, .u8, .u8, .u8, .u8, .u8, .u8, .u8, .u8, .u8, .u8, .u8, .u16, .u8, .u16, .u16, .u8, .u8, .u8, .u16, .u8, .u8, .u8, .u8, .u8, .u8, .u8, .u8, .u8, .u32, .u8, .u8, .u8, .u8, .u8, .u8, .u8, .u8, .u8, .u8, .u8, .u8, .u8, .u8, .u8, .u8, .u8, .u8, .u8, .u8, .u8, .u8, .u8, .u8, .u8, .u8, .u8, .u8, .u8, .u8, .u8, .u8, .u8, .u8, .u16, .u16, .u32, .u32, .u8, .u16, .u16, .u16]) (.var 78)), true)]
     (.split (.c2 .lt (.var 75) (.fn 66 (.var 0) (.num 6) .nil))
      (.split (.c2 .eq (.var 75) (.c2 .sub (.fn 66 (.var 0) (.num 6) .nil) (.num 1)))
       (.back 0 75 [(.c2 .add (.var 75) (.num 1)), (.num 2048), (.c2 .add (.var 77) (.num 1)), (.c2 .app (.c2 .take (.c2 .mul (.var 77) (.num 73)) (.var 78)) (.cons (.num 2) (.cons (.num 0) (.cons (.num 0) (.cons (.num 0) (.cons (.num 0) (.cons (.num 0) (.cons (.num 0) (.cons (.num 0) (.cons (.num 0) (.cons (.num 0) (.cons (.num 0) (.cons (.num 0) (.cons (.num 0) (.cons (.num 0) (.cons (.c2 .rem (.var 16) (.num 8)) (.cons (.c2 .rem (.var 17) (.num 4096)) (.cons (.num 2048) xPbHeads1))))))))))))))))))])
       (.back 0 75 [(.c2 .add (.var 75) (.num 1)), (.var 76), (.c2 .add (.var 77) (.num 1)), (.c2 .app (.c2 .take (.c2 .mul (.var 77) (.num 73)) (.var 78)) (.cons (.num 2) (.cons (.num 0) (.cons (.num 0) (.cons (.num 0) (.cons (.num 0) (.cons (.num 0) (.cons (.num 0) (.cons (.num 0) (.cons (.num 0) (.cons (.num 0) (.cons (.num 0) (.cons (.num 0) (.cons (.num 0) (.cons (.num 0) (.cons (.c2 .rem (.var 16) (.num 8)) (.cons (.c2 .rem (.var 17) (.num 4096)) (.cons (.var 76) xPbHeads1))))))))))))))))))]))
      (.ret (.w (.c (.s 9 73 0 (.num 0) (.c2 .add (.var 77) (.num 2)))), ⟨[], [(9, some ⟨true, .row [.u8, .u8, .u8, .u8, .u8, .u8, .u8, .u8, .u8, .u8, .u8, .u8, .u8, .u16, .u8, .u16, .u16, .u8, .u8, .u8, .u16, .u8, .u8, .u8, .u8, .u8, .u8, .u8, .u8, .u8, .u32, .u8, .u8, .u8, .u8, .u8, .u8, .u8, .u8, .u8, .u8, .u8, .u8, .u8, .u8, .u8, .u8, .u8, .u8, .u8, .u8, .u8, .u8, .u8, .u8, .u8, .u8, .u8, .u8, .u8, .u8, .u8, .u8, .u8, .u8, .u16, .u16, .u32, .u32, .u8, .u16, .u16, .u16] (.c2 .app (.c2 .take (.c2 .mul (.c2 .add (.var 77) (.num 1)) (.num 73)) (.c2 .app (.c2 .take (.c2 .mul (.var 77) (.num 73)) (.var 78)) (.cons (.num 3) (.cons (.num 0) (.cons (.num 0) (.cons (.num 0) (.cons (.num 0) (.cons (.num 0) (.cons (.num 0) (.cons (.num 0) (.cons (.num 0) (.cons (.num 0) (.cons (.num 0) (.cons (.num 0) (.cons (.num 0) (.cons (.num 0) (.cons (.num 0) (.cons (.num 0) (.cons (.num 0) (.cons (.var 19) (.cons (.var 20) (.cons (.num 17) xPbHeads3)))))))))))))))))))))) xPbHeads6)⟩)], 10, 79, []⟩))))
    (.loop 0 75 4 [(.num 0), (.num 2048), (.num 1), xPbHeads5] [((.c2 .le (.num 0) (.var 75)), true), ((.c2 .le (.var 75) (.num 5)), true), ((.c2 .le (.num 0) (.var 76)), true), ((.c2 .le (.var 76) (.num 65535)), true), ((.c2 .le (.num 1) (.var 77)), true), ((.c2 .le (.var 77) (.num 6)), true), ((.c2 .eq (.c1 .len (.var 78)) (.c2 .mul (.var 77) (.num 73))), true), ((.c1 (.kin [.u8, .u8, .u8, .u8, .u8, .u8, .u8, .u8, .u8, .u8, .u8, .u8, .u8, .u16, .u8, .u16, .u16, .u8, .u8, .u8, .u16, .u8, .u8, .u8, .u8, .u8, .u8, .u8, .u8, .u8, .u32, .u8, .u8, .u8, .u8, .u8, .u8, .u8, .u8, .u8, .u8, .u8, .u8, .u8, .u8, .u8, .u8, .u8, .u8, .u8, .u8, .u8, .u8, .u8, .u8, .u8, .u8, .u8, .u8, .u8, .u8, .u8, .u8, .u8, .u8, .u16, .u16, .u32, .u32, .u8, .u16, .u16, .u16]) (.var 78)), true)]
     (.ret (.w (.c (.s 9 73 0 (.num 0) (.c2 .add (.var 77) (.num 2)))), ⟨[], [(9, some ⟨true, .row [.u8, .u8, .u8, .u8, .u8, .u8, .u8, .u8, .u8, .u8, .u8, .u8, .u8, .u16, .u8, .u16, .u16, .u8, .u8, .u8, .u16, .u8, .u8, .u8, .u8, .u8, .u8, .u8, .u8, .u8, .u32, .u8, .u8, .u8, .u8, .u8, .u8, .u8, .u8, .u8, .u8, .u8, .u8, .u8, .u8, .u8, .u8, .u8, .u8, .u8, .u8, .u8, .u8, .u8, .u8, .u8, .u8, .u8, .u8, .u8, .u8, .u8, .u8, .u8, .u8, .u16, .u16, .u32, .u32, .u8, .u16, .u16, .u16] (.c2 .app (.c2 .take (.c2 .mul (.c2 .add (.var 77) (.num 1)) (.num 73)) (.c2 .app (.c2 .take (.c2 .mul (.var 77) (.num 73)) (.var 78)) (.cons (.num 3) (.cons (.num 0) (.cons (.num 0) (.cons (.num 0) (.cons (.num 0) (.cons (.num 0) (.cons (.num 0) (.cons (.num 0) (.cons (.num 0) (.cons (.num 0) (.cons (.num 0) (.cons (.num 0) (.cons (.num 0) (.cons (.num 0) (.cons (.num 0) (.cons (.num 0) (.cons (.num 0) (.cons (.var 19) (.cons (.var 20) (.cons (.num 17) xPbHeads3)))))))))))))))))))))) xPbHeads6)⟩)], 10, 79, []⟩))))))))
   (.chk (.c2 .le (.num (-9223372036854775808)) (.var 0))
   (.chk (.c2 .le (.var 0) (.num 9223372036854775807))
   (.chk (.c2 .le (.num 0) (.fn 66 (.var 0) (.num 6) .nil))
   (.chk (.c2 .lt (.fn 66 (.var 0) (.num 6) .nil) (.num 6))
   (.split (.c2 .lt (.num 0) (.fn 66 (.var 0) (.num 6) .nil))
    (.loop 0 75 4 [(.num 0), (.num 33024), (.num 1), xPbHeads2] [((.c2 .le (.num 0) (.var 75)), true), ((.c2 .le (.var 75) (.num 5)), true), ((.c2 .le (.num 0) (.var 76)), true), ((.c2 .le (.var 76) (.num 65535)), true), ((.c2 .le (.num 1) (.var 77)), true), ((.c2 .le (.var 77) (.num 6)), true), ((.c2 .eq (.c1 .len (.var 78)) (.c2 .mul (.var 77) (.num 73))), true), ((.c1 (.kin [.u8, .u8, .u8, .u8, .u8, .u8, .u8, .u8, .u8, .u8, .u8, .u8, .u8, .u16, .u8, .u16, .u16, .u8, .u8, .u8, .u16, .u8, .u8, .u8, .u8, .u8, .u8, .u8, .u8, .u8, .u32, .u8, .u8, .u8, .u8, .u8, .u8, .u8, .u8, .u8, .u8, .u8, .u8, .u8, .u8, .u8, .u8, .u8, .u8, .u8, .u8, .u8, .u8, .u8, .u8, .u8, .u8, .u8, .u8, .u8, .u8, .u8, .u8, .u8, .u8, .u16, .u16, .u32, .u32, .u8, .u16, .u16, .u16]) (.var 78)), true)]
     (.split (.c2 .lt (.var 75) (.fn 66 (.var 0) (.num 6) .nil))
      (.split (.c2 .eq (.var 75) (.c2 .sub (.fn 66 (.var 0) (.num 6) .nil) (.num 1)))
       (.back 0 75 [(.c2 .add (.var 75) (.num 1)), (.num 2048), (.c2 .add (.var 77) (.num 1)), (.c2 .app (.c2 .take (.c2 .mul (.var 77) (.num 73)) (.var 78)) (.cons (.num 2) (.cons (.num 0) (.cons (.num 0) (.cons (.num 0) (.cons (.num 0) (.cons (.num 0) (.cons (.num 0) (.cons (.num 0) (.cons (.num 0) (.cons (.num 0) (.cons (.num 0) (.cons (.num 0) (.cons (.num 0) (.cons (.num 0) (.cons (.c2 .rem (.var 16) (.num 8)) (.cons (.c2 .rem (.var 17) (.num 4096)) (.cons (.num 2048) xPbHeads1))))))))))))))))))])
       (.back 0 75 [(.c2 .add (.var 75) (.num 1)), (.var 76), (.c2 .add (.var 77) (.num 1)), (.c2 .app (.c2 .take (.c2 .mul (.var 77) (.num 73)) (.var 78)) (.cons (.num 2) (.cons (.num 0) (.cons (.num 0) (.cons (.num 0) (.cons (.num 0) (.cons (.num 0) (.cons (.num 0) (.cons (.num 0) (.cons (.num 0) (.cons (.num 0) (.cons (.num 0) (.cons (.num 0) (.cons (.num 0) (.cons (.num 0) (.cons (.c2 .rem (.var 16) (.num 8)) (.cons (.c2 .rem (.var 17) (.num 4096)) (.cons (.var 76) xPbHeads1))))))))))))))))))]))
      (.ret (.w (.c (.s 7 73 0 (.num 0) (.c2 .add (.var 77) (.num 1)))), ⟨[], [(7, some ⟨true, .row [.u8, .u8, .u8, .u8, .u8, .u8, .u8, .u8, .u8, .u8, .u8, .u8, .u8, .u16, .u8, .u16, .u16, .u8, .u8, .u8, .u16, .u8, .u8, .u8, .u8, .u8, .u8, .u8, .u8, .u8, .u32, .u8, .u8, .u8, .u8, .u8, .u8, .u8, .u8, .u8, .u8, .u8, .u8, .u8, .u8, .u8, .u8, .u8, .u8, .u8, .u8, .u8, .u8, .u8, .u8, .u8, .u8, .u8, .u8, .u8, .u8, .u8, .u8, .u8, .u8, .u16, .u16, .u32, .u32, .u8, .u16, .u16, .u16] (.c2 .app (.c2 .take (.c2 .mul (.var 77) (.num 73)) (.var 78)) (.cons (.num 3) (.cons (.num 0) (.cons (.num 0) (.cons (.num 0) (.cons (.num 0) (.cons (.num 0) (.cons (.num 0) (.cons (.num 0) (.cons (.num 0) (.cons (.num 0) (.cons (.num 0) (.cons (.num 0) (.cons (.num 0) (.cons (.num 0) (.cons (.num 0) (.cons (.num 0) (.cons (.num 0) (.cons (.var 19) (.cons (.var 20) (.cons (.num 99) xPbHeads3)))))))))))))))))))))⟩)], 8, 79, []⟩))))
    (.loop 0 75 4 [(.num 0), (.num 2048), (.num 1), xPbHeads5] [((.c2 .le (.num 0) (.var 75)), true), ((.c2 .le (.var 75) (.num 5)), true), ((.c2 .le (.num 0) (.var 76)), true), ((.c2 .le (.var 76) (.num 65535)), true), ((.c2 .le (.num 1) (.var 77)), true), ((.c2 .le (.var 77) (.num 6)), true), ((.c2 .eq (.c1 .len (.var 78)) (.c2 .mul (.var 77) (.num 73))), true), ((.c1 (.kin [.u8, .u8, .u8, .u8, .u8, .u8, .u8, .u8, .u8, .u8, .u8, .u8, .u8, .u16, .u8, .u16, .u16, .u8, .u8, .u8, .u16, .u8, .u8, .u8, .u8, .u8, .u8, .u8, .u8, .u8, .u32, .u8, .u8, .u8, .u8, .u8, .u8, .u8, .u8, .u8, .u8, .u8, .u8, .u8, .u8, .u8, .u8, .u8, .u8, .u8, .u8, .u8, .u8, .u8, .u8, .u8, .u8, .u8, .u8, .u8, .u8, .u8, .u8, .u8, .u8, .u16, .u16, .u32, .u32, .u8, .u16, .u16, .u16]) (.var 78)), true)]
     (.ret (.w (.c (.s 7 73 0 (.num 0) (.c2 .add (.var 77) (.num 1)))), ⟨[], [(7, some ⟨true, .row [.u8, .u8, .u8, .u8, .u8, .u8, .u8, .u8, .u8, .u8, .u8, .u8, .u8, .u16, .u8, .u16, .u16, .u8, .u8, .u8, .u16, .u8, .u8, .u8, .u8, .u8, .u8, .u8, .u8, .u8, .u32, .u8, .u8, .u8, .u8, .u8, .u8, .u8, .u8, .u8, .u8, .u8, .u8, .u8, .u8, .u8, .u8, .u8, .u8, .u8, .u8, .u8, .u8, .u8, .u8, .u8, .u8, .u8, .u8, .u8, .u8, .u8, .u8, .u8, .u8, .u16, .u16, .u32, .u32, .u8, .u16, .u16, .u16] (.c2 .app (.c2 .take (.c2 .mul (.var 77) (.num 73)) (.var 78)) (.cons (.num 3) (.cons (.num 0) (.cons (.num 0) (.cons (.num 0) (.cons (.num 0) (.cons (.num 0) (.cons (.num 0) (.cons (.num 0) (.cons (.num 0) (.cons (.num 0) (.cons (.num 0) (.cons (.num 0) (.cons (.num 0) (.cons (.num 0) (.cons (.num 0) (.cons (.num 0) (.cons (.num 0) (.cons (.var 19) (.cons (.var 20) (.cons (.num 99) xPbHeads3)))))))))))))))))))))⟩)], 8, 79, []⟩))))))))))
 (.split (.c2 .eq (.c2 .rem (.var 1) (.num 3)) (.num 2))
  (.split (.c2 .eq (.c2 .rem (.var 2) (.num 3)) (.num 1))
   (.chk (.c2 .le (.num (-9223372036854775808)) (.var 0))
   (.chk (.c2 .le (.var 0) (.num 9223372036854775807))
   (.chk (.c2 .le (.num 0) (.fn 66 (.var 0) (.num 6) .nil))
   (.chk (.c2 .lt (.fn 66 (.var 0) (.num 6) .nil) (.num 6))
   (.split (.c2 .lt (.num 0) (.fn 66 (.var 0) (.num 6) .nil))
    (.loop 0 75 4 [(.num 0), (.num 33024), (.num 1), xPbHeads2] [((.c2 .le (.num 0) (.var 75)), true), ((.c2 .le (.var 75) (.num 5)), true), ((.c2 .le (.num 0) (.var 76)), true), ((.c2 .le (.var 76) (.num 65535)), true), ((.c2 .le (.num 1) (.var 77)), true), ((.c2 .le (.var 77) (.num 6)), true), ((.c2 .eq (.c1 .len (.var 78)) (.c2 .mul (.var 77) (.num 73))), true), ((.c1 (.kin [.u8, .u8, .u8, .u8, .u8, .u8, .u8, .u8, .u8, .u8, .u8, .u8, .u8, .u16, .u8, .u16, .u16, .u8, .u8, .u8, .u16, .u8, .u8, .u8, .u8, .u8, .u8, .u8, .u8, .u8, .u32, .u8, .u8, .u8, .u8, .u8, .u8, .u8, .u8, .u8, .u8, .u8, .u8, .u8, .u8, .u8, .u8, .u8, .u8, .u8, .u8, .u8, .u8, .u8, .u8, .u8, .u8, .u8, .u8, .u8, .u8, .u8, .u8, .u8, .u8, .u16, .u16, .u32, .u32, .u8, .u16, .u16, .u16]) (.var 78)), true)]
     (.split (.c2 .lt (.var 75) (.fn 66 (.var 0) (.num 6) .nil))
      (.split (.c2 .eq (.var 75) (.c2 .sub (.fn 66 (.var 0) (.num 6) .nil) (.num 1)))
       (.back 0 75 [(.c2 .add (.var 75) (.num 1)), (.num 34525), (.c2 .add (.var 77) (.num 1)), (.c2 .app (.c2 .take (.c2 .mul (.var 77) (.num 73)) (.var 78)) (.cons (.num 2) (.cons (.num 0) (.cons (.num 0) (.cons (.num 0) (.cons (.num 0) (.cons (.num 0) (.cons (.num 0) (.cons (.num 0) (.cons (.num 0) (.cons (.num 0) (.cons (.num 0) (.cons (.num 0) (.cons (.num 0) (.cons (.num 0) (.cons (.c2 .rem (.var 16) (.num 8)) (.cons (.c2 .rem (.var 17) (.num 4096)) (.cons (.num 34525) xPbHeads1))))))))))))))))))])
       (.back 0 75 [(.c2 .add (.var 75) (.num 1)), (.var 76), (.c2 .add (.var 77) (.num 1)), (.c2 .app (.c2 .take (.c2 .mul (.var 77) (.num 73)) (.var 78)) (.cons (.num 2) (.cons (.num 0) (.cons (.num 0) (.cons (.num 0) (.cons (.num 0) (.cons (.num 0) (.cons (.num 0) (.cons (.num 0) (.cons (.num 0) (.cons (.num 0) (.cons (.num 0) (.cons (.num 0) (.cons (.num 0) (.cons (.num 0) (.cons (.c2 .rem (.var 16) (.num 8)) (.cons (.c2 .rem (.var 17) (.num 4096)) (.cons (.var 76) xPbHeads1))))))))))))))))))]))
      (.ret (.w (.c (.s 10 73 0 (.num 0) (.c2 .add (.var 77) (.num 2)))), ⟨[], [(10, some ⟨true, .row [.u8, .u8, .u8, .u8, .u8, .u8, .u8, .u8, .u8, .u8, .u8, .u8, .u8, .u16, .u8, .u16, .u16, .u8, .u8, .u8, .u16, .u8, .u8, .u8, .u8, .u8, .u8, .u8, .u8, .u8, .u32, .u8, .u8, .u8, .u8, .u8, .u8, .u8, .u8, .u8, .u8, .u8, .u8, .u8, .u8, .u8, .u8, .u8, .u8, .u8, .u8, .u8, .u8, .u8, .u8, .u8, .u8, .u8, .u8, .u8, .u8, .u8, .u8, .u8, .u8, .u16, .u16, .u32, .u32, .u8, .u16, .u16, .u16] (.c2 .app (.c2 .take (.c2 .mul (.c2 .add (.var 77) (.num 1)) (.num 73)) (.c2 .app (.c2 .take (.c2 .mul (.var 77) (.num 73)) (.var 78)) (.cons (.num 4) (.cons (.num 0) (.cons (.num 0) (.cons (.num 0) (.cons (.num 0) (.cons (.num 0) (.cons (.num 0) (.cons (.num 0) (.cons (.num 0) (.cons (.num 0) (.cons (.num 0) (.cons (.num 0) (.cons (.num 0) (.cons (.num 0) (.cons (.num 0) (.cons (.num 0) (.cons (.num 0) (.cons (.num 0) (.cons (.num 0) (.cons (.num 0) (.cons (.num 0) (.cons (.num 0) (.cons (.num 0) (.cons (.num 0) (.cons (.num 0) (.cons (.num 0) (.cons (.num 0) (.cons (.num 0) (.cons (.num 0) (.cons (.var 31) (.cons (.c2 .rem (.var 32) (.num 1048576)) (.cons (.num 6) xPbHeads7)))))))))))))))))))))))))))))))))) xPbHeads4)⟩)], 11, 79, []⟩))))
    (.loop 0 75 4 [(.num 0), (.num 34525), (.num 1), xPbHeads8] [((.c2 .le (.num 0) (.var 75)), true), ((.c2 .le (.var 75) (.num 5)), true), ((.c2 .le (.num 0) (.var 76)), true), ((.c2 .le (.var 76) (.num 65535)), true), ((.c2 .le (.num 1) (.var 77)), true), ((.c2 .le (.var 77) (.num 6)), true), ((.c2 .eq (.c1 .len (.var 78)) (.c2 .mul (.var 77) (.num 73))), true), ((.c1 (.kin [.u8, .u8, .u8, .u8, .u8, .u8, .u8, .u8, .u8, .u8, .u8, .u8, .u8, .u16, .u8, .u16, .u16, .u8, .u8, .u8, .u16, .u8, .u8, .u8, .u8, .u8, .u8, .u8, .u8, .u8, .u32, .u8, .u8, .u8, .u8, .u8, .u8, .u8, .u8, .u8, .u8, .u8, .u8, .u8, .u8, .u8, .u8, .u8, .u8, .u8, .u8, .u8, .u8, .u8, .u8, .u8, .u8, .u8, .u8, .u8, .u8, .u8, .u8, .u8, .u8, .u16, .u16, .u32, .u32, .u8, .u16, .u16, .u16]) (.var 78)), true)]
     (.ret (.w (.c (.s 10 73 0 (.num 0) (.c2 .add (.var 77) (.num 2)))), ⟨[], [(10, some ⟨true, .row [.u8, .u8, .u8, .u8, .u8, .u8, .u8, .u8, .u8, .u8, .u8, .u8, .u8, .u16, .u8, .u16, .u16, .u8, .u8, .u8, .u16, .u8, .u8, .u8, .u8, .u8, .u8, .u8, .u8, .u8, .u32, .u8, .u8, .u8, .u8, .u8, .u8, .u8, .u8, .u8, .u8, .u8, .u8, .u8, .u8, .u8, .u8, .u8, .u8, .u8, .u8, .u8, .u8, .u8, .u8, .u8, .u8, .u8, .u8, .u8, .u8, .u8, .u8, .u8, .u8, .u16, .u16, .u32, .u32, .u8, .u16, .u16, .u16] (.c2 .app (.c2 .take (.c2 .mul (.c2 .add (.var 77) (.num 1)) (.num 73)) (.c2 .app (.c2 .take (.c2 .mul (.var 77) (.num 73)) (.var 78)) (.cons (.num 4) (.cons (.num 0) (.cons (.num 0) (.cons (.num 0) (.cons (.num 0) (.cons (.num 0) (.cons (.num 0) (.cons (.num 0) (.cons (.num 0) (.cons (.num 0) (.cons (.num 0) (.cons (.num 0) (.cons (.num 0) (.cons (.num 0) (.cons (.num 0) (.cons (.num 0) (.cons (.num 0) (.cons (.num 0) (.cons (.num 0) (.cons (.num 0) (.cons (.num 0) (.cons (.num 0) (.cons (.num 0) (.cons (.num 0) (.cons (.num 0) (.cons (.num 0) (.cons (.num 0) (.cons (.num 0) (.cons (.num 0) (.cons (.var 31) (.cons (.c2 .rem (.var 32) (.num 1048576)) (.cons (.num 6) xPbHeads7)))))))))))))))))))))))))))))))))) xPbHeads4)⟩)], 11, 79, []⟩))))))))
   (.split (.c2 .eq (.c2 .rem (.var 2) (.num 3)) (.num 2))
    (.chk (.c2 .le (.num (-9223372036854775808)) (.var 0))
    (.chk (.c2 .le (.var 0) (.num 9223372036854775807))
    (.chk (.c2 .le (.num 0) (.fn 66 (.var 0) (.num 6) .nil))
    (.chk (.c2 .lt (.fn 66 (.var 0) (.num 6) .nil) (.num 6))
    (.split (.c2 .lt (.num 0) (.fn 66 (.var 0) (.num 6) .nil))
     (.loop 0 75 4 [(.num 0), (.num 33024), (.num 1), xPbHeads2] [((.c2 .le (.num 0) (.var 75)), true), ((.c2 .le (.var 75) (.num 5)), true), ((.c2 .le (.num 0) (.var 76)), true), ((.c2 .le (.var 76) (.num 65535)), true), ((.c2 .le (.num 1) (.var 77)), true), ((.c2 .le (.var 77) (.num 6)), true), ((.c2 .eq (.c1 .len (.var 78)) (.c2 .mul (.var 77) (.num 73))), true), ((.c1 (.kin [.u8, .u8, .u8, .u8, .u8, .u8, .u8, .u8, .u8, .u8, .u8, .u8, .u8, .u16, .u8, .u16, .u16, .u8, .u8, .u8, .u16, .u8, .u8, .u8, .u8, .u8, .u8, .u8, .u8, .u8, .u32, .u8, .u8, .u8, .u8, .u8, .u8, .u8, .u8, .u8, .u8, .u8, .u8, .u8, .u8, .u8, .u8, .u8, .u8, .u8, .u8, .u8, .u8, .u8, .u8, .u8, .u8, .u8, .u8, .u8, .u8, .u8, .u8, .u8, .u8, .u16, .u16, .u32, .u32, .u8, .u16, .u16, .u16]) (.var 78)), true)]
      (.split (.c2 .lt (.var 75) (.fn 66 (.var 0) (.num 6) .nil))
       (.split (.c2 .eq (.var 75) (.c2 .sub (.fn 66 (.var 0) (.num 6) .nil) (.num 1)))
        (.back 0 75 [(.c2 .add (.var 75) (.num 1)), (.num 34525), (.c2 .add (.var 77) (.num 1)), (.c2 .app (.c2 .take (.c2 .mul (.var 77) (.num 73)) (.var 78)) (.cons (.num 2) (.cons (.num 0) (.cons (.num 0) (.cons (.num 0) (.cons (.num 0) (.cons (.num 0) (.cons (.num 0) (.cons (.num 0) (.cons (.num 0) (.cons (.num 0) (.cons (.num 0) (.cons (.num 0) (.cons (.num 0) (.cons (.num 0) (.cons (.c2 .rem (.var 16) (.num 8)) (.cons (.c2 .rem (.var 17) (.num 4096)) (.cons (.num 34525) xPbHeads1))))))))))))))))))])
        (.back 0 75 [(.c2 .add (.var 75) (.num 1)), (.var 76), (.c2 .add (.var 77) (.num 1)), (.c2 .app (.c2 .take (.c2 .mul (.var 77) (.num 73)) (.var 78)) (.cons (.num 2) (.cons (.num 0) (.cons (.num 0) (.cons (.num 0) (.cons (.num 0) (.cons (.num 0) (.cons (.num 0) (.cons (.num 0) (.cons (.num 0) (.cons (.num 0) (.cons (.num 0) (.cons (.num 0) (.cons (.num 0) (.cons (.num 0) (.cons (.c2 .rem (.var 16) (.num 8)) (.cons (.c2 .rem (.var 17) (.num 4096)) (.cons (.var 76) xPbHeads1))))))))))))))))))]))
       (.ret (.w (.c (.s 9 73 0 (.num 0) (.c2 .add (.var 77) (.num 2)))), ⟨[], [(9, some ⟨true, .row [.u8, .u8, .u8, .u8, .u8, .u8, .u8, .u8, .u8, .u8, .u8, .u8, .u8, .u16, .u8, .u16, .u16, .u8, .u8, .u8, .u16, .u8, .u8, .u8, .u8, .u8, .u8, .u8, .u8, .u8, .u32, .u8, .u8, .u8, .u8, .u8, .u8, .u8, .u8, .u8, .u8, .u8, .u8, .u8, .u8, .u8, .u8, .u8, .u8, .u8, .u8, .u8, .u8, .u8, .u8, .u8, .u8, .u8, .u8, .u8, .u8, .u8, .u8, .u8, .u8, .u16, .u16, .u32, .u32, .u8, .u16, .u16, .u16] (.c2 .app (.c2 .take (.c2 .mul (.c2 .add (.var 77) (.num 1)) (.num 73)) (.c2 .app (.c2 .take (.c2 .mul (.var 77) (.num 73)) (.var 78)) (.cons (.num 4) (.cons (.num 0) (.cons (.num 0) (.cons (.num 0) (.cons (.num 0) (.cons (.num 0) (.cons (.num 0) (.cons (.num 0) (.cons (.num 0) (.cons (.num 0) (.cons (.num 0) (.cons (.num 0) (.cons (.num 0) (.cons (.num 0) (.cons (.num 0) (.cons (.num 0) (.cons (.num 0) (.cons (.num 0) (.cons (.num 0) (.cons (.num 0) (.cons (.num 0) (.cons (.num 0) (.cons (.num 0) (.cons (.num 0) (.cons (.num 0) (.cons (.num 0) (.cons (.num 0) (.cons (.num 0) (.cons (.num 0) (.cons (.var 31) (.cons (.c2 .rem (.var 32) (.num 1048576)) (.cons (.num 17) xPbHeads7)))))))))))))))))))))))))))))))))) xPbHeads6)⟩)], 10, 79, []⟩))))
     (.loop 0 75 4 [(.num 0), (.num 34525), (.num 1), xPbHeads8] [((.c2 .le (.num 0) (.var 75)), true), ((.c2 .le (.var 75) (.num 5)), true), ((.c2 .le (.num 0) (.var 76)), true), ((.c2 .le (.var 76) (.num 65535)), true), ((.c2 .le (.num 1) (.var 77)), true), ((.c2 .le (.var 77) (.num 6)), true), ((.c2 .eq (.c1 .len (.var 78)) (.c2 .mul (.var 77) (.num 73))), true), ((.c1 (.kin [.u8, .u8, .u8, .u8, .u8, .u8, .u8, .u8, .u8, .u8, .u8, .u8, .u8, .u16, .u8, .u16, .u16, .u8, .u8, .u8, .u16, .u8, .u8, .u8, .u8, .u8, .u8, .u8, .u8, .u8, .u32, .u8, .u8, .u8, .u8, .u8, .u8, .u8, .u8, .u8, .u8, .u8, .u8, .u8, .u8, .u8, .u8, .u8, .u8, .u8, .u8, .u8, .u8, .u8, .u8, .u8, .u8, .u8, .u8, .u8, .u8, .u8, .u8, .u8, .u8, .u16, .u16, .u32, .u32, .u8, .u16, .u16, .u16]) (.var 78)), true)]
      (.ret (.w (.c (.s 9 73 0 (.num 0) (.c2 .add (.var 77) (.num 2)))), ⟨[], [(9, some ⟨true, .row [.u8, .u8, .u8, .u8, .u8, .u8, .u8, .u8, .u8, .u8, .u8, .u8, .u8, .u16, .u8, .u16, .u16, .u8, .u8, .u8, .u16, .u8, .u8, .u8, .u8, .u8, .u8, .u8, .u8, .u8, .u32, .u8, .u8, .u8, .u8, .u8, .u8, .u8, .u8, .u8, .u8, .u8, .u8, .u8, .u8, .u8, .u8, .u8, .u8, .u8, .u8, .u8, .u8, .u8, .u8, .u8, .u8, .u8, .u8, .u8, .u8, .u8, .u8, .u8, .u8, .u16, .u16, .u32, .u32, .u8, .u16, .u16, .u16] (.c2 .app (.c2 .take (.c2 .mul (.c2 .add (.var 77) (.num 1)) (.num 73)) (.c2 .app (.c2 .take (.c2 .mul (.var 77) (.num 73)) (.var 78)) (.cons (.num 4) (.cons (.num 0) (.cons (.num 0) (.cons (.num 0) (.cons (.num 0) (.cons (.num 0) (.cons (.num 0) (.cons (.num 0) (.cons (.num 0) (.cons (.num 0) (.cons (.num 0) (.cons (.num 0) (.cons (.num 0) (.cons (.num 0) (.cons (.num 0) (.cons (.num 0) (.cons (.num 0) (.cons (.num 0) (.cons (.num 0) (.cons (.num 0) (.cons (.num 0) (.cons (.num 0) (.cons (.num 0) (.cons (.num 0) (.cons (.num 0) (.cons (.num 0) (.cons (.num 0) (.cons (.num 0) (.cons (.num 0) (.cons (.var 31) (.cons (.c2 .rem (.var 32) (.num 1048576)) (.cons (.num 17) xPbHeads7)))))))))))))))))))))))))))))))))) xPbHeads6)⟩)], 10, 79, []⟩))))))))
    (.chk (.c2 .le (.num (-9223372036854775808)) (.var 0))
    (.chk (.c2 .le (.var 0) (.num 9223372036854775807))
    (.chk (.c2 .le (.num 0) (.fn 66 (.var 0) (.num 6) .nil))
    (.chk (.c2 .lt (.fn 66 (.var 0) (.num 6) .nil) (.num 6))
    (.split (.c2 .lt (.num 0) (.fn 66 (.var 0) (.num 6) .nil))
     (.loop 0 75 4 [(.num 0), (.num 33024), (.num 1), xPbHeads2] [((.c2 .le (.num 0) (.var 75)), true), ((.c2 .le (.var 75) (.num 5)), true), ((.c2 .le (.num 0) (.var 76)), true), ((.c2 .le (.var 76) (.num 65535)), true), ((.c2 .le (.num 1) (.var 77)), true), ((.c2 .le (.var 77) (.num 6)), true), ((.c2 .eq (.c1 .len (.var 78)) (.c2 .mul (.var 77) (.num 73))), true), ((.c1 (.kin [.u8, .u8, .u8, .u8, .u8, .u8, .u8, .u8, .u8, .u8, .u8, .u8, .u8, .u16, .u8, .u16, .u16, .u8, .u8, .u8, .u16, .u8, .u8, .u8, .u8, .u8, .u8, .u8, .u8, .u8, .u32, .u8, .u8, .u8, .u8, .u8, .u8, .u8, .u8, .u8, .u8, .u8, .u8, .u8, .u8, .u8, .u8, .u8, .u8, .u8, .u8, .u8, .u8, .u8, .u8, .u8, .u8, .u8, .u8, .u8, .u8, .u8, .u8, .u8, .u8, .u16, .u16, .u32, .u32, .u8, .u16, .u16, .u16]) (.var 78)), true)]
      (.split (.c2 .lt (.var 75) (.fn 66 (.var 0) (.num 6) .nil))
       (.split (.c2 .eq (.var 75) (.c2 .sub (.fn 66 (.var 0) (.num 6) .nil) (.num 1)))
        (.back 0 75 [(.c2 .add (.var 75) (.num 1)), (.num 34525), (.c2 .add (.var 77) (.num 1)), (.c2 .app (.c2 .take (.c2 .mul (.var 77) (.num 73)) (.var 78)) (.cons (.num 2) (.cons (.num 0) (.cons (.num 0) (.cons (.num 0) (.cons (.num 0) (.cons (.num 0) (.cons (.num 0) (.cons (.num 0) (.cons (.num 0) (.cons (.num 0) (.cons (.num 0) (.cons (.num 0) (.cons (.num 0) (.cons (.num 0) (.cons (.c2 .rem (.var 16) (.num 8)) (.cons (.c2 .rem (.var 17) (.num 4096)) (.cons (.num 34525) xPbHeads1))))))))))))))))))])
        (.back 0 75 [(.c2 .add (.var 75) (.num 1)), (.var 76), (.c2 .add (.var 77) (.num 1)), (.c2 .app (.c2 .take (.c2 .mul (.var 77) (.num 73)) (.var 78)) (.cons (.num 2) (.cons (.num 0) (.cons (.num 0) (.cons (.num 0) (.cons (.num 0) (.cons (.num 0) (.cons (.num 0) (.cons (.num 0) (.cons (.num 0) (.cons (.num 0) (.cons (.num 0) (.cons (.num 0) (.cons (.num 0) (.cons (.num 0) (.cons (.c2 .rem (.var 16) (.num 8)) (.cons (.c2 .rem (.var 17) (.num 4096)) (.cons (.var 76) xPbHeads1))))))))))))))))))]))
       (.ret (.w (.c (.s 7 73 0 (.num 0) (.c2 .add (.var 77) (.num 1)))), ⟨[], [(7, some ⟨true, .row [.u8, .u8, .u8, .u8, .u8, .u8, .u8, .u8, .u8, .u8, .u8, .u8, .u8, .u16, .u8, .u16, .u16, .u8, .u8, .u8, .u16, .u8, .u8, .u8, .u8, .u8, .u8, .u8, .u8, .u8, .u32, .u8, .u8, .u8, .u8, .u8, .u8, .u8, .u8, .u8, .u8, .u8, .u8, .u8, .u8, .u8, .u8, .u8, .u8, .u8, .u8, .u8, .u8, .u8, .u8, .u8, .u8, .u8, .u8, .u8, .u8, .u8, .u8, .u8, .u8, .u16, .u16, .u32, .u32, .u8, .u16, .u16, .u16] (.c2 .app (.c2 .take (.c2 .mul (.var 77) (.num 73)) (.var 78)) (.cons (.num 4) (.cons (.num 0) (.cons (.num 0) (.cons (.num 0) (.cons (.num 0) (.cons (.num 0) (.cons (.num 0) (.cons (.num 0) (.cons (.num 0) (.cons (.num 0) (.cons (.num 0) (.cons (.num 0) (.cons (.num 0) (.cons (.num 0) (.cons (.num 0) (.cons (.num 0) (.cons (.num 0) (.cons (.num 0) (.cons (.num 0) (.cons (.num 0) (.cons (.num 0) (.cons (.num 0) (.cons (.num 0) (.cons (.num 0) (.cons (.num 0) (.cons (.num 0) (.cons (.num 0) (.cons (.num 0) (.cons (.num 0) (.cons (.var 31) (.cons (.c2 .rem (.var 32) (.num 1048576)) (.cons (.num 99) xPbHeads7)))))))))))))))))))))))))))))))))⟩)], 8, 79, []⟩))))
     (.loop 0 75 4 [(.num 0), (.num 34525), (.num 1), xPbHeads8] [((.c2 .le (.num 0) (.var 75)), true), ((.c2 .le (.var 75) (.num 5)), true), ((.c2 .le (.num 0) (.var 76)), true), ((.c2 .le (.var 76) (.num 65535)), true), ((.c2 .le (.num 1) (.var 77)), true), ((.c2 .le (.var 77) (.num 6)), true), ((.c2 .eq (.c1 .len (.var 78)) (.c2 .mul (.var 77) (.num 73))), true), ((.c1 (.kin [.u8, .u8, .u8, .u8, .u8, .u8, .u8, .u8, .u8, .u8, .u8, .u8, .u8, .u16, .u8, .u16, .u16, .u8, .u8, .u8, .u16, .u8, .u8, .u8, .u8, .u8, .u8, .u8, .u8, .u8, .u32, .u8, .u8, .u8, .u8, .u8, .u8, .u8, .u8, .u8, .u8, .u8, .u8, .u8, .u8, .u8, .u8, .u8, .u8, .u8, .u8, .u8, .u8, .u8, .u8, .u8, .u8, .u8, .u8, .u8, .u8, .u8, .u8, .u8, .u8, .u16, .u16, .u32, .u32, .u8, .u16, .u16, .u16]) (.var 78)), true)]
      (.ret (.w (.c (.s 7 73 0 (.num 0) (.c2 .add (.var 77) (.num 1)))), ⟨[], [(7, some ⟨true, .row [.u8, .u8, .u8, .u8, .u8, .u8, .u8, .u8, .u8, .u8, .u8, .u8, .u8, .u16, .u8, .u16, .u16, .u8, .u8, .u8, .u16, .u8, .u8, .u8, .u8, .u8, .u8, .u8, .u8, .u8, .u32, .u8, .u8, .u8, .u8, .u8, .u8, .u8, .u8, .u8, .u8, .u8, .u8, .u8, .u8, .u8, .u8, .u8, .u8, .u8, .u8, .u8, .u8, .u8, .u8, .u8, .u8, .u8, .u8, .u8, .u8, .u8, .u8, .u8, .u8, .u16, .u16, .u32, .u32, .u8, .u16, .u16, .u16] (.c2 .app (.c2 .take (.c2 .mul (.var 77) (.num 73)) (.var 78)) (.cons (.num 4) (.cons (.num 0) (.cons (.num 0) (.cons (.num 0) (.cons (.num 0) (.cons (.num 0) (.cons (.num 0) (.cons (.num 0) (.cons (.num 0) (.cons (.num 0) (.cons (.num 0) (.cons (.num 0) (.cons (.num 0) (.cons (.num 0) (.cons (.num 0) (.cons (.num 0) (.cons (.num 0) (.cons (.num 0) (.cons (.num 0) (.cons (.num 0) (.cons (.num 0) (.cons (.num 0) (.cons (.num 0) (.cons (.num 0) (.cons (.num 0) (.cons (.num 0) (.cons (.num 0) (.cons (.num 0) (.cons (.num 0) (.cons (.var 31) (.cons (.c2 .rem (.var 32) (.num 1048576)) (.cons (.num 99) xPbHeads7)))))))))))))))))))))))))))))))))⟩)], 8, 79, []⟩))))))))))
  (.split (.c2 .eq (.c2 .rem (.var 2) (.num 3)) (.num 1))
   (.chk (.c2 .le (.num (-9223372036854775808)) (.var 0))
   (.chk (.c2 .le (.var 0) (.num 9223372036854775807))
   (.chk (.c2 .le (.num 0) (.fn 66 (.var 0) (.num 6) .nil))
   (.chk (.c2 .lt (.fn 66 (.var 0) (.num 6) .nil) (.num 6))
   (.split (.c2 .lt (.num 0) (.fn 66 (.var 0) (.num 6) .nil))
    (.loop 0 75 4 [(.num 0), (.num 33024), (.num 1), xPbHeads2] [((.c2 .le (.num 0) (.var 75)), true), ((.c2 .le (.var 75) (.num 5)), true), ((.c2 .le (.num 0) (.var 76)), true), ((.c2 .le (.var 76) (.num 65535)), true), ((.c2 .le (.num 1) (.var 77)), true), ((.c2 .le (.var 77) (.num 6)), true), ((.c2 .eq (.c1 .len (.var 78)) (.c2 .mul (.var 77) (.num 73))), true), ((.c1 (.kin [.u8, .u8, .u8, .u8, .u8, .u8, .u8, .u8, .u8, .u8, .u8, .u8, .u8, .u16, .u8, .u16, .u16, .u8, .u8, .u8, .u16, .u8, .u8, .u8, .u8, .u8, .u8, .u8, .u8, .u8, .u32, .u8, .u8, .u8, .u8, .u8, .u8, .u8, .u8, .u8, .u8, .u8, .u8, .u8, .u8, .u8, .u8, .u8, .u8, .u8, .u8, .u8, .u8, .u8, .u8, .u8, .u8, .u8, .u8, .u8, .u8, .u8, .u8, .u8, .u8, .u16, .u16, .u32, .u32, .u8, .u16, .u16, .u16]) (.var 78)), true)]
     (.split (.c2 .lt (.var 75) (.fn 66 (.var 0) (.num 6) .nil))
      (.split (.c2 .eq (.var 75) (.c2 .sub (.fn 66 (.var 0) (.num 6) .nil) (.num 1)))
       (.back 0 75 [(.c2 .add (.var 75) (.num 1)), (.num 4660), (.c2 .add (.var 77) (.num 1)), (.c2 .app (.c2 .take (.c2 .mul (.var 77) (.num 73)) (.var 78)) (.cons (.num 2) (.cons (.num 0) (.cons (.num 0) (.cons (.num 0) (.cons (.num 0) (.cons (.num 0) (.cons (.num 0) (.cons (.num 0) (.cons (.num 0) (.cons (.num 0) (.cons (.num 0) (.cons (.num 0) (.cons (.num 0) (.cons (.num 0) (.cons (.c2 .rem (.var 16) (.num 8)) (.cons (.c2 .rem (.var 17) (.num 4096)) (.cons (.num 4660) xPbHeads1))))))))))))))))))])
       (.back 0 75 [(.c2 .add (.var 75) (.num 1)), (.var 76), (.c2 .add (.var 77) (.num 1)), (.c2 .app (.c2 .take (.c2 .mul (.var 77) (.num 73)) (.var 78)) (.cons (.num 2) (.cons (.num 0) (.cons (.num 0) (.cons (.num 0) (.cons (.num 0) (.cons (.num 0) (.cons (.num 0) (.cons (.num 0) (.cons (.num 0) (.cons (.num 0) (.cons (.num 0) (.cons (.num 0) (.cons (.num 0) (.cons (.num 0) (.cons (.c2 .rem (.var 16) (.num 8)) (.cons (.c2 .rem (.var 17) (.num 4096)) (.cons (.var 76) xPbHeads1))))))))))))))))))]))
      (.ret (.w (.c (.s 4 73 0 (.num 0) (.var 77))), ⟨[], [(4, some ⟨true, .row [.u8, .u8, .u8, .u8, .u8, .u8, .u8, .u8, .u8, .u8, .u8, .u8, .u8, .u16, .u8, .u16, .u16, .u8, .u8, .u8, .u16, .u8, .u8, .u8, .u8, .u8, .u8, .u8, .u8, .u8, .u32, .u8, .u8, .u8, .u8, .u8, .u8, .u8, .u8, .u8, .u8, .u8, .u8, .u8, .u8, .u8, .u8, .u8, .u8, .u8, .u8, .u8, .u8, .u8, .u8, .u8, .u8, .u8, .u8, .u8, .u8, .u8, .u8, .u8, .u8, .u16, .u16, .u32, .u32, .u8, .u16, .u16, .u16] (.var 78)⟩)], 5, 79, []⟩))))
    (.loop 0 75 4 [(.num 0), (.num 4660), (.num 1), xPbHeads9] [((.c2 .le (.num 0) (.var 75)), true), ((.c2 .le (.var 75) (.num 5)), true), ((.c2 .le (.num 0) (.var 76)), true), ((.c2 .le (.var 76) (.num 65535)), true), ((.c2 .le (.num 1) (.var 77)), true), ((.c2 .le (.var 77) (.num 6)), true), ((.c2 .eq (.c1 .len (.var 78)) (.c2 .mul (.var 77) (.num 73))), true), ((.c1 (.kin [.u8, .u8, .u8, .u8, .u8, .u8, .u8, .u8, .u8, .u8, .u8, .u8, .u8, .u16, .u8, .u16, .u16, .u8, .u8, .u8, .u16, .u8, .u8, .u8, .u8, .u8, .u8, .u8, .u8, .u8, .u32, .u8, .u8, .u8, .u8, .u8, .u8, .u8, .u8, .u8, .u8, .u8, .u8, .u8, .u8, .u8, .u8, .u8, .u8, .u8, .u8, .u8, .u8, .u8, .u8, .u8, .u8, .u8, .u8, .u8, .u8, .u8, .u8, .u8, .u8, .u16, .u16, .u32, .u32, .u8, .u16, .u16, .u16]) (.var 78)), true)]
     (.ret (.w (.c (.s 4 73 0 (.num 0) (.var 77))), ⟨[], [(4, some ⟨true, .row [.u8, .u8, .u8, .u8, .u8, .u8, .u8, .u8, .u8, .u8, .u8, .u8, .u8, .u16, .u8, .u16, .u16, .u8, .u8, .u8, .u16, .u8, .u8, .u8, .u8, .u8, .u8, .u8, .u8, .u8, .u32, .u8, .u8, .u8, .u8, .u8, .u8, .u8, .u8, .u8, .u8, .u8, .u8, .u8, .u8, .u8, .u8, .u8, .u8, .u8, .u8, .u8, .u8, .u8, .u8, .u8, .u8, .u8, .u8, .u8, .u8, .u8, .u8, .u8, .u8, .u16, .u16, .u32, .u32, .u8, .u16, .u16, .u16] (.var 78)⟩)], 5, 79, []⟩))))))))
   (.split (.c2 .eq (.c2 .rem (.var 2) (.num 3)) (.num 2))
    (.chk (.c2 .le (.num (-9223372036854775808)) (.var 0))
    (.chk (.c2 .le (.var 0) (.num 9223372036854775807))
    (.chk (.c2 .le (.num 0) (.fn 66 (.var 0) (.num 6) .nil))
    (.chk (.c2 .lt (.fn 66 (.var 0) (.num 6) .nil) (.num 6))
    (.split (.c2 .lt (.num 0) (.fn 66 (.var 0) (.num 6) .nil))
     (.loop 0 75 4 [(.num 0), (.num 33024), (.num 1), xPbHeads2] [((.c2 .le (.num 0) (.var 75)), true), ((.c2 .le (.var 75) (.num 5)), true), ((.c2 .le (.num 0) (.var 76)), true), ((.c2 .le (.var 76) (.num 65535)), true), ((.c2 .le (.num 1) (.var 77)), true), ((.c2 .le (.var 77) (.num 6)), true), ((.c2 .eq (.c1 .len (.var 78)) (.c2 .mul (.var 77) (.num 73))), true), ((.c1 (.kin [.u8, .u8, .u8, .u8, .u8, .u8, .u8, .u8, .u8, .u8, .u8, .u8, .u8, .u16, .u8, .u16, .u16, .u8, .u8, .u8, .u16, .u8, .u8, .u8, .u8, .u8, .u8, .u8, .u8, .u8, .u32, .u8, .u8, .u8, .u8, .u8, .u8, .u8, .u8, .u8, .u8, .u8, .u8, .u8, .u8, .u8, .u8, .u8, .u8, .u8, .u8, .u8, .u8, .u8, .u8, .u8, .u8, .u8, .u8, .u8, .u8, .u8, .u8, .u8, .u8, .u16, .u16, .u32, .u32, .u8, .u16, .u16, .u16]) (.var 78)), true)]
      (.split (.c2 .lt (.var 75) (.fn 66 (.var 0) (.num 6) .nil))
       (.split (.c2 .eq (.var 75) (.c2 .sub (.fn 66 (.var 0) (.num 6) .nil) (.num 1)))
        (.back 0 75 [(.c2 .add (.var 75) (.num 1)), (.num 4660), (.c2 .add (.var 77) (.num 1)), (.c2 .app (.c2 .take (.c2 .mul (.var 77) (.num 73)) (.var 78)) (.cons (.num 2) (.cons (.num 0) (.cons (.num 0) (.cons (.num 0) (.cons (.num 0) (.cons (.num 0) (.cons (.num 0) (.cons (.num 0) (.cons (.num 0) (.cons (.num 0) (.cons (.num 0) (.cons (.num 0) (.cons (.num 0) (.cons (.num 0) (.cons (.c2 .rem (.var 16) (.num 8)) (.cons (.c2 .rem (.var 17) (.num 4096)) (.cons (.num 4660) xPbHeads1))))))))))))))))))])
        (.back 0 75 [(.c2 .add (.var 75) (.num 1)), (.var 76), (.c2 .add (.var 77) (.num 1)), (.c2 .app (.c2 .take (.c2 .mul (.var 77) (.num 73)) (.var 78)) (.cons (.num 2) (.cons (.num 0) (.cons (.num 0) (.cons (.num 0) (.cons (.num 0) (.cons (.num 0) (.cons (.num 0) (.cons (.num 0) (.cons (.num 0) (.cons (.num 0) (.cons (.num 0) (.cons (.num 0) (.cons (.num 0) (.cons (.num 0) (.cons (.c2 .rem (.var 16) (.num 8)) (.cons (.c2 .rem (.var 17) (.num 4096)) (.cons (.var 76) xPbHeads1))))))))))))))))))]))
       (.ret (.w (.c (.s 4 73 0 (.num 0) (.var 77))), ⟨[], [(4, some ⟨true, .row [.u8, .u8, .u8, .u8, .u8, .u8, .u8, .u8, .u8, .u8, .u8, .u8, .u8, .u16, .u8, .u16, .u16, .u8, .u8, .u8, .u16, .u8, .u8, .u8, .u8, .u8, .u8, .u8, .u8, .u8, .u32, .u8, .u8, .u8, .u8, .u8, .u8, .u8, .u8, .u8, .u8, .u8, .u8, .u8, .u8, .u8, .u8, .u8, .u8, .u8, .u8, .u8, .u8, .u8, .u8, .u8, .u8, .u8, .u8, .u8, .u8, .u8, .u8, .u8, .u8, .u16, .u16, .u32, .u32, .u8, .u16, .u16, .u16] (.var 78)⟩)], 5, 79, []⟩))))
     (.loop 0 75 4 [(.num 0), (.num 4660), (.num 1), xPbHeads9] [((.c2 .le (.num 0) (.var 75)), true), ((.c2 .le (.var 75) (.num 5)), true), ((.c2 .le (.num 0) (.var 76)), true), ((.c2 .le (.var 76) (.num 65535)), true), ((.c2 .le (.num 1) (.var 77)), true), ((.c2 .le (.var 77) (.num 6)), true), ((.c2 .eq (.c1 .len (.var 78)) (.c2 .mul (.var 77) (.num 73))), true), ((.c1 (.kin [.u8, .u8, .u8, .u8, .u8, .u8, .u8, .u8, .u8, .u8, .u8, .u8, .u8, .u16, .u8, .u16, .u16, .u8, .u8, .u8, .u16, .u8, .u8, .u8, .u8, .u8, .u8, .u8, .u8, .u8, .u32, .u8, .u8, .u8, .u8, .u8, .u8, .u8, .u8, .u8, .u8, .u8, .u8, .u8, .u8, .u8, .u8, .u8, .u8, .u8, .u8, .u8, .u8, .u8, .u8, .u8, .u8, .u8, .u8, .u8, .u8, .u8, .u8, .u8, .u8, .u16, .u16, .u32, .u32, .u8, .u16, .u16, .u16]) (.var 78)), true)]
      (.ret (.w (.c (.s 4 73 0 (.num 0) (.var 77))), ⟨[], [(4, some ⟨true, .row [.u8, .u8, .u8, .u8, .u8, .u8, .u8, .u8, .u8, .u8, .u8, .u8, .u8, .u16, .u8, .u16, .u16, .u8, .u8, .u8, .u16, .u8, .u8, .u8, .u8, .u8, .u8, .u8, .u8, .u8, .u32, .u8, .u8, .u8, .u8, .u8, .u8, .u8, .u8, .u8, .u8, .u8, .u8, .u8, .u8, .u8, .u8, .u8, .u8, .u8, .u8, .u8, .u8, .u8, .u8, .u8, .u8, .u8, .u8, .u8, .u8, .u8, .u8, .u8, .u8, .u16, .u16, .u32, .u32, .u8, .u16, .u16, .u16] (.var 78)⟩)], 5, 79, []⟩))))))))
    (.chk (.c2 .le (.num (-9223372036854775808)) (.var 0))
    (.chk (.c2 .le (.var 0) (.num 9223372036854775807))
    (.chk (.c2 .le (.num 0) (.fn 66 (.var 0) (.num 6) .nil))
    (.chk (.c2 .lt (.fn 66 (.var 0) (.num 6) .nil) (.num 6))
    (.split (.c2 .lt (.num 0) (.fn 66 (.var 0) (.num 6) .nil))
     (.loop 0 75 4 [(.num 0), (.num 33024), (.num 1), xPbHeads2] [((.c2 .le (.num 0) (.var 75)), true), ((.c2 .le (.var 75) (.num 5)), true), ((.c2 .le (.num 0) (.var 76)), true), ((.c2 .le (.var 76) (.num 65535)), true), ((.c2 .le (.num 1) (.var 77)), true), ((.c2 .le (.var 77) (.num 6)), true), ((.c2 .eq (.c1 .len (.var 78)) (.c2 .mul (.var 77) (.num 73))), true), ((.c1 (.kin [.u8, .u8, .u8, .u8, .u8, .u8, .u8, .u8, .u8, .u8, .u8, .u8, .u8, .u16, .u8, .u16, .u16, .u8, .u8, .u8, .u16, .u8, .u8, .u8, .u8, .u8, .u8, .u8, .u8, .u8, .u32, .u8, .u8, .u8, .u8, .u8, .u8, .u8, .u8, .u8, .u8, .u8, .u8, .u8, .u8, .u8, .u8, .u8, .u8, .u8, .u8, .u8, .u8, .u8, .u8, .u8, .u8, .u8, .u8, .u8, .u8, .u8, .u8, .u8, .u8, .u16, .u16, .u32, .u32, .u8, .u16, .u16, .u16]) (.var 78)), true)]
      (.split (.c2 .lt (.var 75) (.fn 66 (.var 0) (.num 6) .nil))
       (.split (.c2 .eq (.var 75) (.c2 .sub (.fn 66 (.var 0) (.num 6) .nil) (.num 1)))
        (.back 0 75 [(.c2 .add (.var 75) (.num 1)), (.num 4660), (.c2 .add (.var 77) (.num 1)), (.c2 .app (.c2 .take (.c2 .mul (.var 77) (.num 73)) (.var 78)) (.cons (.num 2) (.cons (.num 0) (.cons (.num 0) (.cons (.num 0) (.cons (.num 0) (.cons (.num 0) (.cons (.num 0) (.cons (.num 0) (.cons (.num 0) (.cons (.num 0) (.cons (.num 0) (.cons (.num 0) (.cons (.num 0) (.cons (.num 0) (.cons (.c2 .rem (.var 16) (.num 8)) (.cons (.c2 .rem (.var 17) (.num 4096)) (.cons (.num 4660) xPbHeads1))))))))))))))))))])
        (.back 0 75 [(.c2 .add (.var 75) (.num 1)), (.var 76), (.c2 .add (.var 77) (.num 1)), (.c2 .app (.c2 .take (.c2 .mul (.var 77) (.num 73)) (.var 78)) (.cons (.num 2) (.cons (.num 0) (.cons (.num 0) (.cons (.num 0) (.cons (.num 0) (.cons (.num 0) (.cons (.num 0) (.cons (.num 0) (.cons (.num 0) (.cons (.num 0) (.cons (.num 0) (.cons (.num 0) (.cons (.num 0) (.cons (.num 0) (.cons (.c2 .rem (.var 16) (.num 8)) (.cons (.c2 .rem (.var 17) (.num 4096)) (.cons (.var 76) xPbHeads1))))))))))))))))))]))
       (.ret (.w (.c (.s 4 73 0 (.num 0) (.var 77))), ⟨[], [(4, some ⟨true, .row [.u8, .u8, .u8, .u8, .u8, .u8, .u8, .u8, .u8, .u8, .u8, .u8, .u8, .u16, .u8, .u16, .u16, .u8, .u8, .u8, .u16, .u8, .u8, .u8, .u8, .u8, .u8, .u8, .u8, .u8, .u32, .u8, .u8, .u8, .u8, .u8, .u8, .u8, .u8, .u8, .u8, .u8, .u8, .u8, .u8, .u8, .u8, .u8, .u8, .u8, .u8, .u8, .u8, .u8, .u8, .u8, .u8, .u8, .u8, .u8, .u8, .u8, .u8, .u8, .u8, .u16, .u16, .u32, .u32, .u8, .u16, .u16, .u16] (.var 78)⟩)], 5, 79, []⟩))))
     (.loop 0 75 4 [(.num 0), (.num 4660), (.num 1), xPbHeads9] [((.c2 .le (.num 0) (.var 75)), true), ((.c2 .le (.var 75) (.num 5)), true), ((.c2 .le (.num 0) (.var 76)), true), ((.c2 .le (.var 76) (.num 65535)), true), ((.c2 .le (.num 1) (.var 77)), true), ((.c2 .le (.var 77) (.num 6)), true), ((.c2 .eq (.c1 .len (.var 78)) (.c2 .mul (.var 77) (.num 73))), true), ((.c1 (.kin [.u8, .u8, .u8, .u8, .u8, .u8, .u8, .u8, .u8, .u8, .u8, .u8, .u8, .u16, .u8, .u16, .u16, .u8, .u8, .u8, .u16, .u8, .u8, .u8, .u8, .u8, .u8, .u8, .u8, .u8, .u32, .u8, .u8, .u8, .u8, .u8, .u8, .u8, .u8, .u8, .u8, .u8, .u8, .u8, .u8, .u8, .u8, .u8, .u8, .u8, .u8, .u8, .u8, .u8, .u8, .u8, .u8, .u8, .u8, .u8, .u8, .u8, .u8, .u8, .u8, .u16, .u16, .u32, .u32, .u8, .u16, .u16, .u16]) (.var 78)), true)]
      (.ret (.w (.c (.s 4 73 0 (.num 0) (.var 77))), ⟨[], [(4, some ⟨true, .row [.u8, .u8, .u8, .u8, .u8, .u8, .u8, .u8, .u8, .u8, .u8, .u8, .u8, .u16, .u8, .u16, .u16, .u8, .u8, .u8, .u16, .u8, .u8, .u8, .u8, .u8, .u8, .u8, .u8, .u8, .u32, .u8, .u8, .u8, .u8, .u8, .u8, .u8, .u8, .u8, .u8, .u8, .u8, .u8, .u8, .u8, .u8, .u8, .u8, .u8, .u8, .u8, .u8, .u8, .u8, .u8, .u8, .u8, .u8, .u8, .u8, .u8, .u8, .u8, .u8, .u16, .u16, .u32, .u32, .u8, .u16, .u16, .u16] (.var 78)⟩)], 5, 79, []⟩))))))))))))
theorem treePbHeads_is : funTree (ctxN Go.Proofs.Try.prog annsPb consHds 8) annsPb 21 (tHeads 9).vs (tHeads 9).bs (tHeads 9).n (preF (tHeads 9).res) = treePbHeads := by kernel_rfl
end Go.Proofs.Ytbiodlomlendkaa.Sx
/- Sx laws of peeling: contracts of whole and heads. Conditions: none. -/
set_option linter.unusedVariables false
set_option linter.unusedSimpArgs false
namespace Go.Proofs.Ytbiodlomlendkaa.Sx
open Go
theorem bring_ok : TmplOk Go.Proofs.Try.prog ΦP 20 tBring := by
  refine tmpl_of noCons treePbBring_is (fun ρ res hres => ⟨eqJ, ?_⟩)
  obtain ⟨h1, h2, hres⟩ := inR_some hres
  obtain ⟨h3, h4, hres⟩ := inR_some hres
  obtain ⟨_, hres⟩ := chk_some hres
  obtain ⟨_, hres⟩ := chk_some hres
  obtain rfl := ret_some hres
  have hr := bring_range (ρ 0).int (n := (ρ 1).int) h3
  refine ⟨fun c => ?_, fun c => ?_⟩
  · rw [lt_t, int_rem, den_var, den_var, den_num] at c
    have c : (ρ 0).int.tmod (ρ 1).int < 0 := c
    refine ⟨⟨rfl, ?_⟩, trivial, by decide⟩
    rw [int_wr, int_add, int_rem, den_var, den_var]
    show _ = bringI (ρ 0).int (ρ 1).int
    rw [bringI, if_pos c] at hr ⊢
    exact wrap_is (by simp only [kmin]; omega) (by simp only [kmax]; omega)
  · rw [lt_f, int_rem, den_var, den_var, den_num] at c
    have c : 0 ≤ (ρ 0).int.tmod (ρ 1).int := c
    refine ⟨⟨rfl, ?_⟩, trivial, by decide⟩
    rw [int_rem, den_var, den_var]
    show _ = bringI (ρ 0).int (ρ 1).int
    rw [bringI, if_neg (by omega)]
/-! A head's cells in a row. -/
def cellT (F m : T) : Nat → Nat → T
  | _, 0 => .nil
  | 0, n + 1 => .cons (.c2 .rd F m) (cellT F m 1 n)
  | j + 1, n + 1 => .cons (.c2 .rd F (.c2 .add m (.num (.ofNat (j + 1))))) (cellT F m (j + 2) n)
section
variable {Φ : Sig} {ρ : Env}
theorem den_cellT {F m : T} {l : List Int} {M : Nat} (hF : (T.den Φ ρ F).list = l) (hm : (T.den Φ ρ m).int = M) : ∀ (n j : Nat), M + j + n ≤ l.length → (T.den Φ ρ (cellT F m j n)).list = (l.drop (M + j)).take n
  | 0, _, _ => by simp [cellT]
  | n + 1, 0, h => by
    rw [cellT, list_cons, den_cellT hF hm n 1 (by omega), int_rd, hF, hm, Int.toNat_natCast]
    exact cons_take (by omega) rfl rfl
  | n + 1, j + 1, h => by
    rw [cellT, list_cons, den_cellT hF hm n (j + 2) (by omega), int_rd, int_add, hF, hm]
    have : ((M : Int) + (T.den Φ ρ (.num (.ofNat (j + 1)))).int).toNat = M + (j + 1) := by show ((M : Int) + ((j + 1 : Nat) : Int)).toNat = _; omega
    rw [this]
    exact cons_take (by omega) rfl rfl
theorem den_hdAt {F m : T} {l : List Int} {i n : Nat} (hF : (T.den Φ ρ F).list = l) (hm : (T.den Φ ρ m).int = i) (hl : l.length = 73 * n) (hi : i < n) : (T.den Φ ρ (cellT F (.c2 .mul m (.num 73)) 0 73)).list = hdAt l i := by
  rw [den_cellT hF (M := 73 * i) (by rw [int_mul, hm]; show (i : Int) * 73 = _; omega) 73 0 (by omega), Nat.add_zero]; rfl
end
theorem head_ok {H p : List Int} (hH : GoodInts kHead H) (h : headErr H p = 0) : Bytes (headRow H p) ∧ (headRow H p).length ≤ 40 ∧ (headRow H p).length + p.length ≤ 2048 := by
  rw [headErr] at h
  split at h
  case isFalse => cases h
  rename_i hi
  obtain ⟨k, hk⟩ := Int.eq_ofNat_of_zero_le (show 0 ≤ g H 0 by omega)
  have hk6 : 1 ≤ k ∧ k ≤ 6 := by omega
  rw [hk, Int.toNat_natCast] at h
  have hg := fields_good hk6 hH
  have hl := wr_len hk6 (hdFields k H) p
  have hr : headRow H p = wrGood k (hdFields k H) p := by rw [headRow, hk, Int.toNat_natCast]
  rw [hr, hl]
  refine ⟨bytes_k hk6 hg h, ?_, size_k hk6 h⟩
  have : k = 1 ∨ k = 2 ∨ k = 3 ∨ k = 4 ∨ k = 5 ∨ k = 6 := by omega
  rcases this with rfl | rfl | rfl | rfl | rfl | rfl <;> decide
/-! Headers put ahead of a payload. -/
def whlJ : Inv := ⟨fun _ ρ ds => ∃ (k n : Nat) (q : List Int), (nthD ds 0).int = (k : Int) - 1 ∧ (nthD ds 1).int = q.length ∧ (nthD ds 2).list = q ∧ (ρ 0).int = n ∧ k ≤ n ∧ Bytes q ∧ q.length ≤ 2048 ∧ putH headErr ((rowsOf (ρ 1).list).drop k) (ρ 2).list = (0, q), fun _ ρ ds => ((nthD ds 0).int + 1).toNat⟩
structure WhlRes (ρ : Env) (j : Nat) (res : Res) : Prop where
  or : ((putH headErr (rowsOf (ρ 1).list) (ρ 2).list).1 = 0 ∧ res = ⟨.t [.c (.s j 1 0 (.num 0) (.c1 .len (whlRow (.var 1) (.var 2)))), .c (.b (.bol true))], [(j, some ⟨true, .row [.u8] (whlRow (.var 1) (.var 2))⟩)], 400⟩) ∨
    (¬ (putH headErr (rowsOf (ρ 1).list) (ρ 2).list).1 = 0 ∧ res = ⟨.t [.c .sn, .c (.b (.bol false))], [], 400⟩)
theorem whl_res {ρ : Env} {j : Nat} {res : Res} (h : (whlRes (.var 1) (.var 2) j 400).val (T.den ΦP ρ) = some res) : WhlRes ρ j res := by
  have he : (T.den ΦP ρ (whlErr (.var 1) (.var 2))).int = (putH headErr (rowsOf (ρ 1).list) (ρ 2).list).1 := rfl
  refine ⟨?_⟩
  simp only [whlRes, O.val] at h
  split at h
  · rename_i c
    rw [eq_t, he] at c
    refine .inl ⟨c, ?_⟩
    repeat' (split at h)
    all_goals first | (cases h; done) | skip
    injection h with h
    exact h.symm
  · rename_i c
    have c : (T.den ΦP ρ (.c2 .eq (whlErr (.var 1) (.var 2)) (.num 0))).bool = false := by simpa using c
    rw [eq_f, he] at c
    injection h with h
    exact .inr ⟨c, h.symm⟩
/-- Where an error is, all is one. -/
theorem put_drop {E : List Int → List Int → Int} {p : List Int} : ∀ {hs : List (List Int)} {k : Nat}, ¬ (putH E (hs.drop k) p).1 = 0 → ¬ (putH E hs p).1 = 0
  | hs, 0, h => h
  | [], k + 1, h => h
  | x :: hs, k + 1, h => by
    have := put_drop (hs := hs) (k := k) h
    simp only [putH, if_neg this]; exact this
set_option maxRecDepth 100000 in
theorem whole_ok : TmplOk Go.Proofs.Try.prog ΦP 22 (tWhole 3) := by
  refine tmpl_of (moreCons (con_ok (hb_ok sigW.toPbSig)) noCons) treePbWhole_is (fun ρ res hres => ⟨whlJ, ?_⟩)
  obtain ⟨hn0, hn1, hres⟩ := inR_some hres
  obtain ⟨hk, hres⟩ := chk_some hres
  obtain ⟨hl, hres⟩ := chk_some hres
  obtain ⟨hs, hres⟩ := chk_some hres
  obtain ⟨hb, hres⟩ := bytes_some hres
  have hr := whl_res hres
  have hk : inKinds kHead 0 (ρ 1).list = true := hk
  rw [eq_t, int_len, int_mul, den_var, den_var] at hl
  rw [le_t, int_len, den_var] at hs
  obtain ⟨n, hn⟩ := Int.eq_ofNat_of_zero_le hn0
  have hl : (ρ 1).list.length = 73 * n := by rw [hn] at hl; have hl : ((ρ 1).list.length : Int) = (n : Int) * 73 := hl; omega
  have hs : (ρ 2).list.length ≤ 2048 := by have hs : ((ρ 2).list.length : Int) ≤ 2048 := hs; omega
  have hnn : (ρ 1).list.length / 73 = n := by omega
  refine ⟨⟨n, n, (ρ 2).list, ?_, rfl, rfl, hn, Nat.le_refl _, hb, hs, ?_⟩, ?_⟩
  · show (T.den ΦP ρ (.c2 .sub (.var 0) (.num 1))).int = _; rw [int_sub, den_var, hn]; rfl
  · have := rows_all (l := (ρ 1).list)
    rw [hnn] at this
    rw [this]; rfl
  rintro ds hds ⟨k, n', q, i0, i1, i2, i3, hkn, hbq, hlq, hp⟩
  obtain rfl : n' = n := by rw [hn] at i3; omega
  have e0 : upd ρ 3 ds 0 = ρ 0 := upd_lo ds (by decide)
  have e1 : upd ρ 3 ds 1 = ρ 1 := upd_lo ds (by decide)
  have e3 : upd ρ 3 ds 3 = nthD ds 0 := upd_at (i := 0) (by omega)
  have e4 : upd ρ 3 ds 4 = nthD ds 1 := upd_at (i := 1) (by omega)
  have e5 : upd ρ 3 ds 5 = nthD ds 2 := upd_at (i := 2) (by omega)
  generalize upd ρ 3 ds = ρ' at *
  have v0 : (ρ' 0).int = n' := by rw [e0, hn]
  have v3 : (ρ' 3).int = (k : Int) - 1 := by rw [e3]; exact i0
  have v4 : (ρ' 4).int = q.length := by rw [e4]; exact i1
  have v5 : (ρ' 5).list = q := by rw [e5]; exact i2
  refine ⟨?_, fun c => ?_, fun c => ?_⟩
  · intro t p hm
    simp only [List.mem_cons, Prod.mk.injEq, List.not_mem_nil, or_false] at hm
    rcases hm with ⟨rfl, rfl⟩ | ⟨rfl, rfl⟩ | ⟨rfl, rfl⟩ | ⟨rfl, rfl⟩ | ⟨rfl, rfl⟩ | ⟨rfl, rfl⟩
    · rw [le_t, den_var, v3]; show (-1 : Int) ≤ _; omega
    · rw [lt_t, den_var, den_var, v3, v0]; omega
    · rw [le_t, den_var, v4]; exact Int.natCast_nonneg _
    · rw [le_t, den_var, v4]; show (q.length : Int) ≤ 5000; omega
    · rw [eq_t, int_len, den_var, den_var, v5, v4]
    · rw [bytes_t, den_var, v5]; exact hbq
  · rw [le_t, den_var, v3] at c
    have c : (0 : Int) ≤ (k : Int) - 1 := c
    obtain ⟨i, rfl⟩ : ∃ i, k = i + 1 := ⟨k - 1, by omega⟩
    have v3 : (ρ' 3).int = (i : Nat) := by rw [v3]; omega
    have hH : (T.den ΦP ρ' (cellT (.var 1) (.c2 .mul (.var 3) (.num 73)) 0 73)).list = hdAt (ρ 1).list i := den_hdAt (by rw [den_var, e1]) v3 hl (by omega)
    have hg : GoodInts kHead (hdAt (ρ 1).list i) := hdAt_good hk hl (by omega)
    have h60 : (T.den ΦP ρ' (.fn 60 (cellT (.var 1) (.c2 .mul (.var 3) (.num 73)) 0 73) (.var 5) .nil)).int = headErr (hdAt (ρ 1).list i) q := by
      show headErr (T.den ΦP ρ' (cellT (.var 1) (.c2 .mul (.var 3) (.num 73)) 0 73)).list (ρ' 5).list = _
      rw [hH, v5]
    have h61 : (T.den ΦP ρ' (.fn 61 (cellT (.var 1) (.c2 .mul (.var 3) (.num 73)) 0 73) (.var 5) .nil)).list = headRow (hdAt (ρ 1).list i) q := by
      show headRow (T.den ΦP ρ' (cellT (.var 1) (.c2 .mul (.var 3) (.num 73)) 0 73)).list (ρ' 5).list = _
      rw [hH, v5]
    have hdrop := rows_drop (l := (ρ 1).list) (i := i) (by rw [hnn]; omega)
    refine ⟨?_, fun d => ?_, fun d => ?_⟩
    · rw [le_t, int_add, int_mul, int_len, den_var, den_var, v3, e1, hl]; show (i : Int) * 73 + 73 ≤ _; omega
    · replace d := (eq_t ΦP ρ' (.fn 60 (cellT (.var 1) (.c2 .mul (.var 3) (.num 73)) 0 73) (.var 5) .nil) (.num 0)).mp d
      rw [h60] at d
      have d : headErr (hdAt (ρ 1).list i) q = 0 := d
      obtain ⟨g1, g2, g3⟩ := head_ok hg d
      refine ⟨(bytes_t ΦP ρ' (.fn 61 (cellT (.var 1) (.c2 .mul (.var 3) (.num 73)) 0 73) (.var 5) .nil)).mpr (by rw [h61]; exact g1), (le_t ΦP ρ' (.c1 .len (.fn 61 (cellT (.var 1) (.c2 .mul (.var 3) (.num 73)) 0 73) (.var 5) .nil)) (.num 40)).mpr (by rw [int_len, h61]; show _ ≤ (40 : Int); omega), ?_⟩
      have w : (T.den ΦP ρ' (.wr .i64 (.c2 .sub (.var 3) (.num 1)))).int = (i : Int) - 1 := by
        rw [int_wr, int_sub, den_var, v3]
        exact wrap_is (by simp only [kmin]; show _ ≤ (i : Int) - 1; omega) (by simp only [kmax]; show (i : Int) - 1 ≤ _; omega)
      refine ok_back ⟨⟨i, n', headRow (hdAt (ρ 1).list i) q ++ q, w, ?_, ?_, i3, by omega, ?_, ?_, ?_⟩, ?_⟩
      · show (T.den ΦP ρ' (.c2 .add (.c1 .len (.fn 61 (cellT (.var 1) (.c2 .mul (.var 3) (.num 73)) 0 73) (.var 5) .nil)) (.var 4))).int = _
        rw [int_add, int_len, h61, den_var, v4, List.length_append]; omega
      · show (T.den ΦP ρ' (.c2 .app (.fn 61 (cellT (.var 1) (.c2 .mul (.var 3) (.num 73)) 0 73) (.var 5) .nil) (.c2 .take (.var 4) (.var 5)))).list = _
        rw [list_app, h61, list_take, den_var, den_var, v4, v5, Int.toNat_natCast, List.take_of_length_le (Nat.le_refl _)]
      · intro z hz
        rcases List.mem_append.mp hz with hz | hz
        · exact g1 z hz
        · exact hbq z hz
      · rw [List.length_append]; omega
      · rw [hdrop]
        simp only [putH, hp, if_true, d]
      · show ((T.den ΦP ρ' (.wr .i64 (.c2 .sub (.var 3) (.num 1)))).int + 1).toNat < ((nthD ds 0).int + 1).toNat
        rw [w, i0]; omega
    · replace d := (eq_f ΦP ρ' (.fn 60 (cellT (.var 1) (.c2 .mul (.var 3) (.num 73)) 0 73) (.var 5) .nil) (.num 0)).mp d
      rw [h60] at d
      have d : ¬ headErr (hdAt (ρ 1).list i) q = 0 := d
      have hE : ¬ (putH headErr (rowsOf (ρ 1).list) (ρ 2).list).1 = 0 := by
        refine put_drop (k := i) ?_
        rw [hdrop]
        simp only [putH, hp, if_true, if_neg d]; exact d
      rcases hr.or with ⟨h, _⟩ | ⟨_, rfl⟩
      · exact absurd h hE
      · exact ⟨⟨trivial, rfl, trivial⟩, trivial, by decide⟩
  · rw [le_f, den_var, v3] at c
    have hk0 : k = 0 := by have c : (k : Int) - 1 < 0 := c; omega
    subst hk0
    rw [List.drop_zero] at hp
    have hrow : (T.den ΦP ρ (whlRow (.var 1) (.var 2))).list = q := by
      show (putH headErr (rowsOf (ρ 1).list) (ρ 2).list).2 = q; rw [hp]
    rcases hr.or with ⟨_, rfl⟩ | ⟨h, _⟩
    · refine ⟨⟨⟨rfl, rfl, rfl, rfl, ?_⟩, rfl, trivial⟩, ⟨rfl, rfl, ⟨rfl, ?_⟩, trivial⟩, by decide⟩
      · rw [den_var, v4, int_len, hrow]
      · rw [den_var, v5, hrow]
    · rw [hp] at h; exact absurd rfl h
end Go.Proofs.Ytbiodlomlendkaa.Sx
/- Sx laws of peeling: the contract of a chain's heads. Conditions: none. -/
set_option linter.unusedVariables false
set_option linter.unusedSimpArgs false
namespace Go.Proofs.Ytbiodlomlendkaa.Sx
open Go
theorem rL_id (t : List Int) : ∀ {ks ks0 : List IntKind} {r : List Int} {i : Nat}, GoodInts (ks0 ++ ks) r → ks0.length = i → rL r i ks t = r.drop i ++ t
  | [], ks0, r, i, hr, hi => by
    have : r.length = i := by have := hr.1; rw [List.append_nil] at this; omega
    rw [List.drop_of_length_le (by omega)]; rfl
  | k :: ks, ks0, r, i, hr, hi => by
    have hl : r.length = ks0.length + (ks.length + 1) := by have := hr.1; simp at this; omega
    rw [List.drop_eq_getElem_cons (by omega)]
    show k.wrap (r[i]?.getD 0) :: rL r (i + 1) ks t = _
    rw [rL_id t (ks0 := ks0 ++ [k]) (ks := ks) (by simpa using hr) (by simp [hi])]
    have hb := hr.2 i k (r[i]'(by omega)) (by rw [← hi]; simp) (List.getElem?_eq_getElem (by omega))
    rw [List.getElem?_eq_getElem (by omega)]
    show k.wrap (r[i]'(by omega)) :: _ = _
    rw [wrap_is hb.1 hb.2]; rfl
theorem head_lit {k : Nat} (hk : 1 ≤ k ∧ k ≤ 6) {r : List Int} (hr : GoodInts (hdKinds k) r) : headOf k r = (k : Int) :: zL (hdOff k - 1) (r ++ zL (73 - hdOff k - (hdKinds k).length) []) := by
  rw [head_shape hk, rL_id (ks := hdKinds k) (ks0 := []) (i := 0) _ hr rfl, List.drop_zero]
/-! The terms that the tree tells. -/
def tLink (t : T) : T := .cons (.num 1) (.cons (.var 3) (.cons (.var 4) (.cons (.var 5) (.cons (.var 6) (.cons (.var 7) (.cons (.var 8) (.cons (.var 9) (.cons (.var 10) (.cons (.var 11) (.cons (.var 12) (.cons (.var 13) (.cons (.var 14) (.cons t (zT 59 .nil))))))))))))))
def tTagT (t : T) : T := .cons (.num 2) (zT 13 (.cons (.c2 .rem (.var 16) (.num 8)) (.cons (.c2 .rem (.var 17) (.num 4096)) (.cons t (zT 56 .nil)))))
def vT (b : Nat) : Nat → T → T
  | 0, t => t
  | n + 1, t => .cons (.var b) (vT (b + 1) n t)
def tNet4 (t : T) : T := .cons (.num 3) (zT 16 (.cons (.var 19) (.cons (.var 20) (.cons t (vT 22 9 (zT 44 .nil))))))
def tNet6 (t : T) : T := .cons (.num 4) (zT 28 (.cons (.var 31) (.cons (.c2 .rem (.var 32) (.num 1048576)) (.cons t (vT 34 33 (zT 8 .nil))))))
def tSeg : T := .cons (.num 5) (zT 64 (vT 67 4 (.cons (.c2 .rem (.var 71) (.num 64)) (.cons (.var 72) (zT 2 .nil)))))
def tDgram : T := .cons (.num 6) (zT 70 (.cons (.var 73) (.cons (.var 74) .nil)))
section
variable {ρ ρ' : Env}
def chainOf (ρ : Env) : List Int := (T.den ΦP ρ (varsT 0 75)).list
/-- The environment tells the same chain. -/
def Same75 (ρ ρ' : Env) : Prop := ∀ i, i < 75 → ρ' i = ρ i
theorem den_vT : ∀ (n b : Nat) (t : T), (T.den ΦP ρ (vT b n t)).list = (T.den ΦP ρ (varsT b n)).list ++ (T.den ΦP ρ t).list
  | 0, b, t => rfl
  | n + 1, b, t => by show (ρ b).int :: (T.den ΦP ρ (vT (b + 1) n t)).list = (ρ b).int :: (T.den ΦP ρ (varsT (b + 1) n)).list ++ _; rw [den_vT n (b + 1) t]; rfl
theorem chain_g {i : Nat} (h : i < 75) : g (chainOf ρ) i = (ρ i).int := by
  have := vars_nth ΦP ρ 75 0 i h
  rw [g, chainOf, this, Nat.zero_add]; rfl
theorem chain_sub {b n : Nat} (h : b + n ≤ 75) : (T.den ΦP ρ (varsT b n)).list = ((chainOf ρ).drop b).take n := vars_sub ΦP ρ h
theorem same_chain (h : Same75 ρ ρ') : chainOf ρ' = chainOf ρ := by
  apply List.ext_getElem?
  intro i
  by_cases hi : i < 75
  · rw [chainOf, chainOf, vars_nth ΦP ρ' 75 0 i hi, vars_nth ΦP ρ 75 0 i hi, Nat.zero_add, h i hi]
  · rw [List.getElem?_eq_none (by rw [chainOf, vars_len]; omega), List.getElem?_eq_none (by rw [chainOf, vars_len]; omega)]
theorem rem_mod {x m : Int} (h : 0 ≤ x) : x.tmod m = x % m := Int.tmod_eq_emod_of_nonneg h
theorem den_link (hc : GoodInts kChain (chainOf ρ)) {t : T} {z : Int} (ht : (T.den ΦP ρ t).int = z) (hz : 0 ≤ z ∧ z ≤ 65535) : (T.den ΦP ρ (tLink t)).list = headOf 1 (linkF (chainOf ρ) z) := by
  rw [head_lit (k := 1) (by decide) (linkF_good hc hz), linkF, ← chain_sub (b := 3) (n := 12) (by decide), ← ht]
  show (T.den ΦP ρ (.cons (.num 1) (vT 3 12 (.cons t (zT 59 .nil))))).list = _
  rw [list_cons, den_vT, list_cons, den_zT, List.append_assoc]; rfl
theorem den_tag (hc : GoodInts kChain (chainOf ρ)) {t : T} {z : Int} (ht : (T.den ΦP ρ t).int = z) (hz : 0 ≤ z ∧ z ≤ 65535) : (T.den ΦP ρ (tTagT t)).list = headOf 2 (tagF (chainOf ρ) z) := by
  have h1 := cell_in hc (i := 16) (k := .u8) rfl
  have h2 := cell_in hc (i := 17) (k := .u16) rfl
  rw [head_lit (k := 2) (by decide) (tagF_good hc hz), tagF, ← ht]
  rw [chain_g (by decide)] at h1 h2 ⊢
  rw [chain_g (by decide)]
  show (T.den ΦP ρ (tTagT t)).list = _
  rw [tTagT, list_cons, den_zT, list_cons, list_cons, list_cons, den_zT, int_rem, int_rem, den_var, den_var, den_num, den_num, rem_mod h1.1, rem_mod h2.1]; rfl
theorem den_net4 (hc : GoodInts kChain (chainOf ρ)) {t : T} {z : Int} (ht : (T.den ΦP ρ t).int = z) (hz : 0 ≤ z ∧ z ≤ 255) : (T.den ΦP ρ (tNet4 t)).list = headOf 3 (net4F (chainOf ρ) z) := by
  rw [head_lit (k := 3) (by decide) (net4F_good hc hz), net4F, ← chain_sub (b := 22) (n := 9) (by decide), ← ht, chain_g (by decide), chain_g (by decide)]
  rw [tNet4, list_cons, den_zT, list_cons, list_cons, list_cons, den_vT, den_zT]; rfl
theorem den_net6 (hc : GoodInts kChain (chainOf ρ)) {t : T} {z : Int} (ht : (T.den ΦP ρ t).int = z) (hz : 0 ≤ z ∧ z ≤ 255) : (T.den ΦP ρ (tNet6 t)).list = headOf 4 (net6F (chainOf ρ) z) := by
  have h2 := cell_in hc (i := 32) (k := .u32) rfl
  rw [chain_g (by decide)] at h2
  rw [head_lit (k := 4) (by decide) (net6F_good hc hz), net6F, ← chain_sub (b := 34) (n := 33) (by decide), ← ht, chain_g (by decide), chain_g (by decide)]
  rw [tNet6, list_cons, den_zT, list_cons, list_cons, list_cons, den_vT, den_zT, int_rem]
  simp only [den_var, den_num, D.int_i]
  rw [rem_mod h2.1]; rfl
theorem den_seg (hc : GoodInts kChain (chainOf ρ)) : (T.den ΦP ρ tSeg).list = headOf 5 (segF (chainOf ρ)) := by
  have h2 := cell_in hc (i := 71) (k := .u8) rfl
  rw [chain_g (by decide)] at h2
  rw [head_lit (k := 5) (by decide) (segF_good hc), segF, ← chain_sub (b := 67) (n := 4) (by decide), chain_g (by decide), chain_g (by decide)]
  rw [tSeg, list_cons, den_zT, den_vT, list_cons, list_cons, den_zT, int_rem, List.append_assoc]
  simp only [den_var, den_num, D.int_i]
  rw [rem_mod h2.1]; rfl
theorem den_dgram (hc : GoodInts kChain (chainOf ρ)) : (T.den ΦP ρ tDgram).list = headOf 6 (dgramF (chainOf ρ)) := by
  rw [head_lit (k := 6) (by decide) (dgramF_good hc), dgramF, chain_g (by decide), chain_g (by decide)]
  rw [tDgram, list_cons, den_zT, list_cons, list_cons]; rfl
end
/-! The loop that puts on tags. -/
def nTags : T := .fn 66 (.var 0) (.num 6) .nil
def hdFs : Facts := [(.c2 .le (.num 0) (.var 75), true), (.c2 .le (.var 75) (.num 5), true), (.c2 .le (.num 0) (.var 76), true), (.c2 .le (.var 76) (.num 65535), true), (.c2 .le (.num 1) (.var 77), true), (.c2 .le (.var 77) (.num 6), true), (.c2 .eq (.c1 .len (.var 78)) (.c2 .mul (.var 77) (.num 73)), true), (.c1 (.kin kHead) (.var 78), true)]
def accT : T := .c2 .take (.c2 .mul (.var 77) (.num 73)) (.var 78)
def loopT (net : Int) (K : M (V × St)) : M (V × St) :=
  .loop 0 75 4 [.num 0, .num 33024, .num 1, tLink (.num 33024)] hdFs
    (.split (.c2 .lt (.var 75) nTags)
      (.split (.c2 .eq (.var 75) (.c2 .sub nTags (.num 1)))
        (.back 0 75 [.c2 .add (.var 75) (.num 1), .num net, .c2 .add (.var 77) (.num 1), .c2 .app accT (tTagT (.num net))])
        (.back 0 75 [.c2 .add (.var 75) (.num 1), .var 76, .c2 .add (.var 77) (.num 1), .c2 .app accT (tTagT (.var 76))]))
      K)
def loop0 (net : Int) (K : M (V × St)) : M (V × St) := .loop 0 75 4 [.num 0, .num net, .num 1, tLink (.num net)] hdFs K
def headsT (net : Int) (K : M (V × St)) : M (V × St) :=
  .chk (.c2 .le (.num (-9223372036854775808)) (.var 0)) (.chk (.c2 .le (.var 0) (.num 9223372036854775807)) (.chk (.c2 .le (.num 0) nTags) (.chk (.c2 .lt nTags (.num 6)) (.split (.c2 .lt (.num 0) nTags) (loopT net K) (loop0 net K)))))
def upTags (c : List Int) : List (List Int) := linkH c :: tagsR c (tagsOf c)
def headsJ : Inv := ⟨fun _ ρ ds => ∃ (i : Nat) (row : List Int), (nthD ds 0).int = i ∧ i ≤ tagsOf (chainOf ρ) ∧ (nthD ds 2).int = i + 1 ∧ (nthD ds 3).list = row ∧ row.length = 73 * (i + 1) ∧ inKinds kHead 0 row = true ∧
    (0 ≤ (nthD ds 1).int ∧ (nthD ds 1).int ≤ 65535) ∧ (i < tagsOf (chainOf ρ) → (nthD ds 1).int = 33024) ∧ row ++ (tagsR (chainOf ρ) (tagsOf (chainOf ρ) - i)).flatten = (upTags (chainOf ρ)).flatten, fun _ ρ ds => tagsOf (chainOf ρ) - (nthD ds 0).int.toNat⟩
/-- What holds behind the tags. -/
structure AtEnd (ρ ρ' : Env) : Prop where
  same : Same75 ρ ρ'
  num : (ρ' 77).int = (tagsOf (chainOf ρ) + 1 : Nat)
  row : (ρ' 78).list = (upTags (chainOf ρ)).flatten
  len : (ρ' 78).list.length = 73 * (tagsOf (chainOf ρ) + 1)
theorem link_flat {c : List Int} : (linkH c).length = 73 := head_len 1 _ (by decide)
theorem tags_den (ρ : Env) : (T.den ΦP ρ nTags).int = tagsOf (chainOf ρ) := by
  show bringI (ρ 0).int 6 = _
  have := bring_range (ρ 0).int (n := 6) (by decide)
  rw [tagsOf, chain_g (by decide)]; omega
theorem hdFs_ok {ρ' : Env} {i : Nat} {row : List Int} (v75 : (ρ' 75).int = i) (hi : i ≤ 5) (v76 : 0 ≤ (ρ' 76).int ∧ (ρ' 76).int ≤ 65535) (v77 : (ρ' 77).int = i + 1) (v78 : (ρ' 78).list = row) (hl : row.length = 73 * (i + 1)) (hk : inKinds kHead 0 row = true) : hdFs.hold ΦP ρ' := by
  intro t p hm
  simp only [hdFs, List.mem_cons, Prod.mk.injEq, List.not_mem_nil, or_false] at hm
  rcases hm with ⟨rfl, rfl⟩ | ⟨rfl, rfl⟩ | ⟨rfl, rfl⟩ | ⟨rfl, rfl⟩ | ⟨rfl, rfl⟩ | ⟨rfl, rfl⟩ | ⟨rfl, rfl⟩ | ⟨rfl, rfl⟩
  · rw [le_t, den_var, v75]; exact Int.natCast_nonneg _
  · rw [le_t, den_var, v75]; show (i : Int) ≤ 5; omega
  · rw [le_t, den_var]; exact v76.1
  · rw [le_t, den_var]; exact v76.2
  · rw [le_t, den_var, v77]; show (1 : Int) ≤ i + 1; omega
  · rw [le_t, den_var, v77]; show (i : Int) + 1 ≤ 6; omega
  · rw [eq_t, int_len, int_mul, den_var, den_var, v77, v78, hl]; show ((73 * (i + 1) : Nat) : Int) = ((i : Int) + 1) * 73; omega
  · show inKinds kHead 0 (ρ' 78).list = true; rw [v78]; exact hk
theorem headsT_ok {ρ : Env} {net : Int} {K : M (V × St)} {B : BK} {Q : BK → Env → V × St → Prop} (hc : GoodInts kChain (chainOf ρ)) (h0 : kmin .i64 ≤ (ρ 0).int ∧ (ρ 0).int ≤ kmax .i64) (hnet : netOf (chainOf ρ) = net) (hK : ∀ B' ρ', AtEnd ρ ρ' → K.ok ΦP headsJ B' ρ' Q) : (headsT net K).ok ΦP headsJ B ρ Q := by
  have hn := tags_den ρ
  have h5 := tags_le (chainOf ρ)
  have hnz := net_in (chainOf ρ)
  rw [hnet] at hnz
  have hkin : ∀ (r : List Int), inKinds kHead 0 (headOf 1 r) = true := fun r => each_in (each_head 1 r (by decide))
  refine ⟨by rw [le_t, den_var]; exact h0.1, by rw [le_t, den_var]; exact h0.2, by rw [le_t, hn]; exact Int.natCast_nonneg _, by rw [lt_t, hn]; show (tagsOf (chainOf ρ) : Int) < 6; omega, fun q => ?_, fun q => ?_⟩
  · rw [lt_t, hn] at q
    have q : (0 : Int) < tagsOf (chainOf ρ) := q
    have hL : (T.den ΦP ρ (tLink (.num 33024))).list = linkH (chainOf ρ) := by rw [den_link hc (z := 33024) rfl (by decide), linkH, if_pos (by omega)]
    refine ⟨⟨0, _, rfl, Nat.zero_le _, rfl, hL, by rw [link_flat], hkin _, (show (0 : Int) ≤ 33024 ∧ (33024 : Int) ≤ 65535 by decide), fun _ => rfl, by rw [Nat.sub_zero, upTags, List.flatten_cons]⟩, ?_⟩
    rintro ds hds ⟨i, row, i0, hi, i2, i3, hl, hk, ht, ht2, hrow⟩
    have sm : Same75 ρ (upd ρ 75 ds) := fun i h => upd_lo ds h
    have e75 : upd ρ 75 ds 75 = nthD ds 0 := upd_at (i := 0) (by omega)
    have e76 : upd ρ 75 ds 76 = nthD ds 1 := upd_at (i := 1) (by omega)
    have e77 : upd ρ 75 ds 77 = nthD ds 2 := upd_at (i := 2) (by omega)
    have e78 : upd ρ 75 ds 78 = nthD ds 3 := upd_at (i := 3) (by omega)
    generalize upd ρ 75 ds = ρ' at *
    have v75 : (ρ' 75).int = i := by rw [e75]; exact i0
    have v77 : (ρ' 77).int = i + 1 := by rw [e77]; exact i2
    have v78 : (ρ' 78).list = row := by rw [e78]; exact i3
    have hn' : (T.den ΦP ρ' nTags).int = tagsOf (chainOf ρ) := by rw [tags_den, same_chain sm]
    have hc' : GoodInts kChain (chainOf ρ') := by rw [same_chain sm]; exact hc
    have hacc : (T.den ΦP ρ' accT).list = row := by
      rw [accT, list_take, int_mul, den_var, den_var, v77, v78]
      exact List.take_of_length_le (by rw [hl]; show _ ≤ (((i : Int) + 1) * 73).toNat; omega)
    refine ⟨hdFs_ok v75 (by omega) (by rw [e76]; exact ht) v77 v78 hl hk, fun c => ?_, fun c => ?_⟩
    · rw [lt_t, den_var, v75, hn'] at c
      obtain ⟨j, hj⟩ : ∃ j, tagsOf (chainOf ρ) - i = j + 1 := ⟨tagsOf (chainOf ρ) - i - 1, by omega⟩
      have step : ∀ {t : T} {z : Int}, (T.den ΦP ρ' t).int = z → (0 ≤ z ∧ z ≤ 65535) → z = (if j = 0 then netOf (chainOf ρ) else 33024) → ∀ {u : T}, (0 ≤ (T.den ΦP ρ' u).int ∧ (T.den ΦP ρ' u).int ≤ 65535) → (i + 1 < tagsOf (chainOf ρ) → (T.den ΦP ρ' u).int = 33024) →
          headsJ.I 0 ρ ([.c2 .add (.var 75) (.num 1), u, .c2 .add (.var 77) (.num 1), .c2 .app accT (tTagT t)].map (T.den ΦP ρ')) ∧ headsJ.μ 0 ρ ([.c2 .add (.var 75) (.num 1), u, .c2 .add (.var 77) (.num 1), .c2 .app accT (tTagT t)].map (T.den ΦP ρ')) < headsJ.μ 0 ρ ds := by
        intro t z htz hz hzz u hu hu2
        have hr : (T.den ΦP ρ' (.c2 .app accT (tTagT t))).list = row ++ headOf 2 (tagF (chainOf ρ) z) := by rw [list_app, hacc, den_tag hc' htz hz, same_chain sm]
        have hw : (T.den ΦP ρ' (.c2 .add (.var 75) (.num 1))).int = ((i + 1 : Nat) : Int) := by rw [int_add, den_var, v75]; rfl
        refine ⟨⟨i + 1, _, hw, by omega, ?_, hr, ?_, ?_, hu, hu2, ?_⟩, ?_⟩
        · show (T.den ΦP ρ' (.c2 .add (.var 77) (.num 1))).int = _; rw [int_add, den_var, v77]; show (i : Int) + 1 + 1 = ((i + 1 : Nat) : Int) + 1; omega
        · rw [List.length_append, hl, head_len 2 _ (by decide)]; omega
        · exact heads_more hk hl (by decide)
        · rw [← hrow, hj, show tagsOf (chainOf ρ) - (i + 1) = j from by omega, tagsR, List.flatten_cons, ← hzz, List.append_assoc]
        · show tagsOf (chainOf ρ) - (T.den ΦP ρ' (.c2 .add (.var 75) (.num 1))).int.toNat < tagsOf (chainOf ρ) - (nthD ds 0).int.toNat
          rw [hw, i0]; omega
      refine ⟨fun d => ?_, fun d => ?_⟩
      · rw [eq_t, int_sub, den_var, v75, hn'] at d
        have d : (i : Int) = (tagsOf (chainOf ρ) : Int) - 1 := d
        exact ok_back (step (t := .num net) (z := net) rfl hnz (by rw [if_pos (by omega), hnet]) (u := .num net) hnz (fun h => by omega))
      · rw [eq_f, int_sub, den_var, v75, hn'] at d
        have d : ¬ (i : Int) = (tagsOf (chainOf ρ) : Int) - 1 := d
        have h76 : (T.den ΦP ρ' (.var 76)).int = 33024 := by rw [den_var, e76]; exact ht2 (by omega)
        exact ok_back (step (t := .var 76) (z := 33024) h76 (by decide) (by rw [if_neg (by omega)]) (u := .var 76) (by rw [h76]; decide) (fun _ => h76))
    · rw [lt_f, den_var, v75, hn'] at c
      have hie : i = tagsOf (chainOf ρ) := by omega
      refine hK _ _ ⟨sm, by rw [v77, hie]; rfl, ?_, by rw [v78, hl, hie]⟩
      rw [hie, Nat.sub_self] at hrow
      rw [v78, ← hrow]; exact (List.append_nil _).symm
  · rw [lt_f, hn] at q
    have q : (tagsOf (chainOf ρ) : Int) ≤ 0 := q
    have hz : tagsOf (chainOf ρ) = 0 := by omega
    have hL : (T.den ΦP ρ (tLink (.num net))).list = linkH (chainOf ρ) := by rw [den_link hc (z := net) rfl hnz, linkH, if_neg (by omega), hnet]
    refine ⟨⟨0, _, rfl, Nat.zero_le _, rfl, hL, by rw [link_flat], hkin _, hnz, fun h => by omega, by rw [Nat.sub_zero, upTags, List.flatten_cons]⟩, ?_⟩
    rintro ds hds ⟨i, row, i0, hi, i2, i3, hl, hk, ht, ht2, hrow⟩
    have sm : Same75 ρ (upd ρ 75 ds) := fun i h => upd_lo ds h
    have e75 : upd ρ 75 ds 75 = nthD ds 0 := upd_at (i := 0) (by omega)
    have e76 : upd ρ 75 ds 76 = nthD ds 1 := upd_at (i := 1) (by omega)
    have e77 : upd ρ 75 ds 77 = nthD ds 2 := upd_at (i := 2) (by omega)
    have e78 : upd ρ 75 ds 78 = nthD ds 3 := upd_at (i := 3) (by omega)
    generalize upd ρ 75 ds = ρ' at *
    have v75 : (ρ' 75).int = i := by rw [e75]; exact i0
    have v77 : (ρ' 77).int = i + 1 := by rw [e77]; exact i2
    have v78 : (ρ' 78).list = row := by rw [e78]; exact i3
    have hie : i = tagsOf (chainOf ρ) := by omega
    refine ⟨hdFs_ok v75 (by omega) (by rw [e76]; exact ht) v77 v78 hl hk, hK _ _ ⟨sm, by rw [v77, hie]; rfl, ?_, by rw [v78, hl, hie]⟩⟩
    rw [hie, Nat.sub_self] at hrow
    rw [v78, ← hrow]; exact (List.append_nil _).symm
/-! Leaves. -/
def hdRes : Res := ⟨.c (.s 9 73 0 (.num 0) chNum), [(9, some ⟨true, .row kHead chRow⟩)], 400⟩
theorem leaf_heads {ρ ρ' : Env} {j n nv : Nat} {tn tr : T} (hj : j < 400) (hn : n ≤ 400) (h1 : (T.den ΦP ρ' tn).int = (chainHeads (chainOf ρ)).length) (h2 : (T.den ΦP ρ' tr).list = (chainHeads (chainOf ρ)).flatten) :
    LeafS 0 ΦP ρ ρ' hdRes (.w (.c (.s j 73 0 (.num 0) tn)), ⟨[], [(j, some ⟨true, .row kHead tr⟩)], n, nv, []⟩) := by
  refine ⟨j, 9, Nat.zero_le _, hj, Nat.zero_le _, by decide, ?_⟩
  have hsw : swN j 9 j = 9 := by unfold swN; rw [if_pos rfl]
  refine ⟨⟨?_, rfl, rfl, rfl, ?_⟩, ⟨?_, rfl, ⟨rfl, ?_⟩, trivial⟩, hn⟩
  · exact hsw
  · rw [h1]; rfl
  · exact hsw
  · rw [h2]; rfl
theorem heads_flat {c : List Int} : (chainHeads c).flatten = (upTags c).flatten ++ (netL c).flatten ∧ (chainHeads c).length = tagsOf c + 1 + (netL c).length := by
  have h1 := (tags_num (c := c) (tagsOf c)).1
  refine ⟨by rw [chainHeads, upTags, List.flatten_cons, List.flatten_cons, List.flatten_append, List.append_assoc], ?_⟩
  rw [chainHeads, List.length_cons, List.length_append, h1]; omega
def outT (j n : Nat) (tn tr : T) : M (V × St) := .ret (.w (.c (.s j 73 0 (.num 0) tn)), ⟨[], [(j, some ⟨true, .row kHead tr⟩)], n, 79, []⟩)
section
variable {ρ ρ' : Env}
theorem acc_end (h : AtEnd ρ ρ') : (T.den ΦP ρ' accT).list = (upTags (chainOf ρ)).flatten := by
  rw [accT, list_take, int_mul, den_var, den_var, h.num, h.row]
  refine List.take_of_length_le ?_
  have := h.len
  rw [h.row] at this
  rw [this]; show _ ≤ (((tagsOf (chainOf ρ) + 1 : Nat) : Int) * 73).toNat; omega
theorem acc2_end (h : AtEnd ρ ρ') {X : T} {x : List Int} (hX : (T.den ΦP ρ' X).list = x) (hx : x.length = 73) : (T.den ΦP ρ' (.c2 .take (.c2 .mul (.c2 .add (.var 77) (.num 1)) (.num 73)) (.c2 .app accT X))).list = (upTags (chainOf ρ)).flatten ++ x := by
  rw [list_take, int_mul, int_add, den_var, h.num, list_app, acc_end h, hX]
  refine List.take_of_length_le ?_
  have := h.len
  rw [h.row] at this
  rw [List.length_append, this, hx]; show _ ≤ ((((tagsOf (chainOf ρ) + 1 : Nat) : Int) + 1) * 73).toNat; omega
theorem end0 (h : AtEnd ρ ρ') (hc : GoodInts kChain (chainOf ρ)) {j n : Nat} (hj : j < 400) (hn : n ≤ 400) (hl : netL (chainOf ρ) = []) {B : BK} : (outT j n (.var 77) (.var 78)).ok ΦP headsJ B ρ' (fun _ ρ' r => LeafS 0 ΦP ρ ρ' hdRes r) := by
  obtain ⟨f1, f2⟩ := heads_flat (c := chainOf ρ)
  rw [hl] at f1 f2
  refine leaf_heads hj hn ?_ ?_
  · rw [den_var, h.num, f2]; rfl
  · rw [den_var, h.row, f1]; exact (List.append_nil _).symm
theorem end1 (h : AtEnd ρ ρ') {X : T} {x : List Int} (hX : (T.den ΦP ρ' X).list = x) {j n : Nat} (hj : j < 400) (hn : n ≤ 400) (hl : netL (chainOf ρ) = [x]) {B : BK} : (outT j n (.c2 .add (.var 77) (.num 1)) (.c2 .app accT X)).ok ΦP headsJ B ρ' (fun _ ρ' r => LeafS 0 ΦP ρ ρ' hdRes r) := by
  obtain ⟨f1, f2⟩ := heads_flat (c := chainOf ρ)
  rw [hl] at f1 f2
  refine leaf_heads hj hn ?_ ?_
  · rw [int_add, den_var, h.num, f2]; show ((tagsOf (chainOf ρ) + 1 : Nat) : Int) + 1 = ((tagsOf (chainOf ρ) + 1 + 1 : Nat) : Int); omega
  · rw [list_app, acc_end h, hX, f1, List.flatten_cons, List.flatten_nil, List.append_nil]
theorem end2 (h : AtEnd ρ ρ') {X Y : T} {x y : List Int} (hX : (T.den ΦP ρ' X).list = x) (hx : x.length = 73) (hY : (T.den ΦP ρ' Y).list = y) {j n : Nat} (hj : j < 400) (hn : n ≤ 400) (hl : netL (chainOf ρ) = [x, y]) {B : BK} :
    (outT j n (.c2 .add (.var 77) (.num 2)) (.c2 .app (.c2 .take (.c2 .mul (.c2 .add (.var 77) (.num 1)) (.num 73)) (.c2 .app accT X)) Y)).ok ΦP headsJ B ρ' (fun _ ρ' r => LeafS 0 ΦP ρ ρ' hdRes r) := by
  obtain ⟨f1, f2⟩ := heads_flat (c := chainOf ρ)
  rw [hl] at f1 f2
  refine leaf_heads hj hn ?_ ?_
  · rw [int_add, den_var, h.num, f2]; show ((tagsOf (chainOf ρ) + 1 : Nat) : Int) + 2 = ((tagsOf (chainOf ρ) + 1 + 2 : Nat) : Int); omega
  · rw [list_app, acc2_end h hX hx, hY, f1, List.flatten_cons, List.flatten_cons, List.flatten_nil, List.append_nil, List.append_assoc]
end
theorem chain_good {ρ : Env} (h : inKinds kChain 0 (chainOf ρ) = true) : GoodInts kChain (chainOf ρ) := by
  rw [inKinds_iff] at h
  refine ⟨by rw [chainOf, vars_len]; rfl, fun i k z h1 h2 => ?_⟩
  have hi : i < 75 := (List.getElem?_eq_some_iff.1 h1).1
  have := h i z h2
  have e : kAt kChain (0 + i) = k := by
    rw [Nat.zero_add, kAt, show kChain.length = 75 from rfl, Nat.mod_eq_of_lt hi, List.getD_eq_getElem?_getD, h1]; rfl
  rw [e] at this; exact this
set_option maxRecDepth 100000 in
theorem heads_ok : TmplOk Go.Proofs.Try.prog ΦP 21 (tHeads 9) := by
  refine tmpl_sw (moreCons (con_ok bring_ok) noCons) treePbHeads_is (fun ρ res hres => ⟨headsJ, ?_⟩)
  obtain ⟨hk, hres⟩ := chk_some hres
  obtain ⟨_, hres⟩ := chk_some hres
  obtain ⟨_, hres⟩ := chk_some hres
  obtain ⟨_, hres⟩ := chk_some hres
  obtain ⟨_, hres⟩ := chk_some hres
  obtain rfl := ret_some hres
  have hc : GoodInts kChain (chainOf ρ) := chain_good hk
  have h0 := cell_in hc (i := 0) (k := .i64) rfl
  rw [chain_g (by decide)] at h0
  have g1 : g (chainOf ρ) 1 = (ρ 1).int := chain_g (by decide)
  have g2 : g (chainOf ρ) 2 = (ρ 2).int := chain_g (by decide)
  have same : ∀ {ρ' : Env}, AtEnd ρ ρ' → GoodInts kChain (chainOf ρ') ∧ chainOf ρ' = chainOf ρ := fun h => ⟨by rw [same_chain h.same]; exact hc, same_chain h.same⟩
  have n4 : ∀ {ρ' : Env} {z : Int}, AtEnd ρ ρ' → (0 ≤ z ∧ z ≤ 255) → (T.den ΦP ρ' (tNet4 (.num z))).list = headOf 3 (net4F (chainOf ρ) z) := fun {ρ'} {z} h hz => by rw [den_net4 (z := z) (same h).1 rfl hz, (same h).2]
  have n6 : ∀ {ρ' : Env} {z : Int}, AtEnd ρ ρ' → (0 ≤ z ∧ z ≤ 255) → (T.den ΦP ρ' (tNet6 (.num z))).list = headOf 4 (net6F (chainOf ρ) z) := fun {ρ'} {z} h hz => by rw [den_net6 (z := z) (same h).1 rfl hz, (same h).2]
  have sg : ∀ {ρ' : Env}, AtEnd ρ ρ' → (T.den ΦP ρ' tSeg).list = headOf 5 (segF (chainOf ρ)) := fun h => by rw [den_seg (same h).1, (same h).2]
  have dg : ∀ {ρ' : Env}, AtEnd ρ ρ' → (T.den ΦP ρ' tDgram).list = headOf 6 (dgramF (chainOf ρ)) := fun h => by rw [den_dgram (same h).1, (same h).2]
  have l3 : ∀ r, (headOf 3 r).length = 73 := fun r => head_len 3 r (by decide)
  have l4 : ∀ r, (headOf 4 r).length = 73 := fun r => head_len 4 r (by decide)
  have tr1 : (ρ 2).int.tmod 3 = 1 → transOf (chainOf ρ) = 6 := fun h => by rw [transOf, g2, if_pos h]
  have tr2 : ¬ (ρ 2).int.tmod 3 = 1 → (ρ 2).int.tmod 3 = 2 → transOf (chainOf ρ) = 17 := fun h h' => by rw [transOf, g2, if_neg h, if_pos h']
  have tr3 : ¬ (ρ 2).int.tmod 3 = 1 → ¬ (ρ 2).int.tmod 3 = 2 → transOf (chainOf ρ) = 99 := fun h h' => by rw [transOf, g2, if_neg h, if_neg h']
  have tl6 : transOf (chainOf ρ) = 6 → transL (chainOf ρ) = [headOf 5 (segF (chainOf ρ))] := fun h => by rw [transL, if_pos h]
  have tl17 : transOf (chainOf ρ) = 17 → transL (chainOf ρ) = [headOf 6 (dgramF (chainOf ρ))] := fun h => by rw [transL, if_neg (by rw [h]; decide), if_pos h]
  have tl99 : transOf (chainOf ρ) = 99 → transL (chainOf ρ) = [] := fun h => by rw [transL, if_neg (by rw [h]; decide), if_neg (by rw [h]; decide)]
  have c3 : ∀ {v : Nat} {z : Int}, (T.den ΦP ρ (.c2 .eq (.c2 .rem (.var v) (.num 3)) (.num z))).bool = true → (ρ v).int.tmod 3 = z := fun h => by rw [eq_t, int_rem, den_var, den_num, den_num] at h; exact h
  have f3 : ∀ {v : Nat} {z : Int}, (T.den ΦP ρ (.c2 .eq (.c2 .rem (.var v) (.num 3)) (.num z))).bool = false → ¬ (ρ v).int.tmod 3 = z := fun h => by rw [eq_f, int_rem, den_var, den_num, den_num] at h; exact h
  refine ⟨fun a1 => ?_, fun a1 => ⟨fun a2 => ?_, fun a2 => ?_⟩⟩
  · have hnet : netOf (chainOf ρ) = 2048 := by rw [netOf, g1, if_pos (c3 a1)]
    have nl : netL (chainOf ρ) = headOf 3 (net4F (chainOf ρ) (transOf (chainOf ρ))) :: transL (chainOf ρ) := by rw [netL, if_pos hnet]
    refine ⟨fun b1 => ?_, fun b1 => ⟨fun b2 => ?_, fun b2 => ?_⟩⟩
    · have ht := tr1 (c3 b1)
      exact headsT_ok (net := 2048) (K := outT 10 11 (.c2 .add (.var 77) (.num 2)) (.c2 .app (.c2 .take (.c2 .mul (.c2 .add (.var 77) (.num 1)) (.num 73)) (.c2 .app accT (tNet4 (.num 6)))) tSeg)) hc h0 hnet (fun B' ρ' h => end2 h (n4 h (by decide)) (l3 _) (sg h) (by decide) (by decide) (by rw [nl, tl6 ht, ht]))
    · have ht := tr2 (f3 b1) (c3 b2)
      exact headsT_ok (net := 2048) (K := outT 9 10 (.c2 .add (.var 77) (.num 2)) (.c2 .app (.c2 .take (.c2 .mul (.c2 .add (.var 77) (.num 1)) (.num 73)) (.c2 .app accT (tNet4 (.num 17)))) tDgram)) hc h0 hnet (fun B' ρ' h => end2 h (n4 h (by decide)) (l3 _) (dg h) (by decide) (by decide) (by rw [nl, tl17 ht, ht]))
    · have ht := tr3 (f3 b1) (f3 b2)
      exact headsT_ok (net := 2048) (K := outT 7 8 (.c2 .add (.var 77) (.num 1)) (.c2 .app accT (tNet4 (.num 99)))) hc h0 hnet (fun B' ρ' h => end1 h (n4 h (by decide)) (by decide) (by decide) (by rw [nl, tl99 ht, ht]))
  · have hnet : netOf (chainOf ρ) = 34525 := by rw [netOf, g1, if_neg (f3 a1), if_pos (c3 a2)]
    have nl : netL (chainOf ρ) = headOf 4 (net6F (chainOf ρ) (transOf (chainOf ρ))) :: transL (chainOf ρ) := by rw [netL, if_neg (by rw [hnet]; decide), if_pos hnet]
    refine ⟨fun b1 => ?_, fun b1 => ⟨fun b2 => ?_, fun b2 => ?_⟩⟩
    · have ht := tr1 (c3 b1)
      exact headsT_ok (net := 34525) (K := outT 10 11 (.c2 .add (.var 77) (.num 2)) (.c2 .app (.c2 .take (.c2 .mul (.c2 .add (.var 77) (.num 1)) (.num 73)) (.c2 .app accT (tNet6 (.num 6)))) tSeg)) hc h0 hnet (fun B' ρ' h => end2 h (n6 h (by decide)) (l4 _) (sg h) (by decide) (by decide) (by rw [nl, tl6 ht, ht]))
    · have ht := tr2 (f3 b1) (c3 b2)
      exact headsT_ok (net := 34525) (K := outT 9 10 (.c2 .add (.var 77) (.num 2)) (.c2 .app (.c2 .take (.c2 .mul (.c2 .add (.var 77) (.num 1)) (.num 73)) (.c2 .app accT (tNet6 (.num 17)))) tDgram)) hc h0 hnet (fun B' ρ' h => end2 h (n6 h (by decide)) (l4 _) (dg h) (by decide) (by decide) (by rw [nl, tl17 ht, ht]))
    · have ht := tr3 (f3 b1) (f3 b2)
      exact headsT_ok (net := 34525) (K := outT 7 8 (.c2 .add (.var 77) (.num 1)) (.c2 .app accT (tNet6 (.num 99)))) hc h0 hnet (fun B' ρ' h => end1 h (n6 h (by decide)) (by decide) (by decide) (by rw [nl, tl99 ht, ht]))
  · have hnet : netOf (chainOf ρ) = 4660 := by rw [netOf, g1, if_neg (f3 a1), if_neg (f3 a2)]
    have nl : netL (chainOf ρ) = [] := by rw [netL, if_neg (by rw [hnet]; decide), if_neg (by rw [hnet]; decide)]
    refine ⟨fun b1 => ?_, fun b1 => ⟨fun b2 => ?_, fun b2 => ?_⟩⟩
    all_goals exact headsT_ok (net := 4660) (K := outT 4 5 (.var 77) (.var 78)) hc h0 hnet (fun B' ρ' h => end0 h hc (by decide) (by decide) nl)
end Go.Proofs.Ytbiodlomlendkaa.Sx
/- Sx: what Go function 18 does, as a tree of conditions (printed by a tool of this claim, proved by the kernel). Conditions: none. -/
set_option maxRecDepth 100000
namespace Go.Proofs.Ytbiodlomlendkaa.Sx
open Go
def treePeNext : M (V × St) :=
(.split (.c2 .eq (.var 0) (.num 1))
 (.split (.c2 .eq (.var 13) (.num 33024))
  (.ret (.t [.c (.i .u8 (.num 2)), .c (.b (.bol true))], ⟨[], [], 1, 73, []⟩))
  (.split (.c2 .eq (.var 13) (.num 2048))
   (.ret (.t [.c (.i .u8 (.num 3)), .c (.b (.bol true))], ⟨[], [], 1, 73, []⟩))
   (.split (.c2 .eq (.var 13) (.num 34525))
    (.ret (.t [.c (.i .u8 (.num 4)), .c (.b (.bol true))], ⟨[], [], 1, 73, []⟩))
    (.ret (.t [.c (.i .u8 (.num 0)), .c (.b (.bol false))], ⟨[], [], 1, 73, []⟩)))))
 (.split (.c2 .eq (.var 0) (.num 2))
  (.split (.c2 .eq (.var 16) (.num 33024))
   (.ret (.t [.c (.i .u8 (.num 2)), .c (.b (.bol true))], ⟨[], [], 1, 73, []⟩))
   (.split (.c2 .eq (.var 16) (.num 2048))
    (.ret (.t [.c (.i .u8 (.num 3)), .c (.b (.bol true))], ⟨[], [], 1, 73, []⟩))
    (.split (.c2 .eq (.var 16) (.num 34525))
     (.ret (.t [.c (.i .u8 (.num 4)), .c (.b (.bol true))], ⟨[], [], 1, 73, []⟩))
     (.ret (.t [.c (.i .u8 (.num 0)), .c (.b (.bol false))], ⟨[], [], 1, 73, []⟩)))))
  (.split (.c2 .eq (.var 0) (.num 3))
   (.split (.c2 .eq (.var 19) (.num 6))
    (.ret (.t [.c (.i .u8 (.num 5)), .c (.b (.bol true))], ⟨[], [], 1, 73, []⟩))
    (.split (.c2 .eq (.var 19) (.num 17))
     (.ret (.t [.c (.i .u8 (.num 6)), .c (.b (.bol true))], ⟨[], [], 1, 73, []⟩))
     (.ret (.t [.c (.i .u8 (.num 0)), .c (.b (.bol false))], ⟨[], [], 1, 73, []⟩))))
   (.split (.c2 .eq (.var 0) (.num 4))
    (.split (.c2 .eq (.var 31) (.num 6))
     (.ret (.t [.c (.i .u8 (.num 5)), .c (.b (.bol true))], ⟨[], [], 1, 73, []⟩))
     (.split (.c2 .eq (.var 31) (.num 17))
      (.ret (.t [.c (.i .u8 (.num 6)), .c (.b (.bol true))], ⟨[], [], 1, 73, []⟩))
      (.ret (.t [.c (.i .u8 (.num 0)), .c (.b (.bol false))], ⟨[], [], 1, 73, []⟩))))
    (.ret (.t [.c (.i .u8 (.num 0)), .c (.b (.bol false))], ⟨[], [], 1, 73, []⟩))))))
theorem treePeNext_is : funTree (ctxN Go.Proofs.Try.prog annsPe [] 8) annsPe 18 tNext.vs tNext.bs tNext.n (preF tNext.res) = treePeNext := by kernel_rfl
end Go.Proofs.Ytbiodlomlendkaa.Sx
/- Sx: what Go function 19 does, as a tree of conditions (printed by a tool of this claim, proved by the kernel). Conditions: none. -/
set_option maxRecDepth 100000
namespace Go.Proofs.Ytbiodlomlendkaa.Sx
open Go
def treePeNextR : M (V × St) :=
(.split (.c2 .eq (.var 0) (.num 1))
 (.split (.c2 .eq (.var 13) (.num 33024))
  (.ret (.t [.c (.i .u8 (.num 2)), .c (.b (.bol true))], ⟨[], [], 1, 73, []⟩))
  (.split (.c2 .eq (.var 13) (.num 2048))
   (.ret (.t [.c (.i .u8 (.num 3)), .c (.b (.bol true))], ⟨[], [], 1, 73, []⟩))
   (.split (.c2 .eq (.var 13) (.num 34525))
    (.ret (.t [.c (.i .u8 (.num 4)), .c (.b (.bol true))], ⟨[], [], 1, 73, []⟩))
    (.ret (.t [.c (.i .u8 (.num 0)), .c (.b (.bol false))], ⟨[], [], 1, 73, []⟩)))))
 (.split (.c2 .eq (.var 0) (.num 2))
  (.split (.c2 .eq (.var 16) (.num 33024))
   (.ret (.t [.c (.i .u8 (.num 2)), .c (.b (.bol true))], ⟨[], [], 1, 73, []⟩))
   (.split (.c2 .eq (.var 16) (.num 2048))
    (.ret (.t [.c (.i .u8 (.num 3)), .c (.b (.bol true))], ⟨[], [], 1, 73, []⟩))
    (.split (.c2 .eq (.var 16) (.num 34525))
     (.ret (.t [.c (.i .u8 (.num 4)), .c (.b (.bol true))], ⟨[], [], 1, 73, []⟩))
     (.ret (.t [.c (.i .u8 (.num 0)), .c (.b (.bol false))], ⟨[], [], 1, 73, []⟩)))))
  (.split (.c2 .eq (.var 0) (.num 3))
   (.split (.c2 .eq (.var 19) (.num 6))
    (.ret (.t [.c (.i .u8 (.num 5)), .c (.b (.bol true))], ⟨[], [], 1, 73, []⟩))
    (.split (.c2 .eq (.var 19) (.num 17))
     (.ret (.t [.c (.i .u8 (.num 6)), .c (.b (.bol true))], ⟨[], [], 1, 73, []⟩))
     (.ret (.t [.c (.i .u8 (.num 0)), .c (.b (.bol false))], ⟨[], [], 1, 73, []⟩))))
   (.split (.c2 .eq (.var 0) (.num 4))
    (.split (.c2 .eq (.var 31) (.num 6))
     (.ret (.t [.c (.i .u8 (.num 5)), .c (.b (.bol true))], ⟨[], [], 1, 73, []⟩))
     (.split (.c2 .eq (.var 31) (.num 17))
      (.ret (.t [.c (.i .u8 (.num 6)), .c (.b (.bol true))], ⟨[], [], 1, 73, []⟩))
      (.ret (.t [.c (.i .u8 (.num 0)), .c (.b (.bol false))], ⟨[], [], 1, 73, []⟩))))
    (.ret (.t [.c (.i .u8 (.num 0)), .c (.b (.bol false))], ⟨[], [], 1, 73, []⟩))))))
theorem treePeNextR_is : funTree (ctxN Go.Proofs.Try.prog annsPe [] 8) annsPe 19 tNext.vs tNext.bs tNext.n (preF tNext.res) = treePeNextR := by kernel_rfl
end Go.Proofs.Ytbiodlomlendkaa.Sx
/- Sx: what Go function 11 does, as a tree of conditions (printed by a tool of this claim, proved by the kernel). Conditions: none. -/
set_option maxRecDepth 100000
namespace Go.Proofs.Ytbiodlomlendkaa.Sx
open Go
def treePePeel : M (V × St) :=
(.loop 0 1 6 [(.num 0), (.num 1), (.bol true), (.num 0), (.c1 .len (.var 0)), .nil] [((.c2 .le (.num 0) (.var 1)), true), ((.c2 .le (.var 1) (.num 8)), true), ((.c2 .le (.num 0) (.var 2)), true), ((.c2 .le (.var 2) (.num 6)), true), ((.c2 .le (.num 0) (.var 4)), true), ((.c2 .le (.num 0) (.var 5)), true), ((.c2 .eq (.c2 .add (.var 4) (.var 5)) (.c1 .len (.var 0))), true), ((.c2 .eq (.c1 .len (.var 6)) (.c2 .mul (.var 1) (.num 73))), true), ((.c1 (.kin [.u8, .u8, .u8, .u8, .u8, .u8, .u8, .u8, .u8, .u8, .u8, .u8, .u8, .u16, .u8, .u16, .u16, .u8, .u8, .u8, .u16, .u8, .u8, .u8, .u8, .u8, .u8, .u8, .u8, .u8, .u32, .u8, .u8, .u8, .u8, .u8, .u8, .u8, .u8, .u8, .u8, .u8, .u8, .u8, .u8, .u8, .u8, .u8, .u8, .u8, .u8, .u8, .u8, .u8, .u8, .u8, .u8, .u8, .u8, .u8, .u8, .u8, .u8, .u8, .u8, .u16, .u16, .u32, .u32, .u8, .u16, .u16, .u16]) (.var 6)), true)]
 (.split (.var 3)
  (.split (.c2 .eq (.var 1) (.num 8))
   (.ret (.t [.c (.sn), .c (.sn), .c (.i .i64 (.num 3))], ⟨[], [], 4, 7, []⟩))
   (.split (.c2 .eq (.var 2) (.num 0))
    (.fail 152)
    (.split (.c2 .eq (.var 2) (.num 1))
     (.chk (.c1 (.kin [.u8]) (.c2 .drop (.var 4) (.var 0)))
     (.split (.c1 .not (.c2 .eq (.fn 21 (.c2 .drop (.var 4) (.var 0)) .nil .nil) (.num 0)))
      (.ret (.t [.c (.sn), .c (.sn), .c (.i .i64 (.fn 21 (.c2 .drop (.var 4) (.var 0)) .nil .nil))], ⟨[], [], 65, 7, []⟩))
      (.chk (.c2 .le (.num 14) (.var 5))
      (.back 0 1 [(.c2 .add (.var 1) (.num 1)), (.wr .u8 (.fn 54 (.cons (.var 2) (.cons (.wr .u8 (.c2 .rd (.fn 11 (.c2 .drop (.var 4) (.var 0)) .nil .nil) (.num 0))) (.cons (.wr .u8 (.c2 .rd (.fn 11 (.c2 .drop (.var 4) (.var 0)) .nil .nil) (.num 1))) (.cons (.wr .u8 (.c2 .rd (.fn 11 (.c2 .drop (.var 4) (.var 0)) .nil .nil) (.num 2))) (.cons (.wr .u8 (.c2 .rd (.fn 11 (.c2 .drop (.var 4) (.var 0)) .nil .nil) (.num 3))) (.cons (.wr .u8 (.c2 .rd (.fn 11 (.c2 .drop (.var 4) (.var 0)) .nil .nil) (.num 4))) (.cons (.wr .u8 (.c2 .rd (.fn 11 (.c2 .drop (.var 4) (.var 0)) .nil .nil) (.num 5))) (.cons (.wr .u8 (.c2 .rd (.fn 11 (.c2 .drop (.var 4) (.var 0)) .nil .nil) (.num 6))) (.cons (.wr .u8 (.c2 .rd (.fn 11 (.c2 .drop (.var 4) (.var 0)) .nil .nil) (.num 7))) (.cons (.wr .u8 (.c2 .rd (.fn 11 (.c2 .drop (.var 4) (.var 0)) .nil .nil) (.num 8))) (.cons (.wr .u8 (.c2 .rd (.fn 11 (.c2 .drop (.var 4) (.var 0)) .nil .nil) (.num 9))) (.cons (.wr .u8 (.c2 .rd (.fn 11 (.c2 .drop (.var 4) (.var 0)) .nil .nil) (.num 10))) (.cons (.wr .u8 (.c2 .rd (.fn 11 (.c2 .drop (.var 4) (.var 0)) .nil .nil) (.num 11))) (.cons (.wr .u16 (.c2 .rd (.fn 11 (.c2 .drop (.var 4) (.var 0)) .nil .nil) (.num 12))) (.cons (.num 0) (.cons (.num 0) (.cons (.num 0) (.cons (.num 0) (.cons (.num 0) (.cons (.num 0) (.cons (.num 0) (.cons (.num 0) (.cons (.num 0) (.cons (.num 0) (.cons (.num 0) (.cons (.num 0) (.cons (.num 0) (.cons (.num 0) (.cons (.num 0) (.cons (.num 0) (.cons (.num 0) (.cons (.num 0) (.cons (.num 0) (.cons (.num 0) (.cons (.num 0) (.cons (.num 0) (.cons (.num 0) (.cons (.num 0) (.cons (.num 0) (.cons (.num 0) (.cons (.num 0) (.cons (.num 0) (.cons (.num 0) (.cons (.num 0) (.cons (.num 0) (.cons (.num 0) (.cons (.num 0) (.cons (.num 0) (.cons (.num 0) (.cons (.num 0) (.cons (.num 0) (.cons (.num 0) (.cons (.num 0) (.cons (.num 0) (.cons (.num 0) (.cons (.num 0) (.cons (.num 0) (.cons (.num 0) (.cons (.num 0) (.cons (.num 0) (.cons (.num 0) (.cons (.num 0) (.cons (.num 0) (.cons (.num 0) (.cons (.num 0) (.cons (.num 0) (.cons (.num 0) (.cons (.num 0) (.cons (.num 0) (.cons (.num 0) (.cons (.num 0) (.cons (.num 0) (.cons (.num 0) .nil))))))))))))))))))))))))))))))))))))))))))))))))))))))))))))))))))))))))) .nil .nil)), (.c1 .not (.c2 .eq (.wr .u8 (.fn 54 (.cons (.var 2) (.cons (.wr .u8 (.c2 .rd (.fn 11 (.c2 .drop (.var 4) (.var 0)) .nil .nil) (.num 0))) (.cons (.wr .u8 (.c2 .rd (.fn 11 (.c2 .drop (.var 4) (.var 0)) .nil .nil) (.num 1))) (.cons (.wr .u8 (.c2 .rd (.fn 11 (.c2 .drop (.var 4) (.var 0)) .nil .nil) (.num 2))) (.cons (.wr .u8 (.c2 .rd (.fn 11 (.c2 .drop (.var 4) (.var 0)) .nil .nil) (.num 3))) (.cons (.wr .u8 (.c2 .rd (.fn 11 (.c2 .drop (.var 4) (.var 0)) .nil .nil) (.num 4))) (.cons (.wr .u8 (.c2 .rd (.fn 11 (.c2 .drop (.var 4) (.var 0)) .nil .nil) (.num 5))) (.cons (.wr .u8 (.c2 .rd (.fn 11 (.c2 .drop (.var 4) (.var 0)) .nil .nil) (.num 6))) (.cons (.wr .u8 (.c2 .rd (.fn 11 (.c2 .drop (.var 4) (.var 0)) .nil .nil) (.num 7))) (.cons (.wr .u8 (.c2 .rd (.fn 11 (.c2 .drop (.var 4) (.var 0)) .nil .nil) (.num 8))) (.cons (.wr .u8 (.c2 .rd (.fn 11 (.c2 .drop (.var 4) (.var 0)) .nil .nil) (.num 9))) (.cons (.wr .u8 (.c2 .rd (.fn 11 (.c2 .drop (.var 4) (.var 0)) .nil .nil) (.num 10))) (.cons (.wr .u8 (.c2 .rd (.fn 11 (.c2 .drop (.var 4) (.var 0)) .nil .nil) (.num 11))) (.cons (.wr .u16 (.c2 .rd (.fn 11 (.c2 .drop (.var 4) (.var 0)) .nil .nil) (.num 12))) (.cons (.num 0) (.cons (.num 0) (.cons (.num 0) (.cons (.num 0) (.cons (.num 0) (.cons (.num 0) (.cons (.num 0) (.cons (.num 0) (.cons (.num 0) (.cons (.num 0) (.cons (.num 0) (.cons (.num 0) (.cons (.num 0) (.cons (.num 0) (.cons (.num 0) (.cons (.num 0) (.cons (.num 0) (.cons (.num 0) (.cons (.num 0) (.cons (.num 0) (.cons (.num 0) (.cons (.num 0) (.cons (.num 0) (.cons (.num 0) (.cons (.num 0) (.cons (.num 0) (.cons (.num 0) (.cons (.num 0) (.cons (.num 0) (.cons (.num 0) (.cons (.num 0) (.cons (.num 0) (.cons (.num 0) (.cons (.num 0) (.cons (.num 0) (.cons (.num 0) (.cons (.num 0) (.cons (.num 0) (.cons (.num 0) (.cons (.num 0) (.cons (.num 0) (.cons (.num 0) (.cons (.num 0) (.cons (.num 0) (.cons (.num 0) (.cons (.num 0) (.cons (.num 0) (.cons (.num 0) (.cons (.num 0) (.cons (.num 0) (.cons (.num 0) (.cons (.num 0) (.cons (.num 0) (.cons (.num 0) (.cons (.num 0) (.cons (.num 0) (.cons (.num 0) (.cons (.num 0) (.cons (.num 0) .nil))))))))))))))))))))))))))))))))))))))))))))))))))))))))))))))))))))))))) .nil .nil)) (.num 0))), (.c2 .add (.var 4) (.num 14)), (.c2 .sub (.var 5) (.num 14)), (.c2 .app (.c2 .take (.c2 .mul (.var 1) (.num 73)) (.var 6)) (.cons (.var 2) (.cons (.wr .u8 (.c2 .rd (.fn 11 (.c2 .drop (.var 4) (.var 0)) .nil .nil) (.num 0))) (.cons (.wr .u8 (.c2 .rd (.fn 11 (.c2 .drop (.var 4) (.var 0)) .nil .nil) (.num 1))) (.cons (.wr .u8 (.c2 .rd (.fn 11 (.c2 .drop (.var 4) (.var 0)) .nil .nil) (.num 2))) (.cons (.wr .u8 (.c2 .rd (.fn 11 (.c2 .drop (.var 4) (.var 0)) .nil .nil) (.num 3))) (.cons (.wr .u8 (.c2 .rd (.fn 11 (.c2 .drop (.var 4) (.var 0)) .nil .nil) (.num 4))) (.cons (.wr .u8 (.c2 .rd (.fn 11 (.c2 .drop (.var 4) (.var 0)) .nil .nil) (.num 5))) (.cons (.wr .u8 (.c2 .rd (.fn 11 (.c2 .drop (.var 4) (.var 0)) .nil .nil) (.num 6))) (.cons (.wr .u8 (.c2 .rd (.fn 11 (.c2 .drop (.var 4) (.var 0)) .nil .nil) (.num 7))) (.cons (.wr .u8 (.c2 .rd (.fn 11 (.c2 .drop (.var 4) (.var 0)) .nil .nil) (.num 8))) (.cons (.wr .u8 (.c2 .rd (.fn 11 (.c2 .drop (.var 4) (.var 0)) .nil .nil) (.num 9))) (.cons (.wr .u8 (.c2 .rd (.fn 11 (.c2 .drop (.var 4) (.var 0)) .nil .nil) (.num 10))) (.cons (.wr .u8 (.c2 .rd (.fn 11 (.c2 .drop (.var 4) (.var 0)) .nil .nil) (.num 11))) (.cons (.wr .u16 (.c2 .rd (.fn 11 (.c2 .drop (.var 4) (.var 0)) .nil .nil) (.num 12))) (.cons (.num 0) (.cons (.num 0) (.cons (.num 0) (.cons (.num 0) (.cons (.num 0) (.cons (.num 0) (.cons (.num 0) (.cons (.num 0) (.cons (.num 0) (.cons (.num 0) (.cons (.num 0) (.cons (.num 0) (.cons (.num 0) (.cons (.num 0) (.cons (.num 0) (.cons (.num 0) (.cons (.num 0) (.cons (.num 0) (.cons (.num 0) (.cons (.num 0) (.cons (.num 0) (.cons (.num 0) (.cons (.num 0) (.cons (.num 0) (.cons (.num 0) (.cons (.num 0) (.cons (.num 0) (.cons (.num 0) (.cons (.num 0) (.cons (.num 0) (.cons (.num 0) (.cons (.num 0) (.cons (.num 0) (.cons (.num 0) (.cons (.num 0) (.cons (.num 0) (.cons (.num 0) (.cons (.num 0) (.cons (.num 0) (.cons (.num 0) (.cons (.num 0) (.cons (.num 0) (.cons (.num 0) (.cons (.num 0) (.cons (.num 0) (.cons (.num 0) (.cons (.num 0) (.cons (.num 0) (.cons (.num 0) (.cons (.num 0) (.cons (.num 0) (.cons (.num 0) (.cons (.num 0) (.cons (.num 0) (.cons (.num 0) (.cons (.num 0) (.cons (.num 0) (.cons (.num 0) (.cons (.num 0) .nil))))))))))))))))))))))))))))))))))))))))))))))))))))))))))))))))))))))))))]))))
     (.split (.c2 .eq (.var 2) (.num 2))
      (.chk (.c1 (.kin [.u8]) (.c2 .drop (.var 4) (.var 0)))
      (.split (.c1 .not (.c2 .eq (.fn 22 (.c2 .drop (.var 4) (.var 0)) .nil .nil) (.num 0)))
       (.ret (.t [.c (.sn), .c (.sn), .c (.i .i64 (.fn 22 (.c2 .drop (.var 4) (.var 0)) .nil .nil))], ⟨[], [], 65, 7, []⟩))
       (.chk (.c2 .le (.num 4) (.var 5))
       (.back 0 1 [(.c2 .add (.var 1) (.num 1)), (.wr .u8 (.fn 54 (.cons (.var 2) (.cons (.num 0) (.cons (.num 0) (.cons (.num 0) (.cons (.num 0) (.cons (.num 0) (.cons (.num 0) (.cons (.num 0) (.cons (.num 0) (.cons (.num 0) (.cons (.num 0) (.cons (.num 0) (.cons (.num 0) (.cons (.num 0) (.cons (.wr .u8 (.c2 .rd (.fn 12 (.c2 .drop (.var 4) (.var 0)) .nil .nil) (.num 0))) (.cons (.wr .u16 (.c2 .rd (.fn 12 (.c2 .drop (.var 4) (.var 0)) .nil .nil) (.num 1))) (.cons (.wr .u16 (.c2 .rd (.fn 12 (.c2 .drop (.var 4) (.var 0)) .nil .nil) (.num 2))) (.cons (.num 0) (.cons (.num 0) (.cons (.num 0) (.cons (.num 0) (.cons (.num 0) (.cons (.num 0) (.cons (.num 0) (.cons (.num 0) (.cons (.num 0) (.cons (.num 0) (.cons (.num 0) (.cons (.num 0) (.cons (.num 0) (.cons (.num 0) (.cons (.num 0) (.cons (.num 0) (.cons (.num 0) (.cons (.num 0) (.cons (.num 0) (.cons (.num 0) (.cons (.num 0) (.cons (.num 0) (.cons (.num 0) (.cons (.num 0) (.cons (.num 0) (.cons (.num 0) (.cons (.num 0) (.cons (.num 0) (.cons (.num 0) (.cons (.num 0) (.cons (.num 0) (.cons (.num 0) (.cons (.num 0) (.cons (.num 0) (.cons (.num 0) (.cons (.num 0) (.cons (.num 0) (.cons (.num 0) (.cons (.num 0) (.cons (.num 0) (.cons (.num 0) (.cons (.num 0) (.cons (.num 0) (.cons (.num 0) (.cons (.num 0) (.cons (.num 0) (.cons (.num 0) (.cons (.num 0) (.cons (.num 0) (.cons (.num 0) (.cons (.num 0) (.cons (.num 0) (.cons (.num 0) (.cons (.num 0) (.cons (.num 0) (.cons (.num 0) .nil))))))))))))))))))))))))))))))))))))))))))))))))))))))))))))))))))))))))) .nil .nil)), (.c1 .not (.c2 .eq (.wr .u8 (.fn 54 (.cons (.var 2) (.cons (.num 0) (.cons (.num 0) (.cons (.num 0) (.cons (.num 0) (.cons (.num 0) (.cons (.num 0) (.cons (.num 0) (.cons (.num 0) (.cons (.num 0) (.cons (.num 0) (.cons (.num 0) (.cons (.num 0) (.cons (.num 0) (.cons (.wr .u8 (.c2 .rd (.fn 12 (.c2 .drop (.var 4) (.var 0)) .nil .nil) (.num 0))) (.cons (.wr .u16 (.c2 .rd (.fn 12 (.c2 .drop (.var 4) (.var 0)) .nil .nil) (.num 1))) (.cons (.wr .u16 (.c2 .rd (.fn 12 (.c2 .drop (.var 4) (.var 0)) .nil .nil) (.num 2))) (.cons (.num 0) (.cons (.num 0) (.cons (.num 0) (.cons (.num 0) (.cons (.num 0) (.cons (.num 0) (.cons (.num 0) (.cons (.num 0) (.cons (.num 0) (.cons (.num 0) (.cons (.num 0) (.cons (.num 0) (.cons (.num 0) (.cons (.num 0) (.cons (.num 0) (.cons (.num 0) (.cons (.num 0) (.cons (.num 0) (.cons (.num 0) (.cons (.num 0) (.cons (.num 0) (.cons (.num 0) (.cons (.num 0) (.cons (.num 0) (.cons (.num 0) (.cons (.num 0) (.cons (.num 0) (.cons (.num 0) (.cons (.num 0) (.cons (.num 0) (.cons (.num 0) (.cons (.num 0) (.cons (.num 0) (.cons (.num 0) (.cons (.num 0) (.cons (.num 0) (.cons (.num 0) (.cons (.num 0) (.cons (.num 0) (.cons (.num 0) (.cons (.num 0) (.cons (.num 0) (.cons (.num 0) (.cons (.num 0) (.cons (.num 0) (.cons (.num 0) (.cons (.num 0) (.cons (.num 0) (.cons (.num 0) (.cons (.num 0) (.cons (.num 0) (.cons (.num 0) (.cons (.num 0) (.cons (.num 0) (.cons (.num 0) (.cons (.num 0) .nil))))))))))))))))))))))))))))))))))))))))))))))))))))))))))))))))))))))))) .nil .nil)) (.num 0))), (.c2 .add (.var 4) (.num 4)), (.c2 .sub (.var 5) (.num 4)), (.c2 .app (.c2 .take (.c2 .mul (.var 1) (.num 73)) (.var 6)) (.cons (.var 2) (.cons (.num 0) (.cons (.num 0) (.cons (.num 0) (.cons (.num 0) (.cons (.num 0) (.cons (.num 0) (.cons (.num 0) (.cons (.num 0) (.cons (.num 0) (.cons (.num 0) (.cons (.num 0) (.cons (.num 0) (.cons (.num 0) (.cons (.wr .u8 (.c2 .rd (.fn 12 (.c2 .drop (.var 4) (.var 0)) .nil .nil) (.num 0))) (.cons (.wr .u16 (.c2 .rd (.fn 12 (.c2 .drop (.var 4) (.var 0)) .nil .nil) (.num 1))) (.cons (.wr .u16 (.c2 .rd (.fn 12 (.c2 .drop (.var 4) (.var 0)) .nil .nil) (.num 2))) (.cons (.num 0) (.cons (.num 0) (.cons (.num 0) (.cons (.num 0) (.cons (.num 0) (.cons (.num 0) (.cons (.num 0) (.cons (.num 0) (.cons (.num 0) (.cons (.num 0) (.cons (.num 0) (.cons (.num 0) (.cons (.num 0) (.cons (.num 0) (.cons (.num 0) (.cons (.num 0) (.cons (.num 0) (.cons (.num 0) (.cons (.num 0) (.cons (.num 0) (.cons (.num 0) (.cons (.num 0) (.cons (.num 0) (.cons (.num 0) (.cons (.num 0) (.cons (.num 0) (.cons (.num 0) (.cons (.num 0) (.cons (.num 0) (.cons (.num 0) (.cons (.num 0) (.cons (.num 0) (.cons (.num 0) (.cons (.num 0) (.cons (.num 0) (.cons (.num 0) (.cons (.num 0) (.cons (.num 0) (.cons (.num 0) (.cons (.num 0) (.cons (.num 0) (.cons (.num 0) (.cons (.num 0) (.cons (.num 0) (.cons (.num 0) (.cons (.num 0) (.cons (.num 0) (.cons (.num 0) (.cons (.num 0) (.cons (.num 0) (.cons (.num 0) (.cons (.num 0) (.cons (.num 0) (.cons (.num 0) (.cons (.num 0) (.cons (.num 0) .nil))))))))))))))))))))))))))))))))))))))))))))))))))))))))))))))))))))))))))]))))
      (.split (.c2 .eq (.var 2) (.num 3))
       (.chk (.c1 (.kin [.u8]) (.c2 .drop (.var 4) (.var 0)))
       (.split (.c1 .not (.c2 .eq (.fn 23 (.c2 .drop (.var 4) (.var 0)) .nil .nil) (.num 0)))
        (.ret (.t [.c (.sn), .c (.sn), .c (.i .i64 (.fn 23 (.c2 .drop (.var 4) (.var 0)) .nil .nil))], ⟨[], [], 65, 7, []⟩))
        (.chk (.c2 .le (.num 20) (.var 5))
        (.back 0 1 [(.c2 .add (.var 1) (.num 1)), (.wr .u8 (.fn 54 (.cons (.var 2) (.cons (.num 0) (.cons (.num 0) (.cons (.num 0) (.cons (.num 0) (.cons (.num 0) (.cons (.num 0) (.cons (.num 0) (.cons (.num 0) (.cons (.num 0) (.cons (.num 0) (.cons (.num 0) (.cons (.num 0) (.cons (.num 0) (.cons (.num 0) (.cons (.num 0) (.cons (.num 0) (.cons (.wr .u8 (.c2 .rd (.fn 13 (.c2 .drop (.var 4) (.var 0)) .nil .nil) (.num 0))) (.cons (.wr .u8 (.c2 .rd (.fn 13 (.c2 .drop (.var 4) (.var 0)) .nil .nil) (.num 1))) (.cons (.wr .u8 (.c2 .rd (.fn 13 (.c2 .drop (.var 4) (.var 0)) .nil .nil) (.num 2))) (.cons (.wr .u16 (.c2 .rd (.fn 13 (.c2 .drop (.var 4) (.var 0)) .nil .nil) (.num 3))) (.cons (.wr .u8 (.c2 .rd (.fn 13 (.c2 .drop (.var 4) (.var 0)) .nil .nil) (.num 4))) (.cons (.wr .u8 (.c2 .rd (.fn 13 (.c2 .drop (.var 4) (.var 0)) .nil .nil) (.num 5))) (.cons (.wr .u8 (.c2 .rd (.fn 13 (.c2 .drop (.var 4) (.var 0)) .nil .nil) (.num 6))) (.cons (.wr .u8 (.c2 .rd (.fn 13 (.c2 .drop (.var 4) (.var 0)) .nil .nil) (.num 7))) (.cons (.wr .u8 (.c2 .rd (.fn 13 (.c2 .drop (.var 4) (.var 0)) .nil .nil) (.num 8))) (.cons (.wr .u8 (.c2 .rd (.fn 13 (.c2 .drop (.var 4) (.var 0)) .nil .nil) (.num 9))) (.cons (.wr .u8 (.c2 .rd (.fn 13 (.c2 .drop (.var 4) (.var 0)) .nil .nil) (.num 10))) (.cons (.wr .u8 (.c2 .rd (.fn 13 (.c2 .drop (.var 4) (.var 0)) .nil .nil) (.num 11))) (.cons (.num 0) (.cons (.num 0) (.cons (.num 0) (.cons (.num 0) (.cons (.num 0) (.cons (.num 0) (.cons (.num 0) (.cons (.num 0) (.cons (.num 0) (.cons (.num 0) (.cons (.num 0) (.cons (.num 0) (.cons (.num 0) (.cons (.num 0) (.cons (.num 0) (.cons (.num 0) (.cons (.num 0) (.cons (.num 0) (.cons (.num 0) (.cons (.num 0) (.cons (.num 0) (.cons (.num 0) (.cons (.num 0) (.cons (.num 0) (.cons (.num 0) (.cons (.num 0) (.cons (.num 0) (.cons (.num 0) (.cons (.num 0) (.cons (.num 0) (.cons (.num 0) (.cons (.num 0) (.cons (.num 0) (.cons (.num 0) (.cons (.num 0) (.cons (.num 0) (.cons (.num 0) (.cons (.num 0) (.cons (.num 0) (.cons (.num 0) (.cons (.num 0) (.cons (.num 0) (.cons (.num 0) (.cons (.num 0) .nil))))))))))))))))))))))))))))))))))))))))))))))))))))))))))))))))))))))))) .nil .nil)), (.c1 .not (.c2 .eq (.wr .u8 (.fn 54 (.cons (.var 2) (.cons (.num 0) (.cons (.num 0) (.cons (.num 0) (.cons (.num 0) (.cons (.num 0) (.cons (.num 0) (.cons (.num 0) (.cons (.num 0) (.cons (.num 0) (.cons (.num 0) (.cons (.num 0) (.cons (.num 0) (.cons (.num 0) (.cons (.num 0) (.cons (.num 0) (.cons (.num 0) (.cons (.wr .u8 (.c2 .rd (.fn 13 (.c2 .drop (.var 4) (.var 0)) .nil .nil) (.num 0))) (.cons (.wr .u8 (.c2 .rd (.fn 13 (.c2 .drop (.var 4) (.var 0)) .nil .nil) (.num 1))) (.cons (.wr .u8 (.c2 .rd (.fn 13 (.c2 .drop (.var 4) (.var 0)) .nil .nil) (.num 2))) (.cons (.wr .u16 (.c2 .rd (.fn 13 (.c2 .drop (.var 4) (.var 0)) .nil .nil) (.num 3))) (.cons (.wr .u8 (.c2 .rd (.fn 13 (.c2 .drop (.var 4) (.var 0)) .nil .nil) (.num 4))) (.cons (.wr .u8 (.c2 .rd (.fn 13 (.c2 .drop (.var 4) (.var 0)) .nil .nil) (.num 5))) (.cons (.wr .u8 (.c2 .rd (.fn 13 (.c2 .drop (.var 4) (.var 0)) .nil .nil) (.num 6))) (.cons (.wr .u8 (.c2 .rd (.fn 13 (.c2 .drop (.var 4) (.var 0)) .nil .nil) (.num 7))) (.cons (.wr .u8 (.c2 .rd (.fn 13 (.c2 .drop (.var 4) (.var 0)) .nil .nil) (.num 8))) (.cons (.wr .u8 (.c2 .rd (.fn 13 (.c2 .drop (.var 4) (.var 0)) .nil .nil) (.num 9))) (.cons (.wr .u8 (.c2 .rd (.fn 13 (.c2 .drop (.var 4) (.var 0)) .nil .nil) (.num 10))) (.cons (.wr .u8 (.c2 .rd (.fn 13 (.c2 .drop (.var 4) (.var 0)) .nil .nil) (.num 11))) (.cons (.num 0) (.cons (.num 0) (.cons (.num 0) (.cons (.num 0) (.cons (.num 0) (.cons (.num 0) (.cons (.num 0) (.cons (.num 0) (.cons (.num 0) (.cons (.num 0) (.cons (.num 0) (.cons (.num 0) (.cons (.num 0) (.cons (.num 0) (.cons (.num 0) (.cons (.num 0) (.cons (.num 0) (.cons (.num 0) (.cons (.num 0) (.cons (.num 0) (.cons (.num 0) (.cons (.num 0) (.cons (.num 0) (.cons (.num 0) (.cons (.num 0) (.cons (.num 0) (.cons (.num 0) (.cons (.num 0) (.cons (.num 0) (.cons (.num 0) (.cons (.num 0) (.cons (.num 0) (.cons (.num 0) (.cons (.num 0) (.cons (.num 0) (.cons (.num 0) (.cons (.num 0) (.cons (.num 0) (.cons (.num 0) (.cons (.num 0) (.cons (.num 0) (.cons (.num 0) (.cons (.num 0) (.cons (.num 0) .nil))))))))))))))))))))))))))))))))))))))))))))))))))))))))))))))))))))))))) .nil .nil)) (.num 0))), (.c2 .add (.var 4) (.num 20)), (.c2 .sub (.var 5) (.num 20)), (.c2 .app (.c2 .take (.c2 .mul (.var 1) (.num 73)) (.var 6)) (.cons (.var 2) (.cons (.num 0) (.cons (.num 0) (.cons (.num 0) (.cons (.num 0) (.cons (.num 0) (.cons (.num 0) (.cons (.num 0) (.cons (.num 0) (.cons (.num 0) (.cons (.num 0) (.cons (.num 0) (.cons (.num 0) (.cons (.num 0) (.cons (.num 0) (.cons (.num 0) (.cons (.num 0) (.cons (.wr .u8 (.c2 .rd (.fn 13 (.c2 .drop (.var 4) (.var 0)) .nil .nil) (.num 0))) (.cons (.wr .u8 (.c2 .rd (.fn 13 (.c2 .drop (.var 4) (.var 0)) .nil .nil) (.num 1))) (.cons (.wr .u8 (.c2 .rd (.fn 13 (.c2 .drop (.var 4) (.var 0)) .nil .nil) (.num 2))) (.cons (.wr .u16 (.c2 .rd (.fn 13 (.c2 .drop (.var 4) (.var 0)) .nil .nil) (.num 3))) (.cons (.wr .u8 (.c2 .rd (.fn 13 (.c2 .drop (.var 4) (.var 0)) .nil .nil) (.num 4))) (.cons (.wr .u8 (.c2 .rd (.fn 13 (.c2 .drop (.var 4) (.var 0)) .nil .nil) (.num 5))) (.cons (.wr .u8 (.c2 .rd (.fn 13 (.c2 .drop (.var 4) (.var 0)) .nil .nil) (.num 6))) (.cons (.wr .u8 (.c2 .rd (.fn 13 (.c2 .drop (.var 4) (.var 0)) .nil .nil) (.num 7))) (.cons (.wr .u8 (.c2 .rd (.fn 13 (.c2 .drop (.var 4) (.var 0)) .nil .nil) (.num 8))) (.cons (.wr .u8 (.c2 .rd (.fn 13 (.c2 .drop (.var 4) (.var 0)) .nil .nil) (.num 9))) (.cons (.wr .u8 (.c2 .rd (.fn 13 (.c2 .drop (.var 4) (.var 0)) .nil .nil) (.num 10))) (.cons (.wr .u8 (.c2 .rd (.fn 13 (.c2 .drop (.var 4) (.var 0)) .nil .nil) (.num 11))) (.cons (.num 0) (.cons (.num 0) (.cons (.num 0) (.cons (.num 0) (.cons (.num 0) (.cons (.num 0) (.cons (.num 0) (.cons (.num 0) (.cons (.num 0) (.cons (.num 0) (.cons (.num 0) (.cons (.num 0) (.cons (.num 0) (.cons (.num 0) (.cons (.num 0) (.cons (.num 0) (.cons (.num 0) (.cons (.num 0) (.cons (.num 0) (.cons (.num 0) (.cons (.num 0) (.cons (.num 0) (.cons (.num 0) (.cons (.num 0) (.cons (.num 0) (.cons (.num 0) (.cons (.num 0) (.cons (.num 0) (.cons (.num 0) (.cons (.num 0) (.cons (.num 0) (.cons (.num 0) (.cons (.num 0) (.cons (.num 0) (.cons (.num 0) (.cons (.num 0) (.cons (.num 0) (.cons (.num 0) (.cons (.num 0) (.cons (.num 0) (.cons (.num 0) (.cons (.num 0) (.cons (.num 0) (.cons (.num 0) .nil))))))))))))))))))))))))))))))))))))))))))))))))))))))))))))))))))))))))))]))))
       (.split (.c2 .eq (.var 2) (.num 4))
        (.chk (.c1 (.kin [.u8]) (.c2 .drop (.var 4) (.var 0)))
        (.split (.c1 .not (.c2 .eq (.fn 24 (.c2 .drop (.var 4) (.var 0)) .nil .nil) (.num 0)))
         (.ret (.t [.c (.sn), .c (.sn), .c (.i .i64 (.fn 24 (.c2 .drop (.var 4) (.var 0)) .nil .nil))], ⟨[], [], 65, 7, []⟩))
         (.chk (.c2 .le (.num 40) (.var 5))
         (.back 0 1 [(.c2 .add (.var 1) (.num 1)), (.wr .u8 (.fn 54 (.cons (.var 2) (.cons (.num 0) (.cons (.num 0) (.cons (.num 0) (.cons (.num 0) (.cons (.num 0) (.cons (.num 0) (.cons (.num 0) (.cons (.num 0) (.cons (.num 0) (.cons (.num 0) (.cons (.num 0) (.cons (.num 0) (.cons (.num 0) (.cons (.num 0) (.cons (.num 0) (.cons (.num 0) (.cons (.num 0) (.cons (.num 0) (.cons (.num 0) (.cons (.num 0) (.cons (.num 0) (.cons (.num 0) (.cons (.num 0) (.cons (.num 0) (.cons (.num 0) (.cons (.num 0) (.cons (.num 0) (.cons (.num 0) (.cons (.wr .u8 (.c2 .rd (.fn 14 (.c2 .drop (.var 4) (.var 0)) .nil .nil) (.num 0))) (.cons (.wr .u32 (.c2 .rd (.fn 14 (.c2 .drop (.var 4) (.var 0)) .nil .nil) (.num 1))) (.cons (.wr .u8 (.c2 .rd (.fn 14 (.c2 .drop (.var 4) (.var 0)) .nil .nil) (.num 2))) (.cons (.wr .u8 (.c2 .rd (.fn 14 (.c2 .drop (.var 4) (.var 0)) .nil .nil) (.num 3))) (.cons (.wr .u8 (.c2 .rd (.fn 14 (.c2 .drop (.var 4) (.var 0)) .nil .nil) (.num 4))) (.cons (.wr .u8 (.c2 .rd (.fn 14 (.c2 .drop (.var 4) (.var 0)) .nil .nil) (.num 5))) (.cons (.wr .u8 (.c2 .rd (.fn 14 (.c2 .drop (.var 4) (.var 0)) .nil .nil) (.num 6))) (.cons (.wr .u8 (.c2 .rd (.fn 14 (.c2 .drop (.var 4) (.var 0)) .nil .nil) (.num 7))) (.cons (.wr .u8 (.c2 .rd (.fn 14 (.c2 .drop (.var 4) (.var 0)) .nil .nil) (.num 8))) (.cons (.wr .u8 (.c2 .rd (.fn 14 (.c2 .drop (.var 4) (.var 0)) .nil .nil) (.num 9))) (.cons (.wr .u8 (.c2 .rd (.fn 14 (.c2 .drop (.var 4) (.var 0)) .nil .nil) (.num 10))) (.cons (.wr .u8 (.c2 .rd (.fn 14 (.c2 .drop (.var 4) (.var 0)) .nil .nil) (.num 11))) (.cons (.wr .u8 (.c2 .rd (.fn 14 (.c2 .drop (.var 4) (.var 0)) .nil .nil) (.num 12))) (.cons (.wr .u8 (.c2 .rd (.fn 14 (.c2 .drop (.var 4) (.var 0)) .nil .nil) (.num 13))) (.cons (.wr .u8 (.c2 .rd (.fn 14 (.c2 .drop (.var 4) (.var 0)) .nil .nil) (.num 14))) (.cons (.wr .u8 (.c2 .rd (.fn 14 (.c2 .drop (.var 4) (.var 0)) .nil .nil) (.num 15))) (.cons (.wr .u8 (.c2 .rd (.fn 14 (.c2 .drop (.var 4) (.var 0)) .nil .nil) (.num 16))) (.cons (.wr .u8 (.c2 .rd (.fn 14 (.c2 .drop (.var 4) (.var 0)) .nil .nil) (.num 17))) (.cons (.wr .u8 (.c2 .rd (.fn 14 (.c2 .drop (.var 4) (.var 0)) .nil .nil) (.num 18))) (.cons (.wr .u8 (.c2 .rd (.fn 14 (.c2 .drop (.var 4) (.var 0)) .nil .nil) (.num 19))) (.cons (.wr .u8 (.c2 .rd (.fn 14 (.c2 .drop (.var 4) (.var 0)) .nil .nil) (.num 20))) (.cons (.wr .u8 (.c2 .rd (.fn 14 (.c2 .drop (.var 4) (.var 0)) .nil .nil) (.num 21))) (.cons (.wr .u8 (.c2 .rd (.fn 14 (.c2 .drop (.var 4) (.var 0)) .nil .nil) (.num 22))) (.cons (.wr .u8 (.c2 .rd (.fn 14 (.c2 .drop (.var 4) (.var 0)) .nil .nil) (.num 23))) (.cons (.wr .u8 (.c2 .rd (.fn 14 (.c2 .drop (.var 4) (.var 0)) .nil .nil) (.num 24))) (.cons (.wr .u8 (.c2 .rd (.fn 14 (.c2 .drop (.var 4) (.var 0)) .nil .nil) (.num 25))) (.cons (.wr .u8 (.c2 .rd (.fn 14 (.c2 .drop (.var 4) (.var 0)) .nil .nil) (.num 26))) (.cons (.wr .u8 (.c2 .rd (.fn 14 (.c2 .drop (.var 4) (.var 0)) .nil .nil) (.num 27))) (.cons (.wr .u8 (.c2 .rd (.fn 14 (.c2 .drop (.var 4) (.var 0)) .nil .nil) (.num 28))) (.cons (.wr .u8 (.c2 .rd (.fn 14 (.c2 .drop (.var 4) (.var 0)) .nil .nil) (.num 29))) (.cons (.wr .u8 (.c2 .rd (.fn 14 (.c2 .drop (.var 4) (.var 0)) .nil .nil) (.num 30))) (.cons (.wr .u8 (.c2 .rd (.fn 14 (.c2 .drop (.var 4) (.var 0)) .nil .nil) (.num 31))) (.cons (.wr .u8 (.c2 .rd (.fn 14 (.c2 .drop (.var 4) (.var 0)) .nil .nil) (.num 32))) (.cons (.wr .u8 (.c2 .rd (.fn 14 (.c2 .drop (.var 4) (.var 0)) .nil .nil) (.num 33))) (.cons (.wr .u8 (.c2 .rd (.fn 14 (.c2 .drop (.var 4) (.var 0)) .nil .nil) (.num 34))) (.cons (.wr .u8 (.c2 .rd (.fn 14 (.c2 .drop (.var 4) (.var 0)) .nil .nil) (.num 35))) (.cons (.num 0) (.cons (.num 0) (.cons (.num 0) (.cons (.num 0) (.cons (.num 0) (.cons (.num 0) (.cons (.num 0) (.cons (.num 0) .nil))))))))))))))))))))))))))))))))))))))))))))))))))))))))))))))))))))))))) .nil .nil)), (.c1 .not (.c2 .eq (.wr .u8 (.fn 54 (.cons (.var 2) (.cons (.num 0) (.cons (.num 0) (.cons (.num 0) (.cons (.num 0) (.cons (.num 0) (.cons (.num 0) (.cons (.num 0) (.cons (.num 0) (.cons (.num 0) (.cons (.num 0) (.cons (.num 0) (.cons (.num 0) (.cons (.num 0) (.cons (.num 0) (.cons (.num 0) (.cons (.num 0) (.cons (.num 0) (.cons (.num 0) (.cons (.num 0) (.cons (.num 0) (.cons (.num 0) (.cons (.num 0) (.cons (.num 0) (.cons (.num 0) (.cons (.num 0) (.cons (.num 0) (.cons (.num 0) (.cons (.num 0) (.cons (.wr .u8 (.c2 .rd (.fn 14 (.c2 .drop (.var 4) (.var 0)) .nil .nil) (.num 0))) (.cons (.wr .u32 (.c2 .rd (.fn 14 (.c2 .drop (.var 4) (.var 0)) .nil .nil) (.num 1))) (.cons (.wr .u8 (.c2 .rd (.fn 14 (.c2 .drop (.var 4) (.var 0)) .nil .nil) (.num 2))) (.cons (.wr .u8 (.c2 .rd (.fn 14 (.c2 .drop (.var 4) (.var 0)) .nil .nil) (.num 3))) (.cons (.wr .u8 (.c2 .rd (.fn 14 (.c2 .drop (.var 4) (.var 0)) .nil .nil) (.num 4))) (.cons (.wr .u8 (.c2 .rd (.fn 14 (.c2 .drop (.var 4) (.var 0)) .nil .nil) (.num 5))) (.cons (.wr .u8 (.c2 .rd (.fn 14 (.c2 .drop (.var 4) (.var 0)) .nil .nil) (.num 6))) (.cons (.wr .u8 (.c2 .rd (.fn 14 (.c2 .drop (.var 4) (.var 0)) .nil .nil) (.num 7))) (.cons (.wr .u8 (.c2 .rd (.fn 14 (.c2 .drop (.var 4) (.var 0)) .nil .nil) (.num 8))) (.cons (.wr .u8 (.c2 .rd (.fn 14 (.c2 .drop (.var 4) (.var 0)) .nil .nil) (.num 9))) (.cons (.wr .u8 (.c2 .rd (.fn 14 (.c2 .drop (.var 4) (.var 0)) .nil .nil) (.num 10))) (.cons (.wr .u8 (.c2 .rd (.fn 14 (.c2 .drop (.var 4) (.var 0)) .nil .nil) (.num 11))) (.cons (.wr .u8 (.c2 .rd (.fn 14 (.c2 .drop (.var 4) (.var 0)) .nil .nil) (.num 12))) (.cons (.wr .u8 (.c2 .rd (.fn 14 (.c2 .drop (.var 4) (.var 0)) .nil .nil) (.num 13))) (.cons (.wr .u8 (.c2 .rd (.fn 14 (.c2 .drop (.var 4) (.var 0)) .nil .nil) (.num 14))) (.cons (.wr .u8 (.c2 .rd (.fn 14 (.c2 .drop (.var 4) (.var 0)) .nil .nil) (.num 15))) (.cons (.wr .u8 (.c2 .rd (.fn 14 (.c2 .drop (.var 4) (.var 0)) .nil .nil) (.num 16))) (.cons (.wr .u8 (.c2 .rd (.fn 14 (.c2 .drop (.var 4) (.var 0)) .nil .nil) (.num 17))) (.cons (.wr .u8 (.c2 .rd (.fn 14 (.c2 .drop (.var 4) (.var 0)) .nil .nil) (.num 18))) (.cons (.wr .u8 (.c2 .rd (.fn 14 (.c2 .drop (.var 4) (.var 0)) .nil .nil) (.num 19))) (.cons (.wr .u8 (.c2 .rd (.fn 14 (.c2 .drop (.var 4) (.var 0)) .nil .nil) (.num 20))) (.cons (.wr .u8 (.c2 .rd (.fn 14 (.c2 .drop (.var 4) (.var 0)) .nil .nil) (.num 21))) (.cons (.wr .u8 (.c2 .rd (.fn 14 (.c2 .drop (.var 4) (.var 0)) .nil .nil) (.num 22))) (.cons (.wr .u8 (.c2 .rd (.fn 14 (.c2 .drop (.var 4) (.var 0)) .nil .nil) (.num 23))) (.cons (.wr .u8 (.c2 .rd (.fn 14 (.c2 .drop (.var 4) (.var 0)) .nil .nil) (.num 24))) (.cons (.wr .u8 (.c2 .rd (.fn 14 (.c2 .drop (.var 4) (.var 0)) .nil .nil) (.num 25))) (.cons (.wr .u8 (.c2 .rd (.fn 14 (.c2 .drop (.var 4) (.var 0)) .nil .nil) (.num 26))) (.cons (.wr .u8 (.c2 .rd (.fn 14 (.c2 .drop (.var 4) (.var 0)) .nil .nil) (.num 27))) (.cons (.wr .u8 (.c2 .rd (.fn 14 (.c2 .drop (.var 4) (.var 0)) .nil .nil) (.num 28))) (.cons (.wr .u8 (.c2 .rd (.fn 14 (.c2 .drop (.var 4) (.var 0)) .nil .nil) (.num 29))) (.cons (.wr .u8 (.c2 .rd (.fn 14 (.c2 .drop (.var 4) (.var 0)) .nil .nil) (.num 30))) (.cons (.wr .u8 (.c2 .rd (.fn 14 (.c2 .drop (.var 4) (.var 0)) .nil .nil) (.num 31))) (.cons (.wr .u8 (.c2 .rd (.fn 14 (.c2 .drop (.var 4) (.var 0)) .nil .nil) (.num 32))) (.cons (.wr .u8 (.c2 .rd (.fn 14 (.c2 .drop (.var 4) (.var 0)) .nil .nil) (.num 33))) (.cons (.wr .u8 (.c2 .rd (.fn 14 (.c2 .drop (.var 4) (.var 0)) .nil .nil) (.num 34))) (.cons (.wr .u8 (.c2 .rd (.fn 14 (.c2 .drop (.var 4) (.var 0)) .nil .nil) (.num 35))) (.cons (.num 0) (.cons (.num 0) (.cons (.num 0) (.cons (.num 0) (.cons (.num 0) (.cons (.num 0) (.cons (.num 0) (.cons (.num 0) .nil))))))))))))))))))))))))))))))))))))))))))))))))))))))))))))))))))))))))) .nil .nil)) (.num 0))), (.c2 .add (.var 4) (.num 40)), (.c2 .sub (.var 5) (.num 40)), (.c2 .app (.c2 .take (.c2 .mul (.var 1) (.num 73)) (.var 6)) (.cons (.var 2) (.cons (.num 0) (.cons (.num 0) (.cons (.num 0) (.cons (.num 0) (.cons (.num 0) (.cons (.num 0) (.cons (.num 0) (.cons (.num 0) (.cons (.num 0) (.cons (.num 0) (.cons (.num 0) (.cons (.num 0) (.cons (.num 0) (.cons (.num 0) (.cons (.num 0) (.cons (.num 0) (.cons (.num 0) (.cons (.num 0) (.cons (.num 0) (.cons (.num 0) (.cons (.num 0) (.cons (.num 0) (.cons (.num 0) (.cons (.num 0) (.cons (.num 0) (.cons (.num 0) (.cons (.num 0) (.cons (.num 0) (.cons (.wr .u8 (.c2 .rd (.fn 14 (.c2 .drop (.var 4) (.var 0)) .nil .nil) (.num 0))) (.cons (.wr .u32 (.c2 .rd (.fn 14 (.c2 .drop (.var 4) (.var 0)) .nil .nil) (.num 1))) (.cons (.wr .u8 (.c2 .rd (.fn 14 (.c2 .drop (.var 4) (.var 0)) .nil .nil) (.num 2))) (.cons (.wr .u8 (.c2 .rd (.fn 14 (.c2 .drop (.var 4) (.var 0)) .nil .nil) (.num 3))) (.cons (.wr .u8 (.c2 .rd (.fn 14 (.c2 .drop (.var 4) (.var 0)) .nil .nil) (.num 4))) (.cons (.wr .u8 (.c2 .rd (.fn 14 (.c2 .drop (.var 4) (.var 0)) .nil .nil) (.num 5))) (.cons (.wr .u8 (.c2 .rd (.fn 14 (.c2 .drop (.var 4) (.var 0)) .nil .nil) (.num 6))) (.cons (.wr .u8 (.c2 .rd (.fn 14 (.c2 .drop (.var 4) (.var 0)) .nil .nil) (.num 7))) (.cons (.wr .u8 (.c2 .rd (.fn 14 (.c2 .drop (.var 4) (.var 0)) .nil .nil) (.num 8))) (.cons (.wr .u8 (.c2 .rd (.fn 14 (.c2 .drop (.var 4) (.var 0)) .nil .nil) (.num 9))) (.cons (.wr .u8 (.c2 .rd (.fn 14 (.c2 .drop (.var 4) (.var 0)) .nil .nil) (.num 10))) (.cons (.wr .u8 (.c2 .rd (.fn 14 (.c2 .drop (.var 4) (.var 0)) .nil .nil) (.num 11))) (.cons (.wr .u8 (.c2 .rd (.fn 14 (.c2 .drop (.var 4) (.var 0)) .nil .nil) (.num 12))) (.cons (.wr .u8 (.c2 .rd (.fn 14 (.c2 .drop (.var 4) (.var 0)) .nil .nil) (.num 13))) (.cons (.wr .u8 (.c2 .rd (.fn 14 (.c2 .drop (.var 4) (.var 0)) .nil .nil) (.num 14))) (.cons (.wr .u8 (.c2 .rd (.fn 14 (.c2 .drop (.var 4) (.var 0)) .nil .nil) (.num 15))) (.cons (.wr .u8 (.c2 .rd (.fn 14 (.c2 .drop (.var 4) (.var 0)) .nil .nil) (.num 16))) (.cons (.wr .u8 (.c2 .rd (.fn 14 (.c2 .drop (.var 4) (.var 0)) .nil .nil) (.num 17))) (.cons (.wr .u8 (.c2 .rd (.fn 14 (.c2 .drop (.var 4) (.var 0)) .nil .nil) (.num 18))) (.cons (.wr .u8 (.c2 .rd (.fn 14 (.c2 .drop (.var 4) (.var 0)) .nil .nil) (.num 19))) (.cons (.wr .u8 (.c2 .rd (.fn 14 (.c2 .drop (.var 4) (.var 0)) .nil .nil) (.num 20))) (.cons (.wr .u8 (.c2 .rd (.fn 14 (.c2 .drop (.var 4) (.var 0)) .nil .nil) (.num 21))) (.cons (.wr .u8 (.c2 .rd (.fn 14 (.c2 .drop (.var 4) (.var 0)) .nil .nil) (.num 22))) (.cons (.wr .u8 (.c2 .rd (.fn 14 (.c2 .drop (.var 4) (.var 0)) .nil .nil) (.num 23))) (.cons (.wr .u8 (.c2 .rd (.fn 14 (.c2 .drop (.var 4) (.var 0)) .nil .nil) (.num 24))) (.cons (.wr .u8 (.c2 .rd (.fn 14 (.c2 .drop (.var 4) (.var 0)) .nil .nil) (.num 25))) (.cons (.wr .u8 (.c2 .rd (.fn 14 (.c2 .drop (.var 4) (.var 0)) .nil .nil) (.num 26))) (.cons (.wr .u8 (.c2 .rd (.fn 14 (.c2 .drop (.var 4) (.var 0)) .nil .nil) (.num 27))) (.cons (.wr .u8 (.c2 .rd (.fn 14 (.c2 .drop (.var 4) (.var 0)) .nil .nil) (.num 28))) (.cons (.wr .u8 (.c2 .rd (.fn 14 (.c2 .drop (.var 4) (.var 0)) .nil .nil) (.num 29))) (.cons (.wr .u8 (.c2 .rd (.fn 14 (.c2 .drop (.var 4) (.var 0)) .nil .nil) (.num 30))) (.cons (.wr .u8 (.c2 .rd (.fn 14 (.c2 .drop (.var 4) (.var 0)) .nil .nil) (.num 31))) (.cons (.wr .u8 (.c2 .rd (.fn 14 (.c2 .drop (.var 4) (.var 0)) .nil .nil) (.num 32))) (.cons (.wr .u8 (.c2 .rd (.fn 14 (.c2 .drop (.var 4) (.var 0)) .nil .nil) (.num 33))) (.cons (.wr .u8 (.c2 .rd (.fn 14 (.c2 .drop (.var 4) (.var 0)) .nil .nil) (.num 34))) (.cons (.wr .u8 (.c2 .rd (.fn 14 (.c2 .drop (.var 4) (.var 0)) .nil .nil) (.num 35))) (.cons (.num 0) (.cons (.num 0) (.cons (.num 0) (.cons (.num 0) (.cons (.num 0) (.cons (.num 0) (.cons (.num 0) (.cons (.num 0) .nil))))))))))))))))))))))))))))))))))))))))))))))))))))))))))))))))))))))))))]))))
        (.split (.c2 .eq (.var 2) (.num 5))
         (.chk (.c1 (.kin [.u8]) (.c2 .drop (.var 4) (.var 0)))
         (.split (.c1 .not (.c2 .eq (.fn 25 (.c2 .drop (.var 4) (.var 0)) .nil .nil) (.num 0)))
          (.ret (.t [.c (.sn), .c (.sn), .c (.i .i64 (.fn 25 (.c2 .drop (.var 4) (.var 0)) .nil .nil))], ⟨[], [], 65, 7, []⟩))
          (.chk (.c2 .le (.num 20) (.var 5))
          (.back 0 1 [(.c2 .add (.var 1) (.num 1)), (.wr .u8 (.fn 54 (.cons (.var 2) (.cons (.num 0) (.cons (.num 0) (.cons (.num 0) (.cons (.num 0) (.cons (.num 0) (.cons (.num 0) (.cons (.num 0) (.cons (.num 0) (.cons (.num 0) (.cons (.num 0) (.cons (.num 0) (.cons (.num 0) (.cons (.num 0) (.cons (.num 0) (.cons (.num 0) (.cons (.num 0) (.cons (.num 0) (.cons (.num 0) (.cons (.num 0) (.cons (.num 0) (.cons (.num 0) (.cons (.num 0) (.cons (.num 0) (.cons (.num 0) (.cons (.num 0) (.cons (.num 0) (.cons (.num 0) (.cons (.num 0) (.cons (.num 0) (.cons (.num 0) (.cons (.num 0) (.cons (.num 0) (.cons (.num 0) (.cons (.num 0) (.cons (.num 0) (.cons (.num 0) (.cons (.num 0) (.cons (.num 0) (.cons (.num 0) (.cons (.num 0) (.cons (.num 0) (.cons (.num 0) (.cons (.num 0) (.cons (.num 0) (.cons (.num 0) (.cons (.num 0) (.cons (.num 0) (.cons (.num 0) (.cons (.num 0) (.cons (.num 0) (.cons (.num 0) (.cons (.num 0) (.cons (.num 0) (.cons (.num 0) (.cons (.num 0) (.cons (.num 0) (.cons (.num 0) (.cons (.num 0) (.cons (.num 0) (.cons (.num 0) (.cons (.num 0) (.cons (.num 0) (.cons (.num 0) (.cons (.num 0) (.cons (.wr .u16 (.c2 .rd (.fn 15 (.c2 .drop (.var 4) (.var 0)) .nil .nil) (.num 0))) (.cons (.wr .u16 (.c2 .rd (.fn 15 (.c2 .drop (.var 4) (.var 0)) .nil .nil) (.num 1))) (.cons (.wr .u32 (.c2 .rd (.fn 15 (.c2 .drop (.var 4) (.var 0)) .nil .nil) (.num 2))) (.cons (.wr .u32 (.c2 .rd (.fn 15 (.c2 .drop (.var 4) (.var 0)) .nil .nil) (.num 3))) (.cons (.wr .u8 (.c2 .rd (.fn 15 (.c2 .drop (.var 4) (.var 0)) .nil .nil) (.num 4))) (.cons (.wr .u16 (.c2 .rd (.fn 15 (.c2 .drop (.var 4) (.var 0)) .nil .nil) (.num 5))) (.cons (.num 0) (.cons (.num 0) .nil))))))))))))))))))))))))))))))))))))))))))))))))))))))))))))))))))))))))) .nil .nil)), (.c1 .not (.c2 .eq (.wr .u8 (.fn 54 (.cons (.var 2) (.cons (.num 0) (.cons (.num 0) (.cons (.num 0) (.cons (.num 0) (.cons (.num 0) (.cons (.num 0) (.cons (.num 0) (.cons (.num 0) (.cons (.num 0) (.cons (.num 0) (.cons (.num 0) (.cons (.num 0) (.cons (.num 0) (.cons (.num 0) (.cons (.num 0) (.cons (.num 0) (.cons (.num 0) (.cons (.num 0) (.cons (.num 0) (.cons (.num 0) (.cons (.num 0) (.cons (.num 0) (.cons (.num 0) (.cons (.num 0) (.cons (.num 0) (.cons (.num 0) (.cons (.num 0) (.cons (.num 0) (.cons (.num 0) (.cons (.num 0) (.cons (.num 0) (.cons (.num 0) (.cons (.num 0) (.cons (.num 0) (.cons (.num 0) (.cons (.num 0) (.cons (.num 0) (.cons (.num 0) (.cons (.num 0) (.cons (.num 0) (.cons (.num 0) (.cons (.num 0) (.cons (.num 0) (.cons (.num 0) (.cons (.num 0) (.cons (.num 0) (.cons (.num 0) (.cons (.num 0) (.cons (.num 0) (.cons (.num 0) (.cons (.num 0) (.cons (.num 0) (.cons (.num 0) (.cons (.num 0) (.cons (.num 0) (.cons (.num 0) (.cons (.num 0) (.cons (.num 0) (.cons (.num 0) (.cons (.num 0) (.cons (.num 0) (.cons (.num 0) (.cons (.num 0) (.cons (.num 0) (.cons (.wr .u16 (.c2 .rd (.fn 15 (.c2 .drop (.var 4) (.var 0)) .nil .nil) (.num 0))) (.cons (.wr .u16 (.c2 .rd (.fn 15 (.c2 .drop (.var 4) (.var 0)) .nil .nil) (.num 1))) (.cons (.wr .u32 (.c2 .rd (.fn 15 (.c2 .drop (.var 4) (.var 0)) .nil .nil) (.num 2))) (.cons (.wr .u32 (.c2 .rd (.fn 15 (.c2 .drop (.var 4) (.var 0)) .nil .nil) (.num 3))) (.cons (.wr .u8 (.c2 .rd (.fn 15 (.c2 .drop (.var 4) (.var 0)) .nil .nil) (.num 4))) (.cons (.wr .u16 (.c2 .rd (.fn 15 (.c2 .drop (.var 4) (.var 0)) .nil .nil) (.num 5))) (.cons (.num 0) (.cons (.num 0) .nil))))))))))))))))))))))))))))))))))))))))))))))))))))))))))))))))))))))))) .nil .nil)) (.num 0))), (.c2 .add (.var 4) (.num 20)), (.c2 .sub (.var 5) (.num 20)), (.c2 .app (.c2 .take (.c2 .mul (.var 1) (.num 73)) (.var 6)) (.cons (.var 2) (.cons (.num 0) (.cons (.num 0) (.cons (.num 0) (.cons (.num 0) (.cons (.num 0) (.cons (.num 0) (.cons (.num 0) (.cons (.num 0) (.cons (.num 0) (.cons (.num 0) (.cons (.num 0) (.cons (.num 0) (.cons (.num 0) (.cons (.num 0) (.cons (.num 0) (.cons (.num 0) (.cons (.num 0) (.cons (.num 0) (.cons (.num 0) (.cons (.num 0) (.cons (.num 0) (.cons (.num 0) (.cons (.num 0) (.cons (.num 0) (.cons (.num 0) (.cons (.num 0) (.cons (.num 0) (.cons (.num 0) (.cons (.num 0) (.cons (.num 0) (.cons (.num 0) (.cons (.num 0) (.cons (.num 0) (.cons (.num 0) (.cons (.num 0) (.cons (.num 0) (.cons (.num 0) (.cons (.num 0) (.cons (.num 0) (.cons (.num 0) (.cons (.num 0) (.cons (.num 0) (.cons (.num 0) (.cons (.num 0) (.cons (.num 0) (.cons (.num 0) (.cons (.num 0) (.cons (.num 0) (.cons (.num 0) (.cons (.num 0) (.cons (.num 0) (.cons (.num 0) (.cons (.num 0) (.cons (.num 0) (.cons (.num 0) (.cons (.num 0) (.cons (.num 0) (.cons (.num 0) (.cons (.num 0) (.cons (.num 0) (.cons (.num 0) (.cons (.num 0) (.cons (.num 0) (.cons (.num 0) (.cons (.wr .u16 (.c2 .rd (.fn 15 (.c2 .drop (.var 4) (.var 0)) .nil .nil) (.num 0))) (.cons (.wr .u16 (.c2 .rd (.fn 15 (.c2 .drop (.var 4) (.var 0)) .nil .nil) (.num 1))) (.cons (.wr .u32 (.c2 .rd (.fn 15 (.c2 .drop (.var 4) (.var 0)) .nil .nil) (.num 2))) (.cons (.wr .u32 (.c2 .rd (.fn 15 (.c2 .drop (.var 4) (.var 0)) .nil .nil) (.num 3))) (.cons (.wr .u8 (.c2 .rd (.fn 15 (.c2 .drop (.var 4) (.var 0)) .nil .nil) (.num 4))) (.cons (.wr .u16 (.c2 .rd (.fn 15 (.c2 .drop (.var 4) (.var 0)) .nil .nil) (.num 5))) (.cons (.num 0) (.cons (.num 0) .nil))))))))))))))))))))))))))))))))))))))))))))))))))))))))))))))))))))))))))]))))
         (.split (.c2 .eq (.var 2) (.num 6))
          (.chk (.c1 (.kin [.u8]) (.c2 .drop (.var 4) (.var 0)))
          (.split (.c1 .not (.c2 .eq (.fn 26 (.c2 .drop (.var 4) (.var 0)) .nil .nil) (.num 0)))
           (.ret (.t [.c (.sn), .c (.sn), .c (.i .i64 (.fn 26 (.c2 .drop (.var 4) (.var 0)) .nil .nil))], ⟨[], [], 65, 7, []⟩))
           (.chk (.c2 .le (.num 8) (.var 5))
           (.back 0 1 [(.c2 .add (.var 1) (.num 1)), (.wr .u8 (.fn 54 (.cons (.var 2) (.cons (.num 0) (.cons (.num 0) (.cons (.num 0) (.cons (.num 0) (.cons (.num 0) (.cons (.num 0) (.cons (.num 0) (.cons (.num 0) (.cons (.num 0) (.cons (.num 0) (.cons (.num 0) (.cons (.num 0) (.cons (.num 0) (.cons (.num 0) (.cons (.num 0) (.cons (.num 0) (.cons (.num 0) (.cons (.num 0) (.cons (.num 0) (.cons (.num 0) (.cons (.num 0) (.cons (.num 0) (.cons (.num 0) (.cons (.num 0) (.cons (.num 0) (.cons (.num 0) (.cons (.num 0) (.cons (.num 0) (.cons (.num 0) (.cons (.num 0) (.cons (.num 0) (.cons (.num 0) (.cons (.num 0) (.cons (.num 0) (.cons (.num 0) (.cons (.num 0) (.cons (.num 0) (.cons (.num 0) (.cons (.num 0) (.cons (.num 0) (.cons (.num 0) (.cons (.num 0) (.cons (.num 0) (.cons (.num 0) (.cons (.num 0) (.cons (.num 0) (.cons (.num 0) (.cons (.num 0) (.cons (.num 0) (.cons (.num 0) (.cons (.num 0) (.cons (.num 0) (.cons (.num 0) (.cons (.num 0) (.cons (.num 0) (.cons (.num 0) (.cons (.num 0) (.cons (.num 0) (.cons (.num 0) (.cons (.num 0) (.cons (.num 0) (.cons (.num 0) (.cons (.num 0) (.cons (.num 0) (.cons (.num 0) (.cons (.num 0) (.cons (.num 0) (.cons (.num 0) (.cons (.num 0) (.cons (.num 0) (.cons (.wr .u16 (.c2 .rd (.fn 16 (.c2 .drop (.var 4) (.var 0)) .nil .nil) (.num 0))) (.cons (.wr .u16 (.c2 .rd (.fn 16 (.c2 .drop (.var 4) (.var 0)) .nil .nil) (.num 1))) .nil))))))))))))))))))))))))))))))))))))))))))))))))))))))))))))))))))))))))) .nil .nil)), (.c1 .not (.c2 .eq (.wr .u8 (.fn 54 (.cons (.var 2) (.cons (.num 0) (.cons (.num 0) (.cons (.num 0) (.cons (.num 0) (.cons (.num 0) (.cons (.num 0) (.cons (.num 0) (.cons (.num 0) (.cons (.num 0) (.cons (.num 0) (.cons (.num 0) (.cons (.num 0) (.cons (.num 0) (.cons (.num 0) (.cons (.num 0) (.cons (.num 0) (.cons (.num 0) (.cons (.num 0) (.cons (.num 0) (.cons (.num 0) (.cons (.num 0) (.cons (.num 0) (.cons (.num 0) (.cons (.num 0) (.cons (.num 0) (.cons (.num 0) (.cons (.num 0) (.cons (.num 0) (.cons (.num 0) (.cons (.num 0) (.cons (.num 0) (.cons (.num 0) (.cons (.num 0) (.cons (.num 0) (.cons (.num 0) (.cons (.num 0) (.cons (.num 0) (.cons (.num 0) (.cons (.num 0) (.cons (.num 0) (.cons (.num 0) (.cons (.num 0) (.cons (.num 0) (.cons (.num 0) (.cons (.num 0) (.cons (.num 0) (.cons (.num 0) (.cons (.num 0) (.cons (.num 0) (.cons (.num 0) (.cons (.num 0) (.cons (.num 0) (.cons (.num 0) (.cons (.num 0) (.cons (.num 0) (.cons (.num 0) (.cons (.num 0) (.cons (.num 0) (.cons (.num 0) (.cons (.num 0) (.cons (.num 0) (.cons (.num 0) (.cons (.num 0) (.cons (.num 0) (.cons (.num 0) (.cons (.num 0) (.cons (.num 0) (.cons (.num 0) (.cons (.num 0) (.cons (.num 0) (.cons (.wr .u16 (.c2 .rd (.fn 16 (.c2 .drop (.var 4) (.var 0)) .nil .nil) (.num 0))) (.cons (.wr .u16 (.c2 .rd (.fn 16 (.c2 .drop (.var 4) (.var 0)) .nil .nil) (.num 1))) .nil))))))))))))))))))))))))))))))))))))))))))))))))))))))))))))))))))))))))) .nil .nil)) (.num 0))), (.c2 .add (.var 4) (.num 8)), (.c2 .sub (.var 5) (.num 8)), (.c2 .app (.c2 .take (.c2 .mul (.var 1) (.num 73)) (.var 6)) (.cons (.var 2) (.cons (.num 0) (.cons (.num 0) (.cons (.num 0) (.cons (.num 0) (.cons (.num 0) (.cons (.num 0) (.cons (.num 0) (.cons (.num 0) (.cons (.num 0) (.cons (.num 0) (.cons (.num 0) (.cons (.num 0) (.cons (.num 0) (.cons (.num 0) (.cons (.num 0) (.cons (.num 0) (.cons (.num 0) (.cons (.num 0) (.cons (.num 0) (.cons (.num 0) (.cons (.num 0) (.cons (.num 0) (.cons (.num 0) (.cons (.num 0) (.cons (.num 0) (.cons (.num 0) (.cons (.num 0) (.cons (.num 0) (.cons (.num 0) (.cons (.num 0) (.cons (.num 0) (.cons (.num 0) (.cons (.num 0) (.cons (.num 0) (.cons (.num 0) (.cons (.num 0) (.cons (.num 0) (.cons (.num 0) (.cons (.num 0) (.cons (.num 0) (.cons (.num 0) (.cons (.num 0) (.cons (.num 0) (.cons (.num 0) (.cons (.num 0) (.cons (.num 0) (.cons (.num 0) (.cons (.num 0) (.cons (.num 0) (.cons (.num 0) (.cons (.num 0) (.cons (.num 0) (.cons (.num 0) (.cons (.num 0) (.cons (.num 0) (.cons (.num 0) (.cons (.num 0) (.cons (.num 0) (.cons (.num 0) (.cons (.num 0) (.cons (.num 0) (.cons (.num 0) (.cons (.num 0) (.cons (.num 0) (.cons (.num 0) (.cons (.num 0) (.cons (.num 0) (.cons (.num 0) (.cons (.num 0) (.cons (.num 0) (.cons (.wr .u16 (.c2 .rd (.fn 16 (.c2 .drop (.var 4) (.var 0)) .nil .nil) (.num 0))) (.cons (.wr .u16 (.c2 .rd (.fn 16 (.c2 .drop (.var 4) (.var 0)) .nil .nil) (.num 1))) .nil))))))))))))))))))))))))))))))))))))))))))))))))))))))))))))))))))))))))))]))))
          (.fail 11)))))))))
  (.ret (.t [.c (.s 3 73 0 (.num 0) (.var 1)), .c (.s 5 1 0 (.num 0) (.c2 .sub (.c1 .len (.var 0)) (.var 4))), .c (.i .i64 (.num 0))], ⟨[], [(5, some ⟨true, .row [.u8] (.c2 .drop (.var 4) (.var 0))⟩), (3, some ⟨true, .row [.u8, .u8, .u8, .u8, .u8, .u8, .u8, .u8, .u8, .u8, .u8, .u8, .u8, .u16, .u8, .u16, .u16, .u8, .u8, .u8, .u16, .u8, .u8, .u8, .u8, .u8, .u8, .u8, .u8, .u8, .u32, .u8, .u8, .u8, .u8, .u8, .u8, .u8, .u8, .u8, .u8, .u8, .u8, .u8, .u8, .u8, .u8, .u8, .u8, .u8, .u8, .u8, .u8, .u8, .u8, .u8, .u8, .u8, .u8, .u8, .u8, .u8, .u8, .u8, .u8, .u16, .u16, .u32, .u32, .u8, .u16, .u16, .u16] (.var 6)⟩)], 6, 7, []⟩))))
theorem treePePeel_is : funTree (ctxN Go.Proofs.Try.prog annsPe consPe 8) annsPe 11 (tPeel 3 5).vs (tPeel 3 5).bs (tPeel 3 5).n (preF (tPeel 3 5).res) = treePePeel := by kernel_rfl
end Go.Proofs.Ytbiodlomlendkaa.Sx
