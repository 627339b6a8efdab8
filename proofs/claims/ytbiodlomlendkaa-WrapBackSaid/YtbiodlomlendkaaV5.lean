/- Sx: texts of this claim put together: TWdNet4, HdWNet4, TWdNet6, HdWNet6, TWdSeg, HdWSeg, TWdDgram, HdWDgram, WrK, TWlEq, TWlAwake, WlC, TWlBack, WbK. Conditions: none. -/
import Derived.Test.YtbiodlomlendkaaV4
import Derived.Test.YtbiodlomlendkaaProg
import Derived.KernelRfl
/- Sx: what Go function 75 does, as a tree of conditions (printed by a tool of this claim, proved by the kernel). Conditions: none. -/
set_option maxRecDepth 100000
namespace Go.Proofs.Ytbiodlomlendkaa.Sx
open Go
def treeWdNet4 : M (V × St) :=
(.split (.c2 .lt (.num 2028) (.c1 .len (.var 12)))
 (.ret (.t [.c (.sn), .c (.i .i64 (.num 5))], ⟨[], [], 3, 13, []⟩))
 (.ret (.t [.c (.s 3 1 0 (.num 0) (.num 20)), .c (.i .i64 (.num 0))], ⟨[], [(3, some ⟨true, .row [.u8] (.cons (.num 69) (.cons (.var 0) (.cons (.c2 .fdiv (.c2 .add (.num 20) (.c1 .len (.var 12))) (.num 256)) (.cons (.c2 .sub (.c2 .add (.num 20) (.c1 .len (.var 12))) (.c2 .mul (.c2 .fdiv (.c2 .add (.num 20) (.c1 .len (.var 12))) (.num 256)) (.num 256))) (.cons (.c2 .fdiv (.var 3) (.num 256)) (.cons (.c2 .sub (.var 3) (.c2 .mul (.c2 .fdiv (.var 3) (.num 256)) (.num 256))) (.cons (.num 0) (.cons (.num 0) (.cons (.var 1) (.cons (.var 2) (.cons (.c2 .fdiv (.c2 .sub (.num 65535) (.wr .u16 (.fn 2 (.c2 .add (.wr .u16 (.fn 1 (.cons (.num 69) (.cons (.var 0) (.cons (.c2 .fdiv (.c2 .add (.num 20) (.c1 .len (.var 12))) (.num 256)) (.cons (.c2 .sub (.c2 .add (.num 20) (.c1 .len (.var 12))) (.c2 .mul (.c2 .fdiv (.c2 .add (.num 20) (.c1 .len (.var 12))) (.num 256)) (.num 256))) (.cons (.c2 .fdiv (.var 3) (.num 256)) (.cons (.c2 .sub (.var 3) (.c2 .mul (.c2 .fdiv (.var 3) (.num 256)) (.num 256))) (.cons (.num 0) (.cons (.num 0) (.cons (.var 1) (.cons (.var 2) (.cons (.num 0) (.cons (.num 0) (.cons (.var 4) (.cons (.var 5) (.cons (.var 6) (.cons (.var 7) (.cons (.var 8) (.cons (.var 9) (.cons (.var 10) (.cons (.var 11) .nil)))))))))))))))))))) .nil .nil)) (.wr .u16 (.fn 1 .nil .nil .nil))) .nil .nil))) (.num 256)) (.cons (.c2 .sub (.c2 .sub (.num 65535) (.wr .u16 (.fn 2 (.c2 .add (.wr .u16 (.fn 1 (.cons (.num 69) (.cons (.var 0) (.cons (.c2 .fdiv (.c2 .add (.num 20) (.c1 .len (.var 12))) (.num 256)) (.cons (.c2 .sub (.c2 .add (.num 20) (.c1 .len (.var 12))) (.c2 .mul (.c2 .fdiv (.c2 .add (.num 20) (.c1 .len (.var 12))) (.num 256)) (.num 256))) (.cons (.c2 .fdiv (.var 3) (.num 256)) (.cons (.c2 .sub (.var 3) (.c2 .mul (.c2 .fdiv (.var 3) (.num 256)) (.num 256))) (.cons (.num 0) (.cons (.num 0) (.cons (.var 1) (.cons (.var 2) (.cons (.num 0) (.cons (.num 0) (.cons (.var 4) (.cons (.var 5) (.cons (.var 6) (.cons (.var 7) (.cons (.var 8) (.cons (.var 9) (.cons (.var 10) (.cons (.var 11) .nil)))))))))))))))))))) .nil .nil)) (.wr .u16 (.fn 1 .nil .nil .nil))) .nil .nil))) (.c2 .mul (.c2 .fdiv (.c2 .sub (.num 65535) (.wr .u16 (.fn 2 (.c2 .add (.wr .u16 (.fn 1 (.cons (.num 69) (.cons (.var 0) (.cons (.c2 .fdiv (.c2 .add (.num 20) (.c1 .len (.var 12))) (.num 256)) (.cons (.c2 .sub (.c2 .add (.num 20) (.c1 .len (.var 12))) (.c2 .mul (.c2 .fdiv (.c2 .add (.num 20) (.c1 .len (.var 12))) (.num 256)) (.num 256))) (.cons (.c2 .fdiv (.var 3) (.num 256)) (.cons (.c2 .sub (.var 3) (.c2 .mul (.c2 .fdiv (.var 3) (.num 256)) (.num 256))) (.cons (.num 0) (.cons (.num 0) (.cons (.var 1) (.cons (.var 2) (.cons (.num 0) (.cons (.num 0) (.cons (.var 4) (.cons (.var 5) (.cons (.var 6) (.cons (.var 7) (.cons (.var 8) (.cons (.var 9) (.cons (.var 10) (.cons (.var 11) .nil)))))))))))))))))))) .nil .nil)) (.wr .u16 (.fn 1 .nil .nil .nil))) .nil .nil))) (.num 256)) (.num 256))) (.cons (.var 4) (.cons (.var 5) (.cons (.var 6) (.cons (.var 7) (.cons (.var 8) (.cons (.var 9) (.cons (.var 10) (.cons (.var 11) .nil))))))))))))))))))))⟩)], 5, 13, []⟩)))
theorem treeWdNet4_is : funTree (ctxN Go.Proofs.Try.prog annsHd consSum 8) annsHd 75 (tBytes 3 3 60 20 kNet4).vs (tBytes 3 3 60 20 kNet4).bs (tBytes 3 3 60 20 kNet4).n (preF (tBytes 3 3 60 20 kNet4).res) = treeWdNet4 := by kernel_rfl
end Go.Proofs.Ytbiodlomlendkaa.Sx
/- Sx laws of headers: the writers of layer Net4. Conditions: none. -/
set_option linter.unusedVariables false
set_option linter.unusedSimpArgs false
namespace Go.Proofs.Ytbiodlomlendkaa.Sx
open Go
set_option maxRecDepth 100000 in
theorem wdNet4_ok {Φ : Sig} (hΦ : HdSig Φ) : TmplOk Go.Proofs.Try.prog Φ 75 (tBytes 3 3 60 20 kNet4) := by
  refine tmpl_of (consSum_ok hΦ.toSumSig) treeWdNet4_is (fun ρ res hres => ⟨eqJ, ?_⟩)
  obtain ⟨hk, hres⟩ := inKs_some hres
  obtain ⟨h0, hres⟩ := short_some hres
  obtain ⟨hb, hres⟩ := bytes_some hres
  have hr := wr_res (n := 12) hΦ ⟨by decide, by decide⟩ hres
  have h0' : (ρ 12).list.length ≤ 140737488351232 := h0
  have hb' : Bytes (ρ 12).list := hb
  have a0 : (hdrOf Φ ρ 12)[0]?.getD 0 = (ρ 0).int := hdr_at 12 0 (by decide)
  have a1 : (hdrOf Φ ρ 12)[1]?.getD 0 = (ρ 1).int := hdr_at 12 1 (by decide)
  have a2 : (hdrOf Φ ρ 12)[2]?.getD 0 = (ρ 2).int := hdr_at 12 2 (by decide)
  have a3 : (hdrOf Φ ρ 12)[3]?.getD 0 = (ρ 3).int := hdr_at 12 3 (by decide)
  have a4 : (hdrOf Φ ρ 12)[4]?.getD 0 = (ρ 4).int := hdr_at 12 4 (by decide)
  have a5 : (hdrOf Φ ρ 12)[5]?.getD 0 = (ρ 5).int := hdr_at 12 5 (by decide)
  have a6 : (hdrOf Φ ρ 12)[6]?.getD 0 = (ρ 6).int := hdr_at 12 6 (by decide)
  have a7 : (hdrOf Φ ρ 12)[7]?.getD 0 = (ρ 7).int := hdr_at 12 7 (by decide)
  have a8 : (hdrOf Φ ρ 12)[8]?.getD 0 = (ρ 8).int := hdr_at 12 8 (by decide)
  have a9 : (hdrOf Φ ρ 12)[9]?.getD 0 = (ρ 9).int := hdr_at 12 9 (by decide)
  have a10 : (hdrOf Φ ρ 12)[10]?.getD 0 = (ρ 10).int := hdr_at 12 10 (by decide)
  have a11 : (hdrOf Φ ρ 12)[11]?.getD 0 = (ρ 11).int := hdr_at 12 11 (by decide)
  have b0 := hk 0 .u8 rfl
  have b1 := hk 1 .u8 rfl
  have b2 := hk 2 .u8 rfl
  have b3 := hk 3 .u16 rfl
  have b4 := hk 4 .u8 rfl
  have b5 := hk 5 .u8 rfl
  have b6 := hk 6 .u8 rfl
  have b7 := hk 7 .u8 rfl
  have b8 := hk 8 .u8 rfl
  have b9 := hk 9 .u8 rfl
  have b10 := hk 10 .u8 rfl
  have b11 := hk 11 .u8 rfl
  simp only [kmin, kmax, Nat.zero_add] at b0 b1 b2 b3 b4 b5 b6 b7 b8 b9 b10 b11
  have m1 : ∀ x : Int, x - x / 256 * 256 = x % 256 := fun x => by omega
  have hB : 0 ≤ wsum (wrBase 3 (hdrOf Φ ρ 12) (ρ 12).list) := by simp only [wrBase, wsum, g, a0, a1, a2, a3, a4, a5, a6, a7, a8, a9, a10, a11]; omega
  have hS : ocs (ocs (wsum (wrBase 3 (hdrOf Φ ρ 12) (ρ 12).list)) + ocs (wsum [])) = ocs (wsum (wrBase 3 (hdrOf Φ ρ 12) (ρ 12).list ++ [])) := by rw [ocs_two hB (by simp [wsum]), wsum_app _ _ (by simp [wrBase])]
  simp only [wrBase, g, a0, a1, a2, a3, a4, a5, a6, a7, a8, a9, a10, a11, List.cons_append, List.nil_append] at hS
  have hR := ocs_range (wsum (wrBase 3 (hdrOf Φ ρ 12) (ρ 12).list ++ []))
  simp only [wrBase, g, a0, a1, a2, a3, a4, a5, a6, a7, a8, a9, a10, a11, List.cons_append, List.nil_append] at hR
  refine ⟨fun c1 => ?_, fun c1 => ?_⟩
  · simp [hΦ.sum, hΦ.ocs, wrap_ocs, m1] at c1
    have hz : wrFail 3 (hdrOf Φ ρ 12) (ρ 12).list = 5 := by
      simp only [wrFail, g, a0, a1, a2, a3, a4, a5, a6, a7, a8, a9, a10, a11]
      repeat' split
      all_goals first | rfl | omega
    exact leaf_wr_err hr hz (by decide) (by decide)
  · simp [hΦ.sum, hΦ.ocs, wrap_ocs, m1] at c1
    have hz : wrFail 3 (hdrOf Φ ρ 12) (ρ 12).list = 0 := by
      simp only [wrFail, g, a0, a1, a2, a3, a4, a5, a6, a7, a8, a9, a10, a11]
      repeat' split
      all_goals first | rfl | omega
    refine leaf_wr_ok hr hz ?_ rfl (by decide)
    simp only [list_cons, list_nil, int_add, int_sub, int_mul, int_fdiv, int_len, den_var, den_num, D.int_i, fdiv_lit, m1, int_wr, den_fn, hΦ.sum, hΦ.ocs, wrap_ocs, hS, wrGood, wrBase, putF, fld, fld1, List.set_cons_succ, List.set_cons_zero, List.cons_append, List.nil_append, g, a0, a1, a2, a3, a4, a5, a6, a7, a8, a9, a10, a11]
    all_goals try simp only [List.cons.injEq, and_true, true_and]
    all_goals repeat' apply And.intro
    all_goals first | rfl | omega
end Go.Proofs.Ytbiodlomlendkaa.Sx
/- Sx: what Go function 76 does, as a tree of conditions (printed by a tool of this claim, proved by the kernel). Conditions: none. -/
set_option maxRecDepth 100000
namespace Go.Proofs.Ytbiodlomlendkaa.Sx
open Go
def treeWdNet6 : M (V × St) :=
(.split (.c2 .le (.num 1048576) (.var 1))
 (.ret (.t [.c (.sn), .c (.i .i64 (.num 80))], ⟨[], [], 3, 37, []⟩))
 (.split (.c2 .lt (.num 2008) (.c1 .len (.var 36)))
  (.ret (.t [.c (.sn), .c (.i .i64 (.num 5))], ⟨[], [], 3, 37, []⟩))
  (.ret (.t [.c (.s 3 1 0 (.num 0) (.num 40)), .c (.i .i64 (.num 0))], ⟨[], [(3, some ⟨true, .row [.u8] (.cons (.c2 .fdiv (.c2 .add (.c2 .add (.num 24576) (.c2 .mul (.var 0) (.num 16))) (.c2 .fdiv (.var 1) (.num 65536))) (.num 256)) (.cons (.c2 .sub (.c2 .add (.c2 .add (.num 24576) (.c2 .mul (.var 0) (.num 16))) (.c2 .fdiv (.var 1) (.num 65536))) (.c2 .mul (.c2 .fdiv (.c2 .add (.c2 .add (.num 24576) (.c2 .mul (.var 0) (.num 16))) (.c2 .fdiv (.var 1) (.num 65536))) (.num 256)) (.num 256))) (.cons (.c2 .fdiv (.c2 .sub (.var 1) (.c2 .mul (.c2 .fdiv (.var 1) (.num 65536)) (.num 65536))) (.num 256)) (.cons (.c2 .sub (.c2 .sub (.var 1) (.c2 .mul (.c2 .fdiv (.var 1) (.num 65536)) (.num 65536))) (.c2 .mul (.c2 .fdiv (.c2 .sub (.var 1) (.c2 .mul (.c2 .fdiv (.var 1) (.num 65536)) (.num 65536))) (.num 256)) (.num 256))) (.cons (.c2 .fdiv (.c1 .len (.var 36)) (.num 256)) (.cons (.c2 .sub (.c1 .len (.var 36)) (.c2 .mul (.c2 .fdiv (.c1 .len (.var 36)) (.num 256)) (.num 256))) (.cons (.var 2) (.cons (.var 3) (.cons (.var 4) (.cons (.var 5) (.cons (.var 6) (.cons (.var 7) (.cons (.var 8) (.cons (.var 9) (.cons (.var 10) (.cons (.var 11) (.cons (.var 12) (.cons (.var 13) (.cons (.var 14) (.cons (.var 15) (.cons (.var 16) (.cons (.var 17) (.cons (.var 18) (.cons (.var 19) (.cons (.var 20) (.cons (.var 21) (.cons (.var 22) (.cons (.var 23) (.cons (.var 24) (.cons (.var 25) (.cons (.var 26) (.cons (.var 27) (.cons (.var 28) (.cons (.var 29) (.cons (.var 30) (.cons (.var 31) (.cons (.var 32) (.cons (.var 33) (.cons (.var 34) (.cons (.var 35) .nil))))))))))))))))))))))))))))))))))))))))⟩)], 4, 37, []⟩))))
theorem treeWdNet6_is : funTree (ctxN Go.Proofs.Try.prog annsHd consSum 8) annsHd 76 (tBytes 4 3 60 40 kNet6).vs (tBytes 4 3 60 40 kNet6).bs (tBytes 4 3 60 40 kNet6).n (preF (tBytes 4 3 60 40 kNet6).res) = treeWdNet6 := by kernel_rfl
end Go.Proofs.Ytbiodlomlendkaa.Sx
/- Sx laws of headers: the writers of layer Net6. Conditions: none. -/
set_option linter.unusedVariables false
set_option linter.unusedSimpArgs false
namespace Go.Proofs.Ytbiodlomlendkaa.Sx
open Go
set_option maxRecDepth 100000 in
theorem wdNet6_ok {Φ : Sig} (hΦ : HdSig Φ) : TmplOk Go.Proofs.Try.prog Φ 76 (tBytes 4 3 60 40 kNet6) := by
  refine tmpl_of (consSum_ok hΦ.toSumSig) treeWdNet6_is (fun ρ res hres => ⟨eqJ, ?_⟩)
  obtain ⟨hk, hres⟩ := inKs_some hres
  obtain ⟨h0, hres⟩ := short_some hres
  obtain ⟨hb, hres⟩ := bytes_some hres
  have hr := wr_res (n := 36) hΦ ⟨by decide, by decide⟩ hres
  have h0' : (ρ 36).list.length ≤ 140737488351232 := h0
  have hb' : Bytes (ρ 36).list := hb
  have a0 : (hdrOf Φ ρ 36)[0]?.getD 0 = (ρ 0).int := hdr_at 36 0 (by decide)
  have a1 : (hdrOf Φ ρ 36)[1]?.getD 0 = (ρ 1).int := hdr_at 36 1 (by decide)
  have a2 : (hdrOf Φ ρ 36)[2]?.getD 0 = (ρ 2).int := hdr_at 36 2 (by decide)
  have a3 : (hdrOf Φ ρ 36)[3]?.getD 0 = (ρ 3).int := hdr_at 36 3 (by decide)
  have a4 : (hdrOf Φ ρ 36)[4]?.getD 0 = (ρ 4).int := hdr_at 36 4 (by decide)
  have a5 : (hdrOf Φ ρ 36)[5]?.getD 0 = (ρ 5).int := hdr_at 36 5 (by decide)
  have a6 : (hdrOf Φ ρ 36)[6]?.getD 0 = (ρ 6).int := hdr_at 36 6 (by decide)
  have a7 : (hdrOf Φ ρ 36)[7]?.getD 0 = (ρ 7).int := hdr_at 36 7 (by decide)
  have a8 : (hdrOf Φ ρ 36)[8]?.getD 0 = (ρ 8).int := hdr_at 36 8 (by decide)
  have a9 : (hdrOf Φ ρ 36)[9]?.getD 0 = (ρ 9).int := hdr_at 36 9 (by decide)
  have a10 : (hdrOf Φ ρ 36)[10]?.getD 0 = (ρ 10).int := hdr_at 36 10 (by decide)
  have a11 : (hdrOf Φ ρ 36)[11]?.getD 0 = (ρ 11).int := hdr_at 36 11 (by decide)
  have a12 : (hdrOf Φ ρ 36)[12]?.getD 0 = (ρ 12).int := hdr_at 36 12 (by decide)
  have a13 : (hdrOf Φ ρ 36)[13]?.getD 0 = (ρ 13).int := hdr_at 36 13 (by decide)
  have a14 : (hdrOf Φ ρ 36)[14]?.getD 0 = (ρ 14).int := hdr_at 36 14 (by decide)
  have a15 : (hdrOf Φ ρ 36)[15]?.getD 0 = (ρ 15).int := hdr_at 36 15 (by decide)
  have a16 : (hdrOf Φ ρ 36)[16]?.getD 0 = (ρ 16).int := hdr_at 36 16 (by decide)
  have a17 : (hdrOf Φ ρ 36)[17]?.getD 0 = (ρ 17).int := hdr_at 36 17 (by decide)
  have a18 : (hdrOf Φ ρ 36)[18]?.getD 0 = (ρ 18).int := hdr_at 36 18 (by decide)
  have a19 : (hdrOf Φ ρ 36)[19]?.getD 0 = (ρ 19).int := hdr_at 36 19 (by decide)
  have a20 : (hdrOf Φ ρ 36)[20]?.getD 0 = (ρ 20).int := hdr_at 36 20 (by decide)
  have a21 : (hdrOf Φ ρ 36)[21]?.getD 0 = (ρ 21).int := hdr_at 36 21 (by decide)
  have a22 : (hdrOf Φ ρ 36)[22]?.getD 0 = (ρ 22).int := hdr_at 36 22 (by decide)
  have a23 : (hdrOf Φ ρ 36)[23]?.getD 0 = (ρ 23).int := hdr_at 36 23 (by decide)
  have a24 : (hdrOf Φ ρ 36)[24]?.getD 0 = (ρ 24).int := hdr_at 36 24 (by decide)
  have a25 : (hdrOf Φ ρ 36)[25]?.getD 0 = (ρ 25).int := hdr_at 36 25 (by decide)
  have a26 : (hdrOf Φ ρ 36)[26]?.getD 0 = (ρ 26).int := hdr_at 36 26 (by decide)
  have a27 : (hdrOf Φ ρ 36)[27]?.getD 0 = (ρ 27).int := hdr_at 36 27 (by decide)
  have a28 : (hdrOf Φ ρ 36)[28]?.getD 0 = (ρ 28).int := hdr_at 36 28 (by decide)
  have a29 : (hdrOf Φ ρ 36)[29]?.getD 0 = (ρ 29).int := hdr_at 36 29 (by decide)
  have a30 : (hdrOf Φ ρ 36)[30]?.getD 0 = (ρ 30).int := hdr_at 36 30 (by decide)
  have a31 : (hdrOf Φ ρ 36)[31]?.getD 0 = (ρ 31).int := hdr_at 36 31 (by decide)
  have a32 : (hdrOf Φ ρ 36)[32]?.getD 0 = (ρ 32).int := hdr_at 36 32 (by decide)
  have a33 : (hdrOf Φ ρ 36)[33]?.getD 0 = (ρ 33).int := hdr_at 36 33 (by decide)
  have a34 : (hdrOf Φ ρ 36)[34]?.getD 0 = (ρ 34).int := hdr_at 36 34 (by decide)
  have a35 : (hdrOf Φ ρ 36)[35]?.getD 0 = (ρ 35).int := hdr_at 36 35 (by decide)
  have b0 := hk 0 .u8 rfl
  have b1 := hk 1 .u32 rfl
  simp only [kmin, kmax, Nat.zero_add] at b0 b1
  have m1 : ∀ x : Int, x - x / 256 * 256 = x % 256 := fun x => by omega
  refine ⟨fun c1 => ?_, fun c1 => ?_⟩
  · simp [hΦ.sum, hΦ.ocs, wrap_ocs, m1] at c1
    have hz : wrFail 4 (hdrOf Φ ρ 36) (ρ 36).list = 80 := by
      simp only [wrFail, g, a0, a1, a2, a3, a4, a5, a6, a7, a8, a9, a10, a11, a12, a13, a14, a15, a16, a17, a18, a19, a20, a21, a22, a23, a24, a25, a26, a27, a28, a29, a30, a31, a32, a33, a34, a35]
      repeat' split
      all_goals first | rfl | omega
    exact leaf_wr_err hr hz (by decide) (by decide)
  · refine ⟨fun c2 => ?_, fun c2 => ?_⟩
    · simp [hΦ.sum, hΦ.ocs, wrap_ocs, m1] at c1 c2
      have hz : wrFail 4 (hdrOf Φ ρ 36) (ρ 36).list = 5 := by
        simp only [wrFail, g, a0, a1, a2, a3, a4, a5, a6, a7, a8, a9, a10, a11, a12, a13, a14, a15, a16, a17, a18, a19, a20, a21, a22, a23, a24, a25, a26, a27, a28, a29, a30, a31, a32, a33, a34, a35]
        repeat' split
        all_goals first | rfl | omega
      exact leaf_wr_err hr hz (by decide) (by decide)
    · simp [hΦ.sum, hΦ.ocs, wrap_ocs, m1] at c1 c2
      have hz : wrFail 4 (hdrOf Φ ρ 36) (ρ 36).list = 0 := by
        simp only [wrFail, g, a0, a1, a2, a3, a4, a5, a6, a7, a8, a9, a10, a11, a12, a13, a14, a15, a16, a17, a18, a19, a20, a21, a22, a23, a24, a25, a26, a27, a28, a29, a30, a31, a32, a33, a34, a35]
        repeat' split
        all_goals first | rfl | omega
      refine leaf_wr_ok hr hz ?_ rfl (by decide)
      simp only [list_cons, list_nil, int_add, int_sub, int_mul, int_fdiv, int_len, den_var, den_num, D.int_i, fdiv_lit, m1, int_wr, den_fn, hΦ.sum, hΦ.ocs, wrap_ocs, wrGood, wrBase, putF, fld, fld1, List.set_cons_succ, List.set_cons_zero, List.cons_append, List.nil_append, g, a0, a1, a2, a3, a4, a5, a6, a7, a8, a9, a10, a11, a12, a13, a14, a15, a16, a17, a18, a19, a20, a21, a22, a23, a24, a25, a26, a27, a28, a29, a30, a31, a32, a33, a34, a35]
      all_goals try simp only [List.cons.injEq, and_true, true_and]
      all_goals repeat' apply And.intro
      all_goals first | rfl | omega
end Go.Proofs.Ytbiodlomlendkaa.Sx
/- Sx: what Go function 77 does, as a tree of conditions (printed by a tool of this claim, proved by the kernel). Conditions: none. -/
set_option maxRecDepth 100000
namespace Go.Proofs.Ytbiodlomlendkaa.Sx
open Go
def treeWdSeg : M (V × St) :=
(.split (.c2 .le (.num 64) (.var 4))
 (.ret (.t [.c (.sn), .c (.i .i64 (.num 90))], ⟨[], [], 3, 7, []⟩))
 (.split (.c2 .lt (.num 2028) (.c1 .len (.var 6)))
  (.ret (.t [.c (.sn), .c (.i .i64 (.num 5))], ⟨[], [], 3, 7, []⟩))
  (.ret (.t [.c (.s 3 1 0 (.num 0) (.num 20)), .c (.i .i64 (.num 0))], ⟨[], [(3, some ⟨true, .row [.u8] (.cons (.c2 .fdiv (.var 0) (.num 256)) (.cons (.c2 .sub (.var 0) (.c2 .mul (.c2 .fdiv (.var 0) (.num 256)) (.num 256))) (.cons (.c2 .fdiv (.var 1) (.num 256)) (.cons (.c2 .sub (.var 1) (.c2 .mul (.c2 .fdiv (.var 1) (.num 256)) (.num 256))) (.cons (.c2 .fdiv (.c2 .fdiv (.var 2) (.num 65536)) (.num 256)) (.cons (.c2 .sub (.c2 .fdiv (.var 2) (.num 65536)) (.c2 .mul (.c2 .fdiv (.c2 .fdiv (.var 2) (.num 65536)) (.num 256)) (.num 256))) (.cons (.c2 .fdiv (.c2 .sub (.var 2) (.c2 .mul (.c2 .fdiv (.var 2) (.num 65536)) (.num 65536))) (.num 256)) (.cons (.c2 .sub (.c2 .sub (.var 2) (.c2 .mul (.c2 .fdiv (.var 2) (.num 65536)) (.num 65536))) (.c2 .mul (.c2 .fdiv (.c2 .sub (.var 2) (.c2 .mul (.c2 .fdiv (.var 2) (.num 65536)) (.num 65536))) (.num 256)) (.num 256))) (.cons (.c2 .fdiv (.c2 .fdiv (.var 3) (.num 65536)) (.num 256)) (.cons (.c2 .sub (.c2 .fdiv (.var 3) (.num 65536)) (.c2 .mul (.c2 .fdiv (.c2 .fdiv (.var 3) (.num 65536)) (.num 256)) (.num 256))) (.cons (.c2 .fdiv (.c2 .sub (.var 3) (.c2 .mul (.c2 .fdiv (.var 3) (.num 65536)) (.num 65536))) (.num 256)) (.cons (.c2 .sub (.c2 .sub (.var 3) (.c2 .mul (.c2 .fdiv (.var 3) (.num 65536)) (.num 65536))) (.c2 .mul (.c2 .fdiv (.c2 .sub (.var 3) (.c2 .mul (.c2 .fdiv (.var 3) (.num 65536)) (.num 65536))) (.num 256)) (.num 256))) (.cons (.c2 .fdiv (.c2 .add (.num 20480) (.var 4)) (.num 256)) (.cons (.c2 .sub (.c2 .add (.num 20480) (.var 4)) (.c2 .mul (.c2 .fdiv (.c2 .add (.num 20480) (.var 4)) (.num 256)) (.num 256))) (.cons (.c2 .fdiv (.var 5) (.num 256)) (.cons (.c2 .sub (.var 5) (.c2 .mul (.c2 .fdiv (.var 5) (.num 256)) (.num 256))) (.cons (.c2 .fdiv (.c2 .sub (.num 65535) (.wr .u16 (.fn 2 (.c2 .add (.wr .u16 (.fn 1 (.cons (.c2 .fdiv (.var 0) (.num 256)) (.cons (.c2 .sub (.var 0) (.c2 .mul (.c2 .fdiv (.var 0) (.num 256)) (.num 256))) (.cons (.c2 .fdiv (.var 1) (.num 256)) (.cons (.c2 .sub (.var 1) (.c2 .mul (.c2 .fdiv (.var 1) (.num 256)) (.num 256))) (.cons (.c2 .fdiv (.c2 .fdiv (.var 2) (.num 65536)) (.num 256)) (.cons (.c2 .sub (.c2 .fdiv (.var 2) (.num 65536)) (.c2 .mul (.c2 .fdiv (.c2 .fdiv (.var 2) (.num 65536)) (.num 256)) (.num 256))) (.cons (.c2 .fdiv (.c2 .sub (.var 2) (.c2 .mul (.c2 .fdiv (.var 2) (.num 65536)) (.num 65536))) (.num 256)) (.cons (.c2 .sub (.c2 .sub (.var 2) (.c2 .mul (.c2 .fdiv (.var 2) (.num 65536)) (.num 65536))) (.c2 .mul (.c2 .fdiv (.c2 .sub (.var 2) (.c2 .mul (.c2 .fdiv (.var 2) (.num 65536)) (.num 65536))) (.num 256)) (.num 256))) (.cons (.c2 .fdiv (.c2 .fdiv (.var 3) (.num 65536)) (.num 256)) (.cons (.c2 .sub (.c2 .fdiv (.var 3) (.num 65536)) (.c2 .mul (.c2 .fdiv (.c2 .fdiv (.var 3) (.num 65536)) (.num 256)) (.num 256))) (.cons (.c2 .fdiv (.c2 .sub (.var 3) (.c2 .mul (.c2 .fdiv (.var 3) (.num 65536)) (.num 65536))) (.num 256)) (.cons (.c2 .sub (.c2 .sub (.var 3) (.c2 .mul (.c2 .fdiv (.var 3) (.num 65536)) (.num 65536))) (.c2 .mul (.c2 .fdiv (.c2 .sub (.var 3) (.c2 .mul (.c2 .fdiv (.var 3) (.num 65536)) (.num 65536))) (.num 256)) (.num 256))) (.cons (.c2 .fdiv (.c2 .add (.num 20480) (.var 4)) (.num 256)) (.cons (.c2 .sub (.c2 .add (.num 20480) (.var 4)) (.c2 .mul (.c2 .fdiv (.c2 .add (.num 20480) (.var 4)) (.num 256)) (.num 256))) (.cons (.c2 .fdiv (.var 5) (.num 256)) (.cons (.c2 .sub (.var 5) (.c2 .mul (.c2 .fdiv (.var 5) (.num 256)) (.num 256))) (.cons (.num 0) (.cons (.num 0) (.cons (.num 0) (.cons (.num 0) .nil)))))))))))))))))))) .nil .nil)) (.wr .u16 (.fn 1 (.var 6) .nil .nil))) .nil .nil))) (.num 256)) (.cons (.c2 .sub (.c2 .sub (.num 65535) (.wr .u16 (.fn 2 (.c2 .add (.wr .u16 (.fn 1 (.cons (.c2 .fdiv (.var 0) (.num 256)) (.cons (.c2 .sub (.var 0) (.c2 .mul (.c2 .fdiv (.var 0) (.num 256)) (.num 256))) (.cons (.c2 .fdiv (.var 1) (.num 256)) (.cons (.c2 .sub (.var 1) (.c2 .mul (.c2 .fdiv (.var 1) (.num 256)) (.num 256))) (.cons (.c2 .fdiv (.c2 .fdiv (.var 2) (.num 65536)) (.num 256)) (.cons (.c2 .sub (.c2 .fdiv (.var 2) (.num 65536)) (.c2 .mul (.c2 .fdiv (.c2 .fdiv (.var 2) (.num 65536)) (.num 256)) (.num 256))) (.cons (.c2 .fdiv (.c2 .sub (.var 2) (.c2 .mul (.c2 .fdiv (.var 2) (.num 65536)) (.num 65536))) (.num 256)) (.cons (.c2 .sub (.c2 .sub (.var 2) (.c2 .mul (.c2 .fdiv (.var 2) (.num 65536)) (.num 65536))) (.c2 .mul (.c2 .fdiv (.c2 .sub (.var 2) (.c2 .mul (.c2 .fdiv (.var 2) (.num 65536)) (.num 65536))) (.num 256)) (.num 256))) (.cons (.c2 .fdiv (.c2 .fdiv (.var 3) (.num 65536)) (.num 256)) (.cons (.c2 .sub (.c2 .fdiv (.var 3) (.num 65536)) (.c2 .mul (.c2 .fdiv (.c2 .fdiv (.var 3) (.num 65536)) (.num 256)) (.num 256))) (.cons (.c2 .fdiv (.c2 .sub (.var 3) (.c2 .mul (.c2 .fdiv (.var 3) (.num 65536)) (.num 65536))) (.num 256)) (.cons (.c2 .sub (.c2 .sub (.var 3) (.c2 .mul (.c2 .fdiv (.var 3) (.num 65536)) (.num 65536))) (.c2 .mul (.c2 .fdiv (.c2 .sub (.var 3) (.c2 .mul (.c2 .fdiv (.var 3) (.num 65536)) (.num 65536))) (.num 256)) (.num 256))) (.cons (.c2 .fdiv (.c2 .add (.num 20480) (.var 4)) (.num 256)) (.cons (.c2 .sub (.c2 .add (.num 20480) (.var 4)) (.c2 .mul (.c2 .fdiv (.c2 .add (.num 20480) (.var 4)) (.num 256)) (.num 256))) (.cons (.c2 .fdiv (.var 5) (.num 256)) (.cons (.c2 .sub (.var 5) (.c2 .mul (.c2 .fdiv (.var 5) (.num 256)) (.num 256))) (.cons (.num 0) (.cons (.num 0) (.cons (.num 0) (.cons (.num 0) .nil)))))))))))))))))))) .nil .nil)) (.wr .u16 (.fn 1 (.var 6) .nil .nil))) .nil .nil))) (.c2 .mul (.c2 .fdiv (.c2 .sub (.num 65535) (.wr .u16 (.fn 2 (.c2 .add (.wr .u16 (.fn 1 (.cons (.c2 .fdiv (.var 0) (.num 256)) (.cons (.c2 .sub (.var 0) (.c2 .mul (.c2 .fdiv (.var 0) (.num 256)) (.num 256))) (.cons (.c2 .fdiv (.var 1) (.num 256)) (.cons (.c2 .sub (.var 1) (.c2 .mul (.c2 .fdiv (.var 1) (.num 256)) (.num 256))) (.cons (.c2 .fdiv (.c2 .fdiv (.var 2) (.num 65536)) (.num 256)) (.cons (.c2 .sub (.c2 .fdiv (.var 2) (.num 65536)) (.c2 .mul (.c2 .fdiv (.c2 .fdiv (.var 2) (.num 65536)) (.num 256)) (.num 256))) (.cons (.c2 .fdiv (.c2 .sub (.var 2) (.c2 .mul (.c2 .fdiv (.var 2) (.num 65536)) (.num 65536))) (.num 256)) (.cons (.c2 .sub (.c2 .sub (.var 2) (.c2 .mul (.c2 .fdiv (.var 2) (.num 65536)) (.num 65536))) (.c2 .mul (.c2 .fdiv (.c2 .sub (.var 2) (.c2 .mul (.c2 .fdiv (.var 2) (.num 65536)) (.num 65536))) (.num 256)) (.num 256))) (.cons (.c2 .fdiv (.c2 .fdiv (.var 3) (.num 65536)) (.num 256)) (.cons (.c2 .sub (.c2 .fdiv (.var 3) (.num 65536)) (.c2 .mul (.c2 .fdiv (.c2 .fdiv (.var 3) (.num 65536)) (.num 256)) (.num 256))) (.cons (.c2 .fdiv (.c2 .sub (.var 3) (.c2 .mul (.c2 .fdiv (.var 3) (.num 65536)) (.num 65536))) (.num 256)) (.cons (.c2 .sub (.c2 .sub (.var 3) (.c2 .mul (.c2 .fdiv (.var 3) (.num 65536)) (.num 65536))) (.c2 .mul (.c2 .fdiv (.c2 .sub (.var 3) (.c2 .mul (.c2 .fdiv (.var 3) (.num 65536)) (.num 65536))) (.num 256)) (.num 256))) (.cons (.c2 .fdiv (.c2 .add (.num 20480) (.var 4)) (.num 256)) (.cons (.c2 .sub (.c2 .add (.num 20480) (.var 4)) (.c2 .mul (.c2 .fdiv (.c2 .add (.num 20480) (.var 4)) (.num 256)) (.num 256))) (.cons (.c2 .fdiv (.var 5) (.num 256)) (.cons (.c2 .sub (.var 5) (.c2 .mul (.c2 .fdiv (.var 5) (.num 256)) (.num 256))) (.cons (.num 0) (.cons (.num 0) (.cons (.num 0) (.cons (.num 0) .nil)))))))))))))))))))) .nil .nil)) (.wr .u16 (.fn 1 (.var 6) .nil .nil))) .nil .nil))) (.num 256)) (.num 256))) (.cons (.num 0) (.cons (.num 0) .nil))))))))))))))))))))⟩)], 6, 7, []⟩))))
theorem treeWdSeg_is : funTree (ctxN Go.Proofs.Try.prog annsHd consSum 8) annsHd 77 (tBytes 5 3 60 20 kSeg).vs (tBytes 5 3 60 20 kSeg).bs (tBytes 5 3 60 20 kSeg).n (preF (tBytes 5 3 60 20 kSeg).res) = treeWdSeg := by kernel_rfl
end Go.Proofs.Ytbiodlomlendkaa.Sx
/- Sx laws of headers: the writers of layer Seg. Conditions: none. -/
set_option linter.unusedVariables false
set_option linter.unusedSimpArgs false
namespace Go.Proofs.Ytbiodlomlendkaa.Sx
open Go
set_option maxRecDepth 100000 in
theorem wdSeg_ok {Φ : Sig} (hΦ : HdSig Φ) : TmplOk Go.Proofs.Try.prog Φ 77 (tBytes 5 3 60 20 kSeg) := by
  refine tmpl_of (consSum_ok hΦ.toSumSig) treeWdSeg_is (fun ρ res hres => ⟨eqJ, ?_⟩)
  obtain ⟨hk, hres⟩ := inKs_some hres
  obtain ⟨h0, hres⟩ := short_some hres
  obtain ⟨hb, hres⟩ := bytes_some hres
  have hr := wr_res (n := 6) hΦ ⟨by decide, by decide⟩ hres
  have h0' : (ρ 6).list.length ≤ 140737488351232 := h0
  have hb' : Bytes (ρ 6).list := hb
  have a0 : (hdrOf Φ ρ 6)[0]?.getD 0 = (ρ 0).int := hdr_at 6 0 (by decide)
  have a1 : (hdrOf Φ ρ 6)[1]?.getD 0 = (ρ 1).int := hdr_at 6 1 (by decide)
  have a2 : (hdrOf Φ ρ 6)[2]?.getD 0 = (ρ 2).int := hdr_at 6 2 (by decide)
  have a3 : (hdrOf Φ ρ 6)[3]?.getD 0 = (ρ 3).int := hdr_at 6 3 (by decide)
  have a4 : (hdrOf Φ ρ 6)[4]?.getD 0 = (ρ 4).int := hdr_at 6 4 (by decide)
  have a5 : (hdrOf Φ ρ 6)[5]?.getD 0 = (ρ 5).int := hdr_at 6 5 (by decide)
  have b0 := hk 0 .u16 rfl
  have b1 := hk 1 .u16 rfl
  have b2 := hk 2 .u32 rfl
  have b3 := hk 3 .u32 rfl
  have b4 := hk 4 .u8 rfl
  have b5 := hk 5 .u16 rfl
  simp only [kmin, kmax, Nat.zero_add] at b0 b1 b2 b3 b4 b5
  have n1 : ∀ x : Int, x / 65536 / 256 = x / 16777216 := fun x => by omega
  have n2 : ∀ x : Int, (x - x / 65536 * 65536) / 256 = x / 256 % 256 := fun x => by omega
  have n3 : ∀ x : Int, (x - x / 65536 * 65536) % 256 = x % 256 := fun x => by omega
  have n4 : ∀ x : Int, x / 65536 - x / 16777216 * 256 = x / 65536 % 256 := fun x => by omega
  have n5 : ∀ x : Int, x - x / 65536 * 65536 - x / 256 % 256 * 256 = x % 256 := fun x => by omega
  have m1 : ∀ x : Int, x - x / 256 * 256 = x % 256 := fun x => by omega
  have hB : 0 ≤ wsum (wrBase 5 (hdrOf Φ ρ 6) (ρ 6).list) := by simp only [wrBase, wsum, g, a0, a1, a2, a3, a4, a5]; omega
  have hS : ocs (ocs (wsum (wrBase 5 (hdrOf Φ ρ 6) (ρ 6).list)) + ocs (wsum (ρ 6).list)) = ocs (wsum (wrBase 5 (hdrOf Φ ρ 6) (ρ 6).list ++ (ρ 6).list)) := by rw [ocs_two hB (wsum_range hb').1, wsum_app _ _ (by simp [wrBase])]
  simp only [wrBase, g, a0, a1, a2, a3, a4, a5, List.cons_append, List.nil_append] at hS
  have hR := ocs_range (wsum (wrBase 5 (hdrOf Φ ρ 6) (ρ 6).list ++ (ρ 6).list))
  simp only [wrBase, g, a0, a1, a2, a3, a4, a5, List.cons_append, List.nil_append] at hR
  refine ⟨fun c1 => ?_, fun c1 => ?_⟩
  · simp [hΦ.sum, hΦ.ocs, wrap_ocs, m1, hS] at c1
    have hz : wrFail 5 (hdrOf Φ ρ 6) (ρ 6).list = 90 := by
      simp only [wrFail, g, a0, a1, a2, a3, a4, a5]
      repeat' split
      all_goals first | rfl | omega
    exact leaf_wr_err hr hz (by decide) (by decide)
  · refine ⟨fun c2 => ?_, fun c2 => ?_⟩
    · simp [hΦ.sum, hΦ.ocs, wrap_ocs, m1, hS] at c1 c2
      have hz : wrFail 5 (hdrOf Φ ρ 6) (ρ 6).list = 5 := by
        simp only [wrFail, g, a0, a1, a2, a3, a4, a5]
        repeat' split
        all_goals first | rfl | omega
      exact leaf_wr_err hr hz (by decide) (by decide)
    · simp [hΦ.sum, hΦ.ocs, wrap_ocs, m1, hS] at c1 c2
      have hz : wrFail 5 (hdrOf Φ ρ 6) (ρ 6).list = 0 := by
        simp only [wrFail, g, a0, a1, a2, a3, a4, a5]
        repeat' split
        all_goals first | rfl | omega
      have q1 : (20480 + (ρ 4).int) / 256 = 80 := by omega
      have q2 : (20480 + (ρ 4).int) % 256 = (ρ 4).int := by omega
      have q3 : 20480 + (ρ 4).int - 80 * 256 = (ρ 4).int := by omega
      refine leaf_wr_ok hr hz ?_ rfl (by decide)
      simp only [list_cons, list_nil, int_add, int_sub, int_mul, int_fdiv, int_len, den_var, den_num, D.int_i, fdiv_lit, m1, n1, n2, n3, n4, n5, q1, q2, q3, int_wr, den_fn, hΦ.sum, hΦ.ocs, wrap_ocs, hS, wrGood, wrBase, putF, fld, fld1, List.set_cons_succ, List.set_cons_zero, List.cons_append, List.nil_append, g, a0, a1, a2, a3, a4, a5]
      all_goals try simp only [List.cons.injEq, and_true, true_and]
      all_goals repeat' apply And.intro
      all_goals first | rfl | omega
end Go.Proofs.Ytbiodlomlendkaa.Sx
/- Sx: what Go function 78 does, as a tree of conditions (printed by a tool of this claim, proved by the kernel). Conditions: none. -/
set_option maxRecDepth 100000
namespace Go.Proofs.Ytbiodlomlendkaa.Sx
open Go
def treeWdDgram : M (V × St) :=
(.split (.c2 .lt (.num 2040) (.c1 .len (.var 2)))
 (.ret (.t [.c (.sn), .c (.i .i64 (.num 5))], ⟨[], [], 3, 3, []⟩))
 (.split (.c1 .not (.c2 .eq (.c2 .sub (.num 65535) (.wr .u16 (.fn 2 (.c2 .add (.wr .u16 (.fn 1 (.cons (.c2 .fdiv (.var 0) (.num 256)) (.cons (.c2 .sub (.var 0) (.c2 .mul (.c2 .fdiv (.var 0) (.num 256)) (.num 256))) (.cons (.c2 .fdiv (.var 1) (.num 256)) (.cons (.c2 .sub (.var 1) (.c2 .mul (.c2 .fdiv (.var 1) (.num 256)) (.num 256))) (.cons (.c2 .fdiv (.c2 .add (.num 8) (.c1 .len (.var 2))) (.num 256)) (.cons (.c2 .sub (.c2 .add (.num 8) (.c1 .len (.var 2))) (.c2 .mul (.c2 .fdiv (.c2 .add (.num 8) (.c1 .len (.var 2))) (.num 256)) (.num 256))) (.cons (.num 0) (.cons (.num 0) .nil)))))))) .nil .nil)) (.wr .u16 (.fn 1 (.var 2) .nil .nil))) .nil .nil))) (.num 0)))
  (.ret (.t [.c (.s 3 1 0 (.num 0) (.num 8)), .c (.i .i64 (.num 0))], ⟨[], [(3, some ⟨true, .row [.u8] (.cons (.c2 .fdiv (.var 0) (.num 256)) (.cons (.c2 .sub (.var 0) (.c2 .mul (.c2 .fdiv (.var 0) (.num 256)) (.num 256))) (.cons (.c2 .fdiv (.var 1) (.num 256)) (.cons (.c2 .sub (.var 1) (.c2 .mul (.c2 .fdiv (.var 1) (.num 256)) (.num 256))) (.cons (.c2 .fdiv (.c2 .add (.num 8) (.c1 .len (.var 2))) (.num 256)) (.cons (.c2 .sub (.c2 .add (.num 8) (.c1 .len (.var 2))) (.c2 .mul (.c2 .fdiv (.c2 .add (.num 8) (.c1 .len (.var 2))) (.num 256)) (.num 256))) (.cons (.c2 .fdiv (.c2 .sub (.num 65535) (.wr .u16 (.fn 2 (.c2 .add (.wr .u16 (.fn 1 (.cons (.c2 .fdiv (.var 0) (.num 256)) (.cons (.c2 .sub (.var 0) (.c2 .mul (.c2 .fdiv (.var 0) (.num 256)) (.num 256))) (.cons (.c2 .fdiv (.var 1) (.num 256)) (.cons (.c2 .sub (.var 1) (.c2 .mul (.c2 .fdiv (.var 1) (.num 256)) (.num 256))) (.cons (.c2 .fdiv (.c2 .add (.num 8) (.c1 .len (.var 2))) (.num 256)) (.cons (.c2 .sub (.c2 .add (.num 8) (.c1 .len (.var 2))) (.c2 .mul (.c2 .fdiv (.c2 .add (.num 8) (.c1 .len (.var 2))) (.num 256)) (.num 256))) (.cons (.num 0) (.cons (.num 0) .nil)))))))) .nil .nil)) (.wr .u16 (.fn 1 (.var 2) .nil .nil))) .nil .nil))) (.num 256)) (.cons (.c2 .sub (.c2 .sub (.num 65535) (.wr .u16 (.fn 2 (.c2 .add (.wr .u16 (.fn 1 (.cons (.c2 .fdiv (.var 0) (.num 256)) (.cons (.c2 .sub (.var 0) (.c2 .mul (.c2 .fdiv (.var 0) (.num 256)) (.num 256))) (.cons (.c2 .fdiv (.var 1) (.num 256)) (.cons (.c2 .sub (.var 1) (.c2 .mul (.c2 .fdiv (.var 1) (.num 256)) (.num 256))) (.cons (.c2 .fdiv (.c2 .add (.num 8) (.c1 .len (.var 2))) (.num 256)) (.cons (.c2 .sub (.c2 .add (.num 8) (.c1 .len (.var 2))) (.c2 .mul (.c2 .fdiv (.c2 .add (.num 8) (.c1 .len (.var 2))) (.num 256)) (.num 256))) (.cons (.num 0) (.cons (.num 0) .nil)))))))) .nil .nil)) (.wr .u16 (.fn 1 (.var 2) .nil .nil))) .nil .nil))) (.c2 .mul (.c2 .fdiv (.c2 .sub (.num 65535) (.wr .u16 (.fn 2 (.c2 .add (.wr .u16 (.fn 1 (.cons (.c2 .fdiv (.var 0) (.num 256)) (.cons (.c2 .sub (.var 0) (.c2 .mul (.c2 .fdiv (.var 0) (.num 256)) (.num 256))) (.cons (.c2 .fdiv (.var 1) (.num 256)) (.cons (.c2 .sub (.var 1) (.c2 .mul (.c2 .fdiv (.var 1) (.num 256)) (.num 256))) (.cons (.c2 .fdiv (.c2 .add (.num 8) (.c1 .len (.var 2))) (.num 256)) (.cons (.c2 .sub (.c2 .add (.num 8) (.c1 .len (.var 2))) (.c2 .mul (.c2 .fdiv (.c2 .add (.num 8) (.c1 .len (.var 2))) (.num 256)) (.num 256))) (.cons (.num 0) (.cons (.num 0) .nil)))))))) .nil .nil)) (.wr .u16 (.fn 1 (.var 2) .nil .nil))) .nil .nil))) (.num 256)) (.num 256))) .nil))))))))⟩)], 6, 3, []⟩))
  (.ret (.t [.c (.s 3 1 0 (.num 0) (.num 8)), .c (.i .i64 (.num 0))], ⟨[], [(3, some ⟨true, .row [.u8] (.cons (.c2 .fdiv (.var 0) (.num 256)) (.cons (.c2 .sub (.var 0) (.c2 .mul (.c2 .fdiv (.var 0) (.num 256)) (.num 256))) (.cons (.c2 .fdiv (.var 1) (.num 256)) (.cons (.c2 .sub (.var 1) (.c2 .mul (.c2 .fdiv (.var 1) (.num 256)) (.num 256))) (.cons (.c2 .fdiv (.c2 .add (.num 8) (.c1 .len (.var 2))) (.num 256)) (.cons (.c2 .sub (.c2 .add (.num 8) (.c1 .len (.var 2))) (.c2 .mul (.c2 .fdiv (.c2 .add (.num 8) (.c1 .len (.var 2))) (.num 256)) (.num 256))) (.cons (.num 255) (.cons (.num 255) .nil))))))))⟩)], 6, 3, []⟩))))
theorem treeWdDgram_is : funTree (ctxN Go.Proofs.Try.prog annsHd consSum 8) annsHd 78 (tBytes 6 3 60 8 kDgram).vs (tBytes 6 3 60 8 kDgram).bs (tBytes 6 3 60 8 kDgram).n (preF (tBytes 6 3 60 8 kDgram).res) = treeWdDgram := by kernel_rfl
end Go.Proofs.Ytbiodlomlendkaa.Sx
/- Sx laws of headers: the writers of layer Dgram. Conditions: none. -/
set_option linter.unusedVariables false
set_option linter.unusedSimpArgs false
namespace Go.Proofs.Ytbiodlomlendkaa.Sx
open Go
set_option maxRecDepth 100000 in
theorem wdDgram_ok {Φ : Sig} (hΦ : HdSig Φ) : TmplOk Go.Proofs.Try.prog Φ 78 (tBytes 6 3 60 8 kDgram) := by
  refine tmpl_of (consSum_ok hΦ.toSumSig) treeWdDgram_is (fun ρ res hres => ⟨eqJ, ?_⟩)
  obtain ⟨hk, hres⟩ := inKs_some hres
  obtain ⟨h0, hres⟩ := short_some hres
  obtain ⟨hb, hres⟩ := bytes_some hres
  have hr := wr_res (n := 2) hΦ ⟨by decide, by decide⟩ hres
  have h0' : (ρ 2).list.length ≤ 140737488351232 := h0
  have hb' : Bytes (ρ 2).list := hb
  have a0 : (hdrOf Φ ρ 2)[0]?.getD 0 = (ρ 0).int := hdr_at 2 0 (by decide)
  have a1 : (hdrOf Φ ρ 2)[1]?.getD 0 = (ρ 1).int := hdr_at 2 1 (by decide)
  have b0 := hk 0 .u16 rfl
  have b1 := hk 1 .u16 rfl
  simp only [kmin, kmax, Nat.zero_add] at b0 b1
  have m1 : ∀ x : Int, x - x / 256 * 256 = x % 256 := fun x => by omega
  have hB : 0 ≤ wsum (wrBase 6 (hdrOf Φ ρ 2) (ρ 2).list) := by simp only [wrBase, wsum, g, a0, a1]; omega
  have hS : ocs (ocs (wsum (wrBase 6 (hdrOf Φ ρ 2) (ρ 2).list)) + ocs (wsum (ρ 2).list)) = ocs (wsum (wrBase 6 (hdrOf Φ ρ 2) (ρ 2).list ++ (ρ 2).list)) := by rw [ocs_two hB (wsum_range hb').1, wsum_app _ _ (by simp [wrBase])]
  simp only [wrBase, g, a0, a1, List.cons_append, List.nil_append] at hS
  have hR := ocs_range (wsum (wrBase 6 (hdrOf Φ ρ 2) (ρ 2).list ++ (ρ 2).list))
  simp only [wrBase, g, a0, a1, List.cons_append, List.nil_append] at hR
  refine ⟨fun c1 => ?_, fun c1 => ?_⟩
  · simp [hΦ.sum, hΦ.ocs, wrap_ocs, m1, hS] at c1
    have hz : wrFail 6 (hdrOf Φ ρ 2) (ρ 2).list = 5 := by
      simp only [wrFail, g, a0, a1]
      repeat' split
      all_goals first | rfl | omega
    exact leaf_wr_err hr hz (by decide) (by decide)
  · refine ⟨fun c2 => ?_, fun c2 => ?_⟩
    · simp [hΦ.sum, hΦ.ocs, wrap_ocs, m1, hS] at c1 c2
      have hz : wrFail 6 (hdrOf Φ ρ 2) (ρ 2).list = 0 := by
        simp only [wrFail, g, a0, a1]
        repeat' split
        all_goals first | rfl | omega
      refine leaf_wr_ok hr hz ?_ rfl (by decide)
      simp only [list_cons, list_nil, int_add, int_sub, int_mul, int_fdiv, int_len, den_var, den_num, D.int_i, fdiv_lit, m1, int_wr, den_fn, hΦ.sum, hΦ.ocs, wrap_ocs, hS, wrGood, wrBase, putF, fld, fld1, List.set_cons_succ, List.set_cons_zero, List.cons_append, List.nil_append, g, a0, a1]
      all_goals try simp only [List.cons.injEq, and_true, true_and]
      all_goals repeat' apply And.intro
      all_goals first | rfl | omega
    · simp [hΦ.sum, hΦ.ocs, wrap_ocs, m1, hS] at c1 c2
      have hz : wrFail 6 (hdrOf Φ ρ 2) (ρ 2).list = 0 := by
        simp only [wrFail, g, a0, a1]
        repeat' split
        all_goals first | rfl | omega
      refine leaf_wr_ok hr hz ?_ rfl (by decide)
      simp only [list_cons, list_nil, int_add, int_sub, int_mul, int_fdiv, int_len, den_var, den_num, D.int_i, fdiv_lit, m1, int_wr, den_fn, hΦ.sum, hΦ.ocs, wrap_ocs, hS, wrGood, wrBase, putF, fld, fld1, List.set_cons_succ, List.set_cons_zero, List.cons_append, List.nil_append, g, a0, a1]
      all_goals try simp only [List.cons.injEq, and_true, true_and]
      all_goals repeat' apply And.intro
      all_goals first | rfl | omega
end Go.Proofs.Ytbiodlomlendkaa.Sx
/- Sx laws of wrapping: the contracts of what is put on and taken off. Conditions: none. -/
set_option linter.unusedVariables false
set_option linter.unusedSimpArgs false
set_option maxRecDepth 100000
namespace Go.Proofs.Ytbiodlomlendkaa.Sx
open Go
theorem consRdApp {Φ : Sig} {a b : List (Nat × Con)} (ha : ConsOk Go.Proofs.Try.prog Φ a) (hb : ConsOk Go.Proofs.Try.prog Φ b) : ConsOk Go.Proofs.Try.prog Φ (a ++ b) := by
  intro f c h
  induction a with
  | nil => exact hb f c h
  | cons x a ih =>
    obtain ⟨k, d⟩ := x
    simp only [List.cons_append, findCon] at h
    split at h
    · rename_i e
      exact ha f c (by simp only [findCon]; rw [if_pos e]; exact h)
    · rename_i e
      by_cases hk : findCon a f = none
      · have : ConsOk Go.Proofs.Try.prog Φ b := hb
        have hab : ∀ (l : List (Nat × Con)), findCon l f = none → findCon (l ++ b) f = findCon b f := by
          intro l
          induction l with
          | nil => intro _; rfl
          | cons y l ih2 =>
            intro hl
            obtain ⟨k2, d2⟩ := y
            simp only [findCon] at hl
            split at hl
            · cases hl
            · rename_i e2; simp only [List.cons_append, findCon]; rw [if_neg e2]; exact ih2 hl
        rw [hab a hk] at h
        exact hb f c h
      · obtain ⟨c2, hc2⟩ := Option.ne_none_iff_exists'.mp hk
        have hab : ∀ (l : List (Nat × Con)), findCon l f = some c2 → findCon (l ++ b) f = some c2 := by
          intro l
          induction l with
          | nil => intro h; cases h
          | cons y l ih2 =>
            intro hl
            obtain ⟨k2, d2⟩ := y
            simp only [findCon] at hl
            simp only [List.cons_append, findCon]
            split at hl
            · rename_i e2; rw [if_pos e2]; exact hl
            · rename_i e2; rw [if_neg e2]; exact ih2 hl
        rw [hab a hc2] at h
        injection h with h
        subst h
        exact ha f c2 (by simp only [findCon]; rw [if_neg e]; exact hc2)
theorem consWd_ok' {Φ : Sig} (hΦ : HdSig Φ) : ConsOk Go.Proofs.Try.prog Φ consWd := (moreCons (con_ok (wdLink_ok hΦ)) (moreCons (con_ok (wdTag_ok hΦ)) (moreCons (con_ok (wdNet4_ok hΦ)) (moreCons (con_ok (wdNet6_ok hΦ)) (moreCons (con_ok (wdSeg_ok hΦ)) (moreCons (con_ok (wdDgram_ok hΦ)) noCons))))))
theorem consW1_ok {Φ : Sig} (hΦ : HdSig Φ) : ConsOk Go.Proofs.Try.prog Φ consW1 := moreCons (con_ok clone_ok) (consRdApp (consWd_ok' hΦ) (consRd_ok hΦ))
theorem wsz_ok {Φ : Sig} (hΦ : WrSig Φ) : TmplOk Go.Proofs.Try.prog Φ 26 tSize := by
  refine tmpl_of noCons treeWsSize_is (fun ρ res hres => ⟨eqJ, ?_⟩)
  obtain ⟨hlo, hhi, hres⟩ := inR_some hres
  obtain rfl := ret_some hres
  have lf : ∀ {z e : T} {n nv : Nat}, (T.den Φ ρ z).int = hdSize (ρ 0).int.toNat → (T.den Φ ρ e).int = szErr (ρ 0).int → n ≤ 100 → Leaf Φ ρ ρ ⟨.t [.c (.i .i64 (.fn 73 (.var 0) .nil .nil)), .c (.i .i64 (.fn 74 (.var 0) .nil .nil))], [], 100⟩ (.t [.c (.i .i64 z), .c (.i .i64 e)], ⟨[], [], n, nv, []⟩) := by
    intro z e n nv h1 h2 hn
    refine ⟨⟨⟨rfl, ?_⟩, ⟨rfl, ?_⟩, trivial⟩, trivial, hn⟩
    · rw [h1, den_fn, hΦ.szN]; rfl
    · rw [h2, den_fn, hΦ.szE]; rfl
  refine ⟨fun c1 => ?_, fun c1 => ?_⟩
  · rw [lt_t, den_var, den_num] at c1
    have c1 : (ρ 0).int < 1 := c1
    have hs : hdSize (ρ 0).int.toNat = 0 := by
      rcases Int.lt_or_le (ρ 0).int 1 with h | h
      · rw [show (ρ 0).int.toNat = 0 from by omega]; rfl
      · obtain ⟨u, hu⟩ : ∃ u, (ρ 0).int.toNat = u + 7 := ⟨(ρ 0).int.toNat - 7, by omega⟩
        rw [hu]; rfl
    exact lf (by rw [hs]; rfl) (by rw [szErr, if_neg (by omega)]; rfl) (by decide)
  refine ⟨fun c2 => ?_, fun c2 => ?_⟩
  · rw [lt_t, den_var, den_num] at c2
    have c2 : 6 < (ρ 0).int := c2
    have hs : hdSize (ρ 0).int.toNat = 0 := by
      rcases Int.lt_or_le (ρ 0).int 1 with h | h
      · rw [show (ρ 0).int.toNat = 0 from by omega]; rfl
      · obtain ⟨u, hu⟩ : ∃ u, (ρ 0).int.toNat = u + 7 := ⟨(ρ 0).int.toNat - 7, by omega⟩
        rw [hu]; rfl
    exact lf (by rw [hs]; rfl) (by rw [szErr, if_neg (by omega)]; rfl) (by decide)
  rw [lt_f, den_var, den_num] at c1 c2
  have c1 : 1 ≤ (ρ 0).int := c1
  have c2 : (ρ 0).int ≤ 6 := c2
  refine ⟨fun q => ?_, fun m1 => ?_⟩
  · rw [eq_t, den_var] at q
    have hk0 : (ρ 0).int = (1 : Nat) := q
    exact lf (by rw [hk0]; rfl) (by rw [szErr, if_pos (by omega)]; rfl) (by decide)
  refine ⟨fun q => ?_, fun m2 => ?_⟩
  · rw [eq_t, den_var] at q
    have hk0 : (ρ 0).int = (2 : Nat) := q
    exact lf (by rw [hk0]; rfl) (by rw [szErr, if_pos (by omega)]; rfl) (by decide)
  refine ⟨fun q => ?_, fun m3 => ?_⟩
  · rw [eq_t, den_var] at q
    have hk0 : (ρ 0).int = (3 : Nat) := q
    exact lf (by rw [hk0]; rfl) (by rw [szErr, if_pos (by omega)]; rfl) (by decide)
  refine ⟨fun q => ?_, fun m4 => ?_⟩
  · rw [eq_t, den_var] at q
    have hk0 : (ρ 0).int = (4 : Nat) := q
    exact lf (by rw [hk0]; rfl) (by rw [szErr, if_pos (by omega)]; rfl) (by decide)
  refine ⟨fun q => ?_, fun m5 => ?_⟩
  · rw [eq_t, den_var] at q
    have hk0 : (ρ 0).int = (5 : Nat) := q
    exact lf (by rw [hk0]; rfl) (by rw [szErr, if_pos (by omega)]; rfl) (by decide)
  refine ⟨fun q => ?_, fun m6 => ?_⟩
  · rw [eq_t, den_var] at q
    have hk0 : (ρ 0).int = (6 : Nat) := q
    exact lf (by rw [hk0]; rfl) (by rw [szErr, if_pos (by omega)]; rfl) (by decide)
  exfalso
  rw [eq_f, den_var] at m1
  rw [eq_f, den_var] at m2
  rw [eq_f, den_var] at m3
  rw [eq_f, den_var] at m4
  rw [eq_f, den_var] at m5
  rw [eq_f, den_var] at m6
  have h6 : ¬ (ρ 0).int = 1 ∧ ¬ (ρ 0).int = 2 ∧ ¬ (ρ 0).int = 3 ∧ ¬ (ρ 0).int = 4 ∧ ¬ (ρ 0).int = 5 ∧ ¬ (ρ 0).int = 6 := ⟨m1, m2, m3, m4, m5, m6⟩
  omega
theorem wck_ok {Φ : Sig} (hΦ : WrSig Φ) : TmplOk Go.Proofs.Try.prog Φ 27 tCheck := by
  refine tmpl_of noCons treeWcChk_is (fun ρ res hres => ⟨eqJ, ?_⟩)
  obtain ⟨hlo, hhi, hres⟩ := inR_some hres
  obtain ⟨hh, hres⟩ := kinH_some hres
  obtain rfl := ret_some hres
  refine ⟨fun c1 => ?_, fun c1 => ?_⟩
  · rw [lt_t, den_var, den_num] at c1
    have c1 : (ρ 0).int < 1 := c1
    exact leaf_ck hΦ (by rw [ckErr, if_neg (not_head_vars (by omega))]) (by decide)
  refine ⟨fun c2 => ?_, fun c2 => ?_⟩
  · rw [lt_t, den_var, den_num] at c2
    have c2 : 6 < (ρ 0).int := c2
    exact leaf_ck hΦ (by rw [ckErr, if_neg (not_head_vars (by omega))]) (by decide)
  rw [lt_f, den_var, den_num] at c1 c2
  have c1 : 1 ≤ (ρ 0).int := c1
  have c2 : (ρ 0).int ≤ 6 := c2
  refine ⟨fun q => ?_, fun m1 => ?_⟩
  · rw [eq_t, den_var] at q
    have hk0 : (ρ 0).int = (1 : Nat) := q
    exact ck_kind (B := fun _ _ => False) hΦ (k := 1) (n2 := 1) (by decide) hk0 (by decide)
  refine ⟨fun q => ?_, fun m2 => ?_⟩
  · rw [eq_t, den_var] at q
    have hk0 : (ρ 0).int = (2 : Nat) := q
    exact ck_kind (B := fun _ _ => False) hΦ (k := 2) (by decide) hk0 (by decide)
  refine ⟨fun q => ?_, fun m3 => ?_⟩
  · rw [eq_t, den_var] at q
    have hk0 : (ρ 0).int = (3 : Nat) := q
    exact ck_kind (B := fun _ _ => False) hΦ (k := 3) (n2 := 1) (by decide) hk0 (by decide)
  refine ⟨fun q => ?_, fun m4 => ?_⟩
  · rw [eq_t, den_var] at q
    have hk0 : (ρ 0).int = (4 : Nat) := q
    exact ck_kind (B := fun _ _ => False) hΦ (k := 4) (by decide) hk0 (by decide)
  refine ⟨fun q => ?_, fun m5 => ?_⟩
  · rw [eq_t, den_var] at q
    have hk0 : (ρ 0).int = (5 : Nat) := q
    exact ck_kind (B := fun _ _ => False) hΦ (k := 5) (by decide) hk0 (by decide)
  refine ⟨fun q => ?_, fun m6 => ?_⟩
  · rw [eq_t, den_var] at q
    have hk0 : (ρ 0).int = (6 : Nat) := q
    exact ck_kind (B := fun _ _ => False) hΦ (k := 6) (n2 := 1) (by decide) hk0 (by decide)
  exfalso
  rw [eq_f, den_var] at m1
  rw [eq_f, den_var] at m2
  rw [eq_f, den_var] at m3
  rw [eq_f, den_var] at m4
  rw [eq_f, den_var] at m5
  rw [eq_f, den_var] at m6
  have h6 : ¬ (ρ 0).int = 1 ∧ ¬ (ρ 0).int = 2 ∧ ¬ (ρ 0).int = 3 ∧ ¬ (ρ 0).int = 4 ∧ ¬ (ρ 0).int = 5 ∧ ¬ (ρ 0).int = 6 := ⟨m1, m2, m3, m4, m5, m6⟩
  omega
theorem wpu_ok {Φ : Sig} (hΦ : WrSig Φ) : TmplOk Go.Proofs.Try.prog Φ 24 (tPush 74) := by
  refine tmpl_of (consW1_ok hΦ.toHdSig) treeWuPush_is (fun ρ res hres => ⟨eqJ, ?_⟩)
  obtain ⟨hlo, hhi, hres⟩ := inR_some hres
  obtain ⟨h0, hres⟩ := short_some hres
  obtain ⟨hb, hres⟩ := bytes_some hres
  obtain ⟨hh, hres⟩ := kinH_some hres
  have hr := pu_res hΦ hres
  refine ⟨fun c1 => ?_, fun c1 => ?_⟩
  · rw [lt_t, den_var, den_num] at c1
    have c1 : (ρ 0).int < 1 := c1
    exact leaf_pu_err (e := 120) hr (by rw [pushErr, if_neg (not_head_vars (by omega))]) (by decide) rfl (by decide)
  refine ⟨fun c2 => ?_, fun c2 => ?_⟩
  · rw [lt_t, den_var, den_num] at c2
    have c2 : 6 < (ρ 0).int := c2
    exact leaf_pu_err (e := 120) hr (by rw [pushErr, if_neg (not_head_vars (by omega))]) (by decide) rfl (by decide)
  rw [lt_f, den_var, den_num] at c1 c2
  have c1 : 1 ≤ (ρ 0).int := c1
  have c2 : (ρ 0).int ≤ 6 := c2
  refine ⟨fun q => ?_, fun m1 => ?_⟩
  · rw [eq_t, den_var] at q
    have hk0 : (ρ 0).int = (1 : Nat) := q
    exact pu_kind (B := fun _ _ => False) (j := 74) (j' := 74) (Lf := Leaf Φ ρ ρ res) (F := (varsT 1 13)) hr (k := 1) (n2 := 1) (by decide) hk0 (good_fields (by decide) hh) (fields_vars (k := 1) (by decide)).symm (fun _ _ h => h) (fun h => h) (by decide) (bl := [(1, false), (1, true), (2, false), (2, true), (3, false), (3, true), (4, false), (4, true), (5, false), (5, true), (6, false), (6, true), (7, false), (7, true), (8, false), (8, true), (9, false), (9, true), (10, false), (10, true), (11, false), (11, true), (12, false), (12, true), (13, false), (13, true)]) hh (by decide)
  refine ⟨fun q => ?_, fun m2 => ?_⟩
  · rw [eq_t, den_var] at q
    have hk0 : (ρ 0).int = (2 : Nat) := q
    exact pu_kind (B := fun _ _ => False) (j := 74) (j' := 74) (Lf := Leaf Φ ρ ρ res) (F := (varsT 14 3)) hr (k := 2) (by decide) hk0 (good_fields (by decide) hh) (fields_vars (k := 2) (by decide)).symm (fun _ _ h => h) (fun h => h) (by decide) (bl := [(14, false), (15, false), (16, false), (16, true)]) hh (by decide)
  refine ⟨fun q => ?_, fun m3 => ?_⟩
  · rw [eq_t, den_var] at q
    have hk0 : (ρ 0).int = (3 : Nat) := q
    exact pu_kind (B := fun _ _ => False) (j := 74) (j' := 74) (Lf := Leaf Φ ρ ρ res) (F := (varsT 17 12)) hr (k := 3) (n2 := 1) (by decide) hk0 (good_fields (by decide) hh) (fields_vars (k := 3) (by decide)).symm (fun _ _ h => h) (fun h => h) (by decide) (bl := [(17, false), (17, true), (18, false), (18, true), (19, false), (19, true), (20, false), (20, true), (21, false), (21, true), (22, false), (22, true), (23, false), (23, true), (24, false), (24, true), (25, false), (25, true), (26, false), (26, true), (27, false), (27, true), (28, false), (28, true)]) hh (by decide)
  refine ⟨fun q => ?_, fun m4 => ?_⟩
  · rw [eq_t, den_var] at q
    have hk0 : (ρ 0).int = (4 : Nat) := q
    exact pu_kind (B := fun _ _ => False) (j := 74) (j' := 74) (Lf := Leaf Φ ρ ρ res) (F := (varsT 29 36)) hr (k := 4) (by decide) hk0 (good_fields (by decide) hh) (fields_vars (k := 4) (by decide)).symm (fun _ _ h => h) (fun h => h) (by decide) (bl := [(29, false), (29, true), (30, false), (31, false), (31, true), (32, false), (32, true), (33, false), (33, true), (34, false), (34, true), (35, false), (35, true), (36, false), (36, true), (37, false), (37, true), (38, false), (38, true), (39, false), (39, true), (40, false), (40, true), (41, false), (41, true), (42, false), (42, true), (43, false), (43, true), (44, false), (44, true), (45, false), (45, true), (46, false), (46, true), (47, false), (47, true), (48, false), (48, true), (49, false), (49, true), (50, false), (50, true), (51, false), (51, true), (52, false), (52, true), (53, false), (53, true), (54, false), (54, true), (55, false), (55, true), (56, false), (56, true), (57, false), (57, true), (58, false), (58, true), (59, false), (59, true), (60, false), (60, true), (61, false), (61, true), (62, false), (62, true), (63, false), (63, true), (64, false), (64, true)]) hh (by decide)
  refine ⟨fun q => ?_, fun m5 => ?_⟩
  · rw [eq_t, den_var] at q
    have hk0 : (ρ 0).int = (5 : Nat) := q
    exact pu_kind (B := fun _ _ => False) (j := 74) (j' := 74) (Lf := Leaf Φ ρ ρ res) (F := (varsT 65 6)) hr (k := 5) (by decide) hk0 (good_fields (by decide) hh) (fields_vars (k := 5) (by decide)).symm (fun _ _ h => h) (fun h => h) (by decide) (bl := [(65, false), (65, true), (66, false), (66, true), (67, false), (67, true), (68, false), (68, true), (69, false), (70, false), (70, true)]) hh (by decide)
  refine ⟨fun q => ?_, fun m6 => ?_⟩
  · rw [eq_t, den_var] at q
    have hk0 : (ρ 0).int = (6 : Nat) := q
    exact pu_kind (B := fun _ _ => False) (j := 74) (j' := 74) (Lf := Leaf Φ ρ ρ res) (F := (varsT 71 2)) hr (k := 6) (n2 := 1) (by decide) hk0 (good_fields (by decide) hh) (fields_vars (k := 6) (by decide)).symm (fun _ _ h => h) (fun h => h) (by decide) (bl := [(71, false), (71, true), (72, false), (72, true)]) hh (by decide)
  exfalso
  rw [eq_f, den_var] at m1
  rw [eq_f, den_var] at m2
  rw [eq_f, den_var] at m3
  rw [eq_f, den_var] at m4
  rw [eq_f, den_var] at m5
  rw [eq_f, den_var] at m6
  have h6 : ¬ (ρ 0).int = 1 ∧ ¬ (ρ 0).int = 2 ∧ ¬ (ρ 0).int = 3 ∧ ¬ (ρ 0).int = 4 ∧ ¬ (ρ 0).int = 5 ∧ ¬ (ρ 0).int = 6 := ⟨m1, m2, m3, m4, m5, m6⟩
  omega
theorem wpo_ok {Φ : Sig} (hΦ : WrSig Φ) : TmplOk Go.Proofs.Try.prog Φ 25 (tPop 70) := by
  refine tmpl_of (consW1_ok hΦ.toHdSig) treeWoPop_is (fun ρ res hres => ⟨eqJ, ?_⟩)
  obtain ⟨hlo, hhi, hres⟩ := inR_some hres
  obtain ⟨h0, hres⟩ := short_some hres
  obtain ⟨hb, hres⟩ := bytes_some hres
  have hr := po_res hΦ hres
  refine ⟨fun c1 => ?_, fun c1 => ?_⟩
  · rw [lt_t, den_var, den_num] at c1
    have c1 : (ρ 1).int < 1 := c1
    exact leaf_po_err (e := 120) hr (by rw [popErr, if_neg (by omega)]) (by decide) rfl (by decide)
  refine ⟨fun c2 => ?_, fun c2 => ?_⟩
  · rw [lt_t, den_var, den_num] at c2
    have c2 : 6 < (ρ 1).int := c2
    exact leaf_po_err (e := 120) hr (by rw [popErr, if_neg (by omega)]) (by decide) rfl (by decide)
  rw [lt_f, den_var, den_num] at c1 c2
  have c1 : 1 ≤ (ρ 1).int := c1
  have c2 : (ρ 1).int ≤ 6 := c2
  refine ⟨fun q => ?_, fun m1 => ?_⟩
  · rw [eq_t, den_var] at q
    have hk0 : (ρ 1).int = (1 : Nat) := q
    have hE : (T.den Φ ρ (.fn 21 (.var 0) .nil .nil)).int = rdErr 1 (ρ 0).list := by rw [den_fn, hΦ.rdErr 1 _ _ _ (by decide) (by decide)]; rfl
    have hP : popErr (ρ 0).list (ρ 1).int = rdErr 1 (ρ 0).list := by rw [popErr, hk0, if_pos (by decide)]; rfl
    refine ⟨fun er => ?_, fun er => ?_⟩
    · rw [not_t, eq_f, hE] at er
      exact leaf_po_err hr hP er hE (by decide)
    · rw [not_f, eq_t, hE] at er
      have hsz : 14 ≤ (ρ 0).list.length := rd_size (k := 1) er
      refine ⟨by rw [le_t, int_len, den_num, den_var]; show (14 : Int) ≤ _; omega, leaf_po_ok (x := .var 1) hr (k := 1) (by decide) hk0 hk0 er ?_ ?_ (by decide)⟩
      · show (T.den Φ ρ (.c2 .sub (.c1 .len (.var 0)) (.num 14))).int = _
        rw [int_sub, int_len, den_var, den_num, List.length_drop]; show _ - (14 : Int) = _; show _ - (14 : Int) = (((ρ 0).list.length - 14 : Nat) : Int); omega
      · rfl
  refine ⟨fun q => ?_, fun m2 => ?_⟩
  · rw [eq_t, den_var] at q
    have hk0 : (ρ 1).int = (2 : Nat) := q
    have hE : (T.den Φ ρ (.fn 22 (.var 0) .nil .nil)).int = rdErr 2 (ρ 0).list := by rw [den_fn, hΦ.rdErr 2 _ _ _ (by decide) (by decide)]; rfl
    have hP : popErr (ρ 0).list (ρ 1).int = rdErr 2 (ρ 0).list := by rw [popErr, hk0, if_pos (by decide)]; rfl
    refine ⟨fun er => ?_, fun er => ?_⟩
    · rw [not_t, eq_f, hE] at er
      exact leaf_po_err hr hP er hE (by decide)
    · rw [not_f, eq_t, hE] at er
      have hsz : 4 ≤ (ρ 0).list.length := rd_size (k := 2) er
      refine ⟨by rw [le_t, int_len, den_num, den_var]; show (4 : Int) ≤ _; omega, leaf_po_ok (x := .var 1) hr (k := 2) (by decide) hk0 hk0 er ?_ ?_ (by decide)⟩
      · show (T.den Φ ρ (.c2 .sub (.c1 .len (.var 0)) (.num 4))).int = _
        rw [int_sub, int_len, den_var, den_num, List.length_drop]; show _ - (4 : Int) = _; show _ - (4 : Int) = (((ρ 0).list.length - 4 : Nat) : Int); omega
      · rfl
  refine ⟨fun q => ?_, fun m3 => ?_⟩
  · rw [eq_t, den_var] at q
    have hk0 : (ρ 1).int = (3 : Nat) := q
    have hE : (T.den Φ ρ (.fn 23 (.var 0) .nil .nil)).int = rdErr 3 (ρ 0).list := by rw [den_fn, hΦ.rdErr 3 _ _ _ (by decide) (by decide)]; rfl
    have hP : popErr (ρ 0).list (ρ 1).int = rdErr 3 (ρ 0).list := by rw [popErr, hk0, if_pos (by decide)]; rfl
    refine ⟨fun er => ?_, fun er => ?_⟩
    · rw [not_t, eq_f, hE] at er
      exact leaf_po_err hr hP er hE (by decide)
    · rw [not_f, eq_t, hE] at er
      have hsz : 20 ≤ (ρ 0).list.length := rd_size (k := 3) er
      refine ⟨by rw [le_t, int_len, den_num, den_var]; show (20 : Int) ≤ _; omega, leaf_po_ok (x := .var 1) hr (k := 3) (by decide) hk0 hk0 er ?_ ?_ (by decide)⟩
      · show (T.den Φ ρ (.c2 .sub (.c1 .len (.var 0)) (.num 20))).int = _
        rw [int_sub, int_len, den_var, den_num, List.length_drop]; show _ - (20 : Int) = _; show _ - (20 : Int) = (((ρ 0).list.length - 20 : Nat) : Int); omega
      · rfl
  refine ⟨fun q => ?_, fun m4 => ?_⟩
  · rw [eq_t, den_var] at q
    have hk0 : (ρ 1).int = (4 : Nat) := q
    have hE : (T.den Φ ρ (.fn 24 (.var 0) .nil .nil)).int = rdErr 4 (ρ 0).list := by rw [den_fn, hΦ.rdErr 4 _ _ _ (by decide) (by decide)]; rfl
    have hP : popErr (ρ 0).list (ρ 1).int = rdErr 4 (ρ 0).list := by rw [popErr, hk0, if_pos (by decide)]; rfl
    refine ⟨fun er => ?_, fun er => ?_⟩
    · rw [not_t, eq_f, hE] at er
      exact leaf_po_err hr hP er hE (by decide)
    · rw [not_f, eq_t, hE] at er
      have hsz : 40 ≤ (ρ 0).list.length := rd_size (k := 4) er
      refine ⟨by rw [le_t, int_len, den_num, den_var]; show (40 : Int) ≤ _; omega, leaf_po_ok (x := .var 1) hr (k := 4) (by decide) hk0 hk0 er ?_ ?_ (by decide)⟩
      · show (T.den Φ ρ (.c2 .sub (.c1 .len (.var 0)) (.num 40))).int = _
        rw [int_sub, int_len, den_var, den_num, List.length_drop]; show _ - (40 : Int) = _; show _ - (40 : Int) = (((ρ 0).list.length - 40 : Nat) : Int); omega
      · rfl
  refine ⟨fun q => ?_, fun m5 => ?_⟩
  · rw [eq_t, den_var] at q
    have hk0 : (ρ 1).int = (5 : Nat) := q
    have hE : (T.den Φ ρ (.fn 25 (.var 0) .nil .nil)).int = rdErr 5 (ρ 0).list := by rw [den_fn, hΦ.rdErr 5 _ _ _ (by decide) (by decide)]; rfl
    have hP : popErr (ρ 0).list (ρ 1).int = rdErr 5 (ρ 0).list := by rw [popErr, hk0, if_pos (by decide)]; rfl
    refine ⟨fun er => ?_, fun er => ?_⟩
    · rw [not_t, eq_f, hE] at er
      exact leaf_po_err hr hP er hE (by decide)
    · rw [not_f, eq_t, hE] at er
      have hsz : 20 ≤ (ρ 0).list.length := rd_size (k := 5) er
      refine ⟨by rw [le_t, int_len, den_num, den_var]; show (20 : Int) ≤ _; omega, leaf_po_ok (x := .var 1) hr (k := 5) (by decide) hk0 hk0 er ?_ ?_ (by decide)⟩
      · show (T.den Φ ρ (.c2 .sub (.c1 .len (.var 0)) (.num 20))).int = _
        rw [int_sub, int_len, den_var, den_num, List.length_drop]; show _ - (20 : Int) = _; show _ - (20 : Int) = (((ρ 0).list.length - 20 : Nat) : Int); omega
      · rfl
  refine ⟨fun q => ?_, fun m6 => ?_⟩
  · rw [eq_t, den_var] at q
    have hk0 : (ρ 1).int = (6 : Nat) := q
    have hE : (T.den Φ ρ (.fn 26 (.var 0) .nil .nil)).int = rdErr 6 (ρ 0).list := by rw [den_fn, hΦ.rdErr 6 _ _ _ (by decide) (by decide)]; rfl
    have hP : popErr (ρ 0).list (ρ 1).int = rdErr 6 (ρ 0).list := by rw [popErr, hk0, if_pos (by decide)]; rfl
    refine ⟨fun er => ?_, fun er => ?_⟩
    · rw [not_t, eq_f, hE] at er
      exact leaf_po_err hr hP er hE (by decide)
    · rw [not_f, eq_t, hE] at er
      have hsz : 8 ≤ (ρ 0).list.length := rd_size (k := 6) er
      refine ⟨by rw [le_t, int_len, den_num, den_var]; show (8 : Int) ≤ _; omega, leaf_po_ok (x := .var 1) hr (k := 6) (by decide) hk0 hk0 er ?_ ?_ (by decide)⟩
      · show (T.den Φ ρ (.c2 .sub (.c1 .len (.var 0)) (.num 8))).int = _
        rw [int_sub, int_len, den_var, den_num, List.length_drop]; show _ - (8 : Int) = _; show _ - (8 : Int) = (((ρ 0).list.length - 8 : Nat) : Int); omega
      · rfl
  exfalso
  rw [eq_f, den_var] at m1
  rw [eq_f, den_var] at m2
  rw [eq_f, den_var] at m3
  rw [eq_f, den_var] at m4
  rw [eq_f, den_var] at m5
  rw [eq_f, den_var] at m6
  have h6 : ¬ (ρ 1).int = 1 ∧ ¬ (ρ 1).int = 2 ∧ ¬ (ρ 1).int = 3 ∧ ¬ (ρ 1).int = 4 ∧ ¬ (ρ 1).int = 5 ∧ ¬ (ρ 1).int = 6 := ⟨m1, m2, m3, m4, m5, m6⟩
  omega
end Go.Proofs.Ytbiodlomlendkaa.Sx
/- Sx: what Go function 14 does, as a tree of conditions (printed by a tool of this claim, proved by the kernel). Conditions: none. -/
set_option maxRecDepth 100000
namespace Go.Proofs.Ytbiodlomlendkaa.Sx
open Go
def treeWlEq : M (V × St) :=
(.split (.c1 .not (.c2 .eq (.c1 .len (.var 0)) (.c1 .len (.var 1))))
 (.ret (.w (.c (.b (.bol false))), ⟨[], [], 2, 2, []⟩))
 (.loop 0 2 1 [(.num 0)] [((.c2 .le (.num 0) (.var 2)), true)]
  (.split (.c2 .lt (.var 2) (.c1 .len (.var 0)))
   (.chk (.c2 .lt (.var 2) (.c1 .len (.var 1)))
   (.split (.c1 .not (.c2 .eq (.c2 .rd (.var 0) (.var 2)) (.c2 .rd (.var 1) (.var 2))))
    (.ret (.w (.c (.b (.bol false))), ⟨[], [], 2, 3, []⟩))
    (.back 0 2 [(.wr .i64 (.c2 .add (.var 2) (.num 1)))])))
   (.ret (.w (.c (.b (.bol true))), ⟨[], [], 2, 3, []⟩)))))
theorem treeWlEq_is : funTree (ctxN Go.Proofs.Try.prog annsEq [] 8) annsEq 14 tEq.vs tEq.bs tEq.n (preF tEq.res) = treeWlEq := by kernel_rfl
end Go.Proofs.Ytbiodlomlendkaa.Sx
/- Sx: what Go function 23 does, as a tree of conditions (printed by a tool of this claim, proved by the kernel). Conditions: none. -/
set_option maxRecDepth 100000
namespace Go.Proofs.Ytbiodlomlendkaa.Sx
open Go
def treeWlAwake : M (V × St) :=
(.split (.c2 .leq (.c2 .take (.num 6) (.c2 .drop (.num 64) (.spl (.spl (.c2 .rep (.num 134) (.cons (.num 0) .nil)) (.num 68) (.cons (.num 1) (.cons (.num 2) .nil))) (.num 64) (.cons (.num 161) (.cons (.num 35) (.cons (.num 134) (.cons (.num 221) .nil))))))) (.cons (.num 161) (.cons (.num 35) (.cons (.num 134) (.cons (.num 221) (.cons (.num 1) (.cons (.num 2) .nil)))))))
 (.ret (.w (.c (.b (.bol true))), ⟨[], [], 69, 0, []⟩))
 (.ret (.w (.c (.b (.bol false))), ⟨[], [], 63, 0, []⟩)))
theorem treeWlAwake_is : funTree (ctxN Go.Proofs.Try.prog annsAw consAw 8) annsAw 23 tTrue.vs tTrue.bs tTrue.n (preF tTrue.res) = treeWlAwake := by kernel_rfl
end Go.Proofs.Ytbiodlomlendkaa.Sx
/- Sx laws of wrapping: the contracts that the statements lean on. Conditions: none. -/
set_option linter.unusedVariables false
set_option linter.unusedSimpArgs false
namespace Go.Proofs.Ytbiodlomlendkaa.Sx
open Go
theorem wlEq_ok : TmplOk Go.Proofs.Try.prog ΦW 14 tEq := eq_ok treeWlEq_is
set_option maxRecDepth 100000 in
theorem wlAwake_ok : TmplOk Go.Proofs.Try.prog ΦW 23 tTrue := by
  refine tmpl_of (moreCons (con_ok wlEq_ok) (moreCons (con_ok clone_ok) noCons)) treeWlAwake_is (fun ρ res hres => ⟨eqJ, ?_⟩)
  obtain rfl := ret_some hres
  refine ⟨fun c => leaf_true rfl (by decide), fun c => ?_⟩
  exfalso
  rw [leq_f] at c
  apply c
  rfl
theorem consWl0_ok : ConsOk Go.Proofs.Try.prog ΦW consWl0 := moreCons (con_ok wlEq_ok) (moreCons (con_ok (wpu_ok sigW)) (moreCons (con_ok (wpo_ok sigW)) (moreCons (con_ok (wsz_ok sigW)) (moreCons (con_ok (wck_ok sigW)) (noCons)))))
theorem consWl_ok : ConsOk Go.Proofs.Try.prog ΦW consWl := moreCons (con_ok wlAwake_ok) consWl0_ok
end Go.Proofs.Ytbiodlomlendkaa.Sx
/- Sx: what Go function 8 does, as a tree of conditions (printed by a tool of this claim, proved by the kernel). Conditions: none. -/
set_option maxRecDepth 100000
namespace Go.Proofs.Ytbiodlomlendkaa.Sx
open Go
def xWlBack0 : T := (.cons (.var 1) (.cons (.var 2) (.cons (.var 3) (.cons (.var 4) (.cons (.var 5) (.cons (.var 6) (.cons (.var 7) (.cons (.var 8) (.cons (.var 9) (.cons (.var 10) (.cons (.var 11) (.cons (.var 12) (.cons (.var 13) (.cons (.var 14) (.cons (.var 15) (.cons (.var 16) (.cons (.var 17) (.cons (.var 18) (.cons (.var 19) (.cons (.var 20) (.cons (.var 21) (.cons (.var 22) (.cons (.var 23) (.cons (.var 24) (.cons (.var 25) (.cons (.var 26) (.cons (.var 27) (.cons (.var 28) (.cons (.var 29) (.cons (.var 30) (.cons (.var 31) (.cons (.var 32) (.cons (.var 33) (.cons (.var 34) (.cons (.var 35) (.cons (.var 36) (.cons (.var 37) (.cons (.var 38) (.cons (.var 39) (.cons (.var 40) (.cons (.var 41) (.cons (.var 42) (.cons (.var 43) (.cons (.var 44) (.cons (.var 45) (.cons (.var 46) (.cons (.var 47) (.cons (.var 48) (.cons (.var 49) (.cons (.var 50) (.cons (.var 51) (.cons (.var 52) (.cons (.var 53) (.cons (.var 54) (.cons (.var 55) (.cons (.var 56) (.cons (.var 57) (.cons (.var 58) (.cons (.var 59) (.cons (.var 60) (.cons (.var 61) (.cons (.var 62) (.cons (.var 63) (.cons (.var 64) (.cons (.var 65) (.cons (.var 66) (.cons (.var 67) (.cons (.var 68) (.cons (.var 69) (.cons (.var 70) (.cons (.var 71) (.cons (.var 72) (.cons (.var 73) .nil)))))))))))))))))))))))))))))))))))))))))))))))))))))))))))))))))))))))))
def xWlBack1 : T := (.cons (.wr .u8 (.c2 .rd (.fn 76 (.var 0) (.var 74) .nil) (.num 0))) (.cons (.wr .u8 (.c2 .rd (.fn 76 (.var 0) (.var 74) .nil) (.num 1))) (.cons (.wr .u8 (.c2 .rd (.fn 76 (.var 0) (.var 74) .nil) (.num 2))) (.cons (.wr .u8 (.c2 .rd (.fn 76 (.var 0) (.var 74) .nil) (.num 3))) (.cons (.wr .u8 (.c2 .rd (.fn 76 (.var 0) (.var 74) .nil) (.num 4))) (.cons (.wr .u8 (.c2 .rd (.fn 76 (.var 0) (.var 74) .nil) (.num 5))) (.cons (.wr .u8 (.c2 .rd (.fn 76 (.var 0) (.var 74) .nil) (.num 6))) (.cons (.wr .u8 (.c2 .rd (.fn 76 (.var 0) (.var 74) .nil) (.num 7))) (.cons (.wr .u8 (.c2 .rd (.fn 76 (.var 0) (.var 74) .nil) (.num 8))) (.cons (.wr .u8 (.c2 .rd (.fn 76 (.var 0) (.var 74) .nil) (.num 9))) (.cons (.wr .u8 (.c2 .rd (.fn 76 (.var 0) (.var 74) .nil) (.num 10))) (.cons (.wr .u8 (.c2 .rd (.fn 76 (.var 0) (.var 74) .nil) (.num 11))) (.cons (.wr .u8 (.c2 .rd (.fn 76 (.var 0) (.var 74) .nil) (.num 12))) (.cons (.wr .u16 (.c2 .rd (.fn 76 (.var 0) (.var 74) .nil) (.num 13))) (.cons (.wr .u8 (.c2 .rd (.fn 76 (.var 0) (.var 74) .nil) (.num 14))) (.cons (.wr .u16 (.c2 .rd (.fn 76 (.var 0) (.var 74) .nil) (.num 15))) (.cons (.wr .u16 (.c2 .rd (.fn 76 (.var 0) (.var 74) .nil) (.num 16))) (.cons (.wr .u8 (.c2 .rd (.fn 76 (.var 0) (.var 74) .nil) (.num 17))) (.cons (.wr .u8 (.c2 .rd (.fn 76 (.var 0) (.var 74) .nil) (.num 18))) (.cons (.wr .u8 (.c2 .rd (.fn 76 (.var 0) (.var 74) .nil) (.num 19))) (.cons (.wr .u16 (.c2 .rd (.fn 76 (.var 0) (.var 74) .nil) (.num 20))) (.cons (.wr .u8 (.c2 .rd (.fn 76 (.var 0) (.var 74) .nil) (.num 21))) (.cons (.wr .u8 (.c2 .rd (.fn 76 (.var 0) (.var 74) .nil) (.num 22))) (.cons (.wr .u8 (.c2 .rd (.fn 76 (.var 0) (.var 74) .nil) (.num 23))) (.cons (.wr .u8 (.c2 .rd (.fn 76 (.var 0) (.var 74) .nil) (.num 24))) (.cons (.wr .u8 (.c2 .rd (.fn 76 (.var 0) (.var 74) .nil) (.num 25))) (.cons (.wr .u8 (.c2 .rd (.fn 76 (.var 0) (.var 74) .nil) (.num 26))) (.cons (.wr .u8 (.c2 .rd (.fn 76 (.var 0) (.var 74) .nil) (.num 27))) (.cons (.wr .u8 (.c2 .rd (.fn 76 (.var 0) (.var 74) .nil) (.num 28))) (.cons (.wr .u8 (.c2 .rd (.fn 76 (.var 0) (.var 74) .nil) (.num 29))) (.cons (.wr .u32 (.c2 .rd (.fn 76 (.var 0) (.var 74) .nil) (.num 30))) (.cons (.wr .u8 (.c2 .rd (.fn 76 (.var 0) (.var 74) .nil) (.num 31))) (.cons (.wr .u8 (.c2 .rd (.fn 76 (.var 0) (.var 74) .nil) (.num 32))) (.cons (.wr .u8 (.c2 .rd (.fn 76 (.var 0) (.var 74) .nil) (.num 33))) (.cons (.wr .u8 (.c2 .rd (.fn 76 (.var 0) (.var 74) .nil) (.num 34))) (.cons (.wr .u8 (.c2 .rd (.fn 76 (.var 0) (.var 74) .nil) (.num 35))) (.cons (.wr .u8 (.c2 .rd (.fn 76 (.var 0) (.var 74) .nil) (.num 36))) (.cons (.wr .u8 (.c2 .rd (.fn 76 (.var 0) (.var 74) .nil) (.num 37))) (.cons (.wr .u8 (.c2 .rd (.fn 76 (.var 0) (.var 74) .nil) (.num 38))) (.cons (.wr .u8 (.c2 .rd (.fn 76 (.var 0) (.var 74) .nil) (.num 39))) (.cons (.wr .u8 (.c2 .rd (.fn 76 (.var 0) (.var 74) .nil) (.num 40))) (.cons (.wr .u8 (.c2 .rd (.fn 76 (.var 0) (.var 74) .nil) (.num 41))) (.cons (.wr .u8 (.c2 .rd (.fn 76 (.var 0) (.var 74) .nil) (.num 42))) (.cons (.wr .u8 (.c2 .rd (.fn 76 (.var 0) (.var 74) .nil) (.num 43))) (.cons (.wr .u8 (.c2 .rd (.fn 76 (.var 0) (.var 74) .nil) (.num 44))) (.cons (.wr .u8 (.c2 .rd (.fn 76 (.var 0) (.var 74) .nil) (.num 45))) (.cons (.wr .u8 (.c2 .rd (.fn 76 (.var 0) (.var 74) .nil) (.num 46))) (.cons (.wr .u8 (.c2 .rd (.fn 76 (.var 0) (.var 74) .nil) (.num 47))) (.cons (.wr .u8 (.c2 .rd (.fn 76 (.var 0) (.var 74) .nil) (.num 48))) (.cons (.wr .u8 (.c2 .rd (.fn 76 (.var 0) (.var 74) .nil) (.num 49))) (.cons (.wr .u8 (.c2 .rd (.fn 76 (.var 0) (.var 74) .nil) (.num 50))) (.cons (.wr .u8 (.c2 .rd (.fn 76 (.var 0) (.var 74) .nil) (.num 51))) (.cons (.wr .u8 (.c2 .rd (.fn 76 (.var 0) (.var 74) .nil) (.num 52))) (.cons (.wr .u8 (.c2 .rd (.fn 76 (.var 0) (.var 74) .nil) (.num 53))) (.cons (.wr .u8 (.c2 .rd (.fn 76 (.var 0) (.var 74) .nil) (.num 54))) (.cons (.wr .u8 (.c2 .rd (.fn 76 (.var 0) (.var 74) .nil) (.num 55))) (.cons (.wr .u8 (.c2 .rd (.fn 76 (.var 0) (.var 74) .nil) (.num 56))) (.cons (.wr .u8 (.c2 .rd (.fn 76 (.var 0) (.var 74) .nil) (.num 57))) (.cons (.wr .u8 (.c2 .rd (.fn 76 (.var 0) (.var 74) .nil) (.num 58))) (.cons (.wr .u8 (.c2 .rd (.fn 76 (.var 0) (.var 74) .nil) (.num 59))) (.cons (.wr .u8 (.c2 .rd (.fn 76 (.var 0) (.var 74) .nil) (.num 60))) (.cons (.wr .u8 (.c2 .rd (.fn 76 (.var 0) (.var 74) .nil) (.num 61))) (.cons (.wr .u8 (.c2 .rd (.fn 76 (.var 0) (.var 74) .nil) (.num 62))) (.cons (.wr .u8 (.c2 .rd (.fn 76 (.var 0) (.var 74) .nil) (.num 63))) (.cons (.wr .u8 (.c2 .rd (.fn 76 (.var 0) (.var 74) .nil) (.num 64))) (.cons (.wr .u16 (.c2 .rd (.fn 76 (.var 0) (.var 74) .nil) (.num 65))) (.cons (.wr .u16 (.c2 .rd (.fn 76 (.var 0) (.var 74) .nil) (.num 66))) (.cons (.wr .u32 (.c2 .rd (.fn 76 (.var 0) (.var 74) .nil) (.num 67))) (.cons (.wr .u32 (.c2 .rd (.fn 76 (.var 0) (.var 74) .nil) (.num 68))) (.cons (.wr .u8 (.c2 .rd (.fn 76 (.var 0) (.var 74) .nil) (.num 69))) (.cons (.wr .u16 (.c2 .rd (.fn 76 (.var 0) (.var 74) .nil) (.num 70))) (.cons (.wr .u16 (.c2 .rd (.fn 76 (.var 0) (.var 74) .nil) (.num 71))) (.cons (.wr .u16 (.c2 .rd (.fn 76 (.var 0) (.var 74) .nil) (.num 72))) .nil)))))))))))))))))))))))))))))))))))))))))))))))))))))))))))))))))))))))))
def treeWlBack : M (V × St) :=
(.chk (.c2 .le (.num 0) (.var 1))
(.chk (.c2 .le (.var 1) (.num 255))
(.chk (.c1 (.kin [.u8, .u8, .u8, .u8, .u8, .u8, .u8, .u8, .u8, .u8, .u8, .u8, .u8, .u16, .u8, .u16, .u16, .u8, .u8, .u8, .u16, .u8, .u8, .u8, .u8, .u8, .u8, .u8, .u8, .u8, .u32, .u8, .u8, .u8, .u8, .u8, .u8, .u8, .u8, .u8, .u8, .u8, .u8, .u8, .u8, .u8, .u8, .u8, .u8, .u8, .u8, .u8, .u8, .u8, .u8, .u8, .u8, .u8, .u8, .u8, .u8, .u8, .u8, .u8, .u8, .u16, .u16, .u32, .u32, .u8, .u16, .u16, .u16]) xWlBack0)
(.split (.c2 .eq (.fn 70 xWlBack0 (.var 0) .nil) (.num 0))
 (.chk (.c1 (.kin [.u8]) (.fn 71 xWlBack0 (.var 0) .nil))
 (.chk (.c2 .le (.c1 .len (.fn 71 xWlBack0 (.var 0) .nil)) (.num 2048))
 (.split (.c2 .eq (.fn 75 (.fn 71 xWlBack0 (.var 0) .nil) (.var 1) .nil) (.num 0))
  (.chk (.c1 (.kin [.u8]) (.fn 77 (.fn 71 xWlBack0 (.var 0) .nil) (.var 1) .nil))
  (.chk (.c2 .le (.c1 .len (.fn 77 (.fn 71 xWlBack0 (.var 0) .nil) (.var 1) .nil)) (.c1 .len (.fn 71 xWlBack0 (.var 0) .nil)))
  (.split (.c1 .not (.c2 .and (.c2 .eq (.wr .u8 (.c2 .rd (.fn 76 (.fn 71 xWlBack0 (.var 0) .nil) (.var 1) .nil) (.num 0))) (.var 1)) (.c2 .and (.c2 .eq (.wr .u8 (.c2 .rd (.fn 76 (.fn 71 xWlBack0 (.var 0) .nil) (.var 1) .nil) (.num 1))) (.var 2)) (.c2 .and (.c2 .eq (.wr .u8 (.c2 .rd (.fn 76 (.fn 71 xWlBack0 (.var 0) .nil) (.var 1) .nil) (.num 2))) (.var 3)) (.c2 .and (.c2 .eq (.wr .u8 (.c2 .rd (.fn 76 (.fn 71 xWlBack0 (.var 0) .nil) (.var 1) .nil) (.num 3))) (.var 4)) (.c2 .and (.c2 .eq (.wr .u8 (.c2 .rd (.fn 76 (.fn 71 xWlBack0 (.var 0) .nil) (.var 1) .nil) (.num 4))) (.var 5)) (.c2 .and (.c2 .eq (.wr .u8 (.c2 .rd (.fn 76 (.fn 71 xWlBack0 (.var 0) .nil) (.var 1) .nil) (.num 5))) (.var 6)) (.c2 .and (.c2 .eq (.wr .u8 (.c2 .rd (.fn 76 (.fn 71 xWlBack0 (.var 0) .nil) (.var 1) .nil) (.num 6))) (.var 7)) (.c2 .and (.c2 .eq (.wr .u8 (.c2 .rd (.fn 76 (.fn 71 xWlBack0 (.var 0) .nil) (.var 1) .nil) (.num 7))) (.var 8)) (.c2 .and (.c2 .eq (.wr .u8 (.c2 .rd (.fn 76 (.fn 71 xWlBack0 (.var 0) .nil) (.var 1) .nil) (.num 8))) (.var 9)) (.c2 .and (.c2 .eq (.wr .u8 (.c2 .rd (.fn 76 (.fn 71 xWlBack0 (.var 0) .nil) (.var 1) .nil) (.num 9))) (.var 10)) (.c2 .and (.c2 .eq (.wr .u8 (.c2 .rd (.fn 76 (.fn 71 xWlBack0 (.var 0) .nil) (.var 1) .nil) (.num 10))) (.var 11)) (.c2 .and (.c2 .eq (.wr .u8 (.c2 .rd (.fn 76 (.fn 71 xWlBack0 (.var 0) .nil) (.var 1) .nil) (.num 11))) (.var 12)) (.c2 .and (.c2 .eq (.wr .u8 (.c2 .rd (.fn 76 (.fn 71 xWlBack0 (.var 0) .nil) (.var 1) .nil) (.num 12))) (.var 13)) (.c2 .and (.c2 .eq (.wr .u16 (.c2 .rd (.fn 76 (.fn 71 xWlBack0 (.var 0) .nil) (.var 1) .nil) (.num 13))) (.var 14)) (.c2 .and (.c2 .eq (.wr .u8 (.c2 .rd (.fn 76 (.fn 71 xWlBack0 (.var 0) .nil) (.var 1) .nil) (.num 14))) (.var 15)) (.c2 .and (.c2 .eq (.wr .u16 (.c2 .rd (.fn 76 (.fn 71 xWlBack0 (.var 0) .nil) (.var 1) .nil) (.num 15))) (.var 16)) (.c2 .and (.c2 .eq (.wr .u16 (.c2 .rd (.fn 76 (.fn 71 xWlBack0 (.var 0) .nil) (.var 1) .nil) (.num 16))) (.var 17)) (.c2 .and (.c2 .eq (.wr .u8 (.c2 .rd (.fn 76 (.fn 71 xWlBack0 (.var 0) .nil) (.var 1) .nil) (.num 17))) (.var 18)) (.c2 .and (.c2 .eq (.wr .u8 (.c2 .rd (.fn 76 (.fn 71 xWlBack0 (.var 0) .nil) (.var 1) .nil) (.num 18))) (.var 19)) (.c2 .and (.c2 .eq (.wr .u8 (.c2 .rd (.fn 76 (.fn 71 xWlBack0 (.var 0) .nil) (.var 1) .nil) (.num 19))) (.var 20)) (.c2 .and (.c2 .eq (.wr .u16 (.c2 .rd (.fn 76 (.fn 71 xWlBack0 (.var 0) .nil) (.var 1) .nil) (.num 20))) (.var 21)) (.c2 .and (.c2 .eq (.wr .u8 (.c2 .rd (.fn 76 (.fn 71 xWlBack0 (.var 0) .nil) (.var 1) .nil) (.num 21))) (.var 22)) (.c2 .and (.c2 .eq (.wr .u8 (.c2 .rd (.fn 76 (.fn 71 xWlBack0 (.var 0) .nil) (.var 1) .nil) (.num 22))) (.var 23)) (.c2 .and (.c2 .eq (.wr .u8 (.c2 .rd (.fn 76 (.fn 71 xWlBack0 (.var 0) .nil) (.var 1) .nil) (.num 23))) (.var 24)) (.c2 .and (.c2 .eq (.wr .u8 (.c2 .rd (.fn 76 (.fn 71 xWlBack0 (.var 0) .nil) (.var 1) .nil) (.num 24))) (.var 25)) (.c2 .and (.c2 .eq (.wr .u8 (.c2 .rd (.fn 76 (.fn 71 xWlBack0 (.var 0) .nil) (.var 1) .nil) (.num 25))) (.var 26)) (.c2 .and (.c2 .eq (.wr .u8 (.c2 .rd (.fn 76 (.fn 71 xWlBack0 (.var 0) .nil) (.var 1) .nil) (.num 26))) (.var 27)) (.c2 .and (.c2 .eq (.wr .u8 (.c2 .rd (.fn 76 (.fn 71 xWlBack0 (.var 0) .nil) (.var 1) .nil) (.num 27))) (.var 28)) (.c2 .and (.c2 .eq (.wr .u8 (.c2 .rd (.fn 76 (.fn 71 xWlBack0 (.var 0) .nil) (.var 1) .nil) (.num 28))) (.var 29)) (.c2 .and (.c2 .eq (.wr .u8 (.c2 .rd (.fn 76 (.fn 71 xWlBack0 (.var 0) .nil) (.var 1) .nil) (.num 29))) (.var 30)) (.c2 .and (.c2 .eq (.wr .u32 (.c2 .rd (.fn 76 (.fn 71 xWlBack0 (.var 0) .nil) (.var 1) .nil) (.num 30))) (.var 31)) (.c2 .and (.c2 .eq (.wr .u8 (.c2 .rd (.fn 76 (.fn 71 xWlBack0 (.var 0) .nil) (.var 1) .nil) (.num 31))) (.var 32)) (.c2 .and (.c2 .eq (.wr .u8 (.c2 .rd (.fn 76 (.fn 71 xWlBack0 (.var 0) .nil) (.var 1) .nil) (.num 32))) (.var 33)) (.c2 .and (.c2 .eq (.wr .u8 (.c2 .rd (.fn 76 (.fn 71 xWlBack0 (.var 0) .nil) (.var 1) .nil) (.num 33))) (.var 34)) (.c2 .and (.c2 .eq (.wr .u8 (.c2 .rd (.fn 76 (.fn 71 xWlBack0 (.var 0) .nil) (.var 1) .nil) (.num 34))) (.var 35)) (.c2 .and (.c2 .eq (.wr .u8 (.c2 .rd (.fn 76 (.fn 71 xWlBack0 (.var 0) .nil) (.var 1) .nil) (.num 35))) (.var 36)) (.c2 .and (.c2 .eq (.wr .u8 (.c2 .rd (.fn 76 (.fn 71 xWlBack0 (.var 0) .nil) (.var 1) .nil) (.num 36))) (.var 37)) (.c2 .and (.c2 .eq (.wr .u8 (.c2 .rd (.fn 76 (.fn 71 xWlBack0 (.var 0) .nil) (.var 1) .nil) (.num 37))) (.var 38)) (.c2 .and (.c2 .eq (.wr .u8 (.c2 .rd (.fn 76 (.fn 71 xWlBack0 (.var 0) .nil) (.var 1) .nil) (.num 38))) (.var 39)) (.c2 .and (.c2 .eq (.wr .u8 (.c2 .rd (.fn 76 (.fn 71 xWlBack0 (.var 0) .nil) (.var 1) .nil) (.num 39))) (.var 40)) (.c2 .and (.c2 .eq (.wr .u8 (.c2 .rd (.fn 76 (.fn 71 xWlBack0 (.var 0) .nil) (.var 1) .nil) (.num 40))) (.var 41)) (.c2 .and (.c2 .eq (.wr .u8 (.c2 .rd (.fn 76 (.fn 71 xWlBack0 (.var 0) .nil) (.var 1) .nil) (.num 41))) (.var 42)) (.c2 .and (.c2 .eq (.wr .u8 (.c2 .rd (.fn 76 (.fn 71 xWlBack0 (.var 0) .nil) (.var 1) .nil) (.num 42))) (.var 43)) (.c2 .and (.c2 .eq (.wr .u8 (.c2 .rd (.fn 76 (.fn 71 xWlBack0 (.var 0) .nil) (.var 1) .nil) (.num 43))) (.var 44)) (.c2 .and (.c2 .eq (.wr .u8 (.c2 .rd (.fn 76 (.fn 71 xWlBack0 (.var 0) .nil) (.var 1) .nil) (.num 44))) (.var 45)) (.c2 .and (.c2 .eq (.wr .u8 (.c2 .rd (.fn 76 (.fn 71 xWlBack0 (.var 0) .nil) (.var 1) .nil) (.num 45))) (.var 46)) (.c2 .and (.c2 .eq (.wr .u8 (.c2 .rd (.fn 76 (.fn 71 xWlBack0 (.var 0) .nil) (.var 1) .nil) (.num 46))) (.var 47)) (.c2 .and (.c2 .eq (.wr .u8 (.c2 .rd (.fn 76 (.fn 71 xWlBack0 (.var 0) .nil) (.var 1) .nil) (.num 47))) (.var 48)) (.c2 .and (.c2 .eq (.wr .u8 (.c2 .rd (.fn 76 (.fn 71 xWlBack0 (.var 0) .nil) (.var 1) .nil) (.num 48))) (.var 49)) (.c2 .and (.c2 .eq (.wr .u8 (.c2 .rd (.fn 76 (.fn 71 xWlBack0 (.var 0) .nil) (.var 1) .nil) (.num 49))) (.var 50)) (.c2 .and (.c2 .eq (.wr .u8 (.c2 .rd (.fn 76 (.fn 71 xWlBack0 (.var 0) .nil) (.var 1) .nil) (.num 50))) (.var 51)) (.c2 .and (.c2 .eq (.wr .u8 (.c2 .rd (.fn 76 (.fn 71 xWlBack0 (.var 0) .nil) (.var 1) .nil) (.num 51))) (.var 52)) (.c2 .and (.c2 .eq (.wr .u8 (.c2 .rd (.fn 76 (.fn 71 xWlBack0 (.var 0) .nil) (.var 1) .nil) (.num 52))) (.var 53)) (.c2 .and (.c2 .eq (.wr .u8 (.c2 .rd (.fn 76 (.fn 71 xWlBack0 (.var 0) .nil) (.var 1) .nil) (.num 53))) (.var 54)) (.c2 .and (.c2 .eq (.wr .u8 (.c2 .rd (.fn 76 (.fn 71 xWlBack0 (.var 0) .nil) (.var 1) .nil) (.num 54))) (.var 55)) (.c2 .and (.c2 .eq (.wr .u8 (.c2 .rd (.fn 76 (.fn 71 xWlBack0 (.var 0) .nil) (.var 1) .nil) (.num 55))) (.var 56)) (.c2 .and (.c2 .eq (.wr .u8 (.c2 .rd (.fn 76 (.fn 71 xWlBack0 (.var 0) .nil) (.var 1) .nil) (.num 56))) (.var 57)) (.c2 .and (.c2 .eq (.wr .u8 (.c2 .rd (.fn 76 (.fn 71 xWlBack0 (.var 0) .nil) (.var 1) .nil) (.num 57))) (.var 58)) (.c2 .and (.c2 .eq (.wr .u8 (.c2 .rd (.fn 76 (.fn 71 xWlBack0 (.var 0) .nil) (.var 1) .nil) (.num 58))) (.var 59)) (.c2 .and (.c2 .eq (.wr .u8 (.c2 .rd (.fn 76 (.fn 71 xWlBack0 (.var 0) .nil) (.var 1) .nil) (.num 59))) (.var 60)) (.c2 .and (.c2 .eq (.wr .u8 (.c2 .rd (.fn 76 (.fn 71 xWlBack0 (.var 0) .nil) (.var 1) .nil) (.num 60))) (.var 61)) (.c2 .and (.c2 .eq (.wr .u8 (.c2 .rd (.fn 76 (.fn 71 xWlBack0 (.var 0) .nil) (.var 1) .nil) (.num 61))) (.var 62)) (.c2 .and (.c2 .eq (.wr .u8 (.c2 .rd (.fn 76 (.fn 71 xWlBack0 (.var 0) .nil) (.var 1) .nil) (.num 62))) (.var 63)) (.c2 .and (.c2 .eq (.wr .u8 (.c2 .rd (.fn 76 (.fn 71 xWlBack0 (.var 0) .nil) (.var 1) .nil) (.num 63))) (.var 64)) (.c2 .and (.c2 .eq (.wr .u8 (.c2 .rd (.fn 76 (.fn 71 xWlBack0 (.var 0) .nil) (.var 1) .nil) (.num 64))) (.var 65)) (.c2 .and (.c2 .eq (.wr .u16 (.c2 .rd (.fn 76 (.fn 71 xWlBack0 (.var 0) .nil) (.var 1) .nil) (.num 65))) (.var 66)) (.c2 .and (.c2 .eq (.wr .u16 (.c2 .rd (.fn 76 (.fn 71 xWlBack0 (.var 0) .nil) (.var 1) .nil) (.num 66))) (.var 67)) (.c2 .and (.c2 .eq (.wr .u32 (.c2 .rd (.fn 76 (.fn 71 xWlBack0 (.var 0) .nil) (.var 1) .nil) (.num 67))) (.var 68)) (.c2 .and (.c2 .eq (.wr .u32 (.c2 .rd (.fn 76 (.fn 71 xWlBack0 (.var 0) .nil) (.var 1) .nil) (.num 68))) (.var 69)) (.c2 .and (.c2 .eq (.wr .u8 (.c2 .rd (.fn 76 (.fn 71 xWlBack0 (.var 0) .nil) (.var 1) .nil) (.num 69))) (.var 70)) (.c2 .and (.c2 .eq (.wr .u16 (.c2 .rd (.fn 76 (.fn 71 xWlBack0 (.var 0) .nil) (.var 1) .nil) (.num 70))) (.var 71)) (.c2 .and (.c2 .eq (.wr .u16 (.c2 .rd (.fn 76 (.fn 71 xWlBack0 (.var 0) .nil) (.var 1) .nil) (.num 71))) (.var 72)) (.c2 .eq (.wr .u16 (.c2 .rd (.fn 76 (.fn 71 xWlBack0 (.var 0) .nil) (.var 1) .nil) (.num 72))) (.var 73)))))))))))))))))))))))))))))))))))))))))))))))))))))))))))))))))))))))))))
   (.ret (.w (.c (.b (.bol false))), ⟨[], [], 5703, 75, []⟩))
   (.split (.c1 .not (.c2 .leq (.fn 77 (.fn 71 xWlBack0 (.var 0) .nil) (.var 1) .nil) (.var 0)))
    (.ret (.w (.c (.b (.bol false))), ⟨[], [], 5705, 75, []⟩))
    (.split (.c1 .not (.c2 .eq (.fn 74 (.var 1) .nil .nil) (.num 0)))
     (.ret (.w (.c (.b (.bol false))), ⟨[], [], 5705, 75, []⟩))
     (.split (.c1 .not (.c2 .eq (.c1 .len (.fn 71 xWlBack0 (.var 0) .nil)) (.wr .i64 (.c2 .add (.fn 73 (.var 1) .nil .nil) (.c1 .len (.var 0))))))
      (.ret (.w (.c (.b (.bol false))), ⟨[], [], 5705, 75, []⟩))
      (.chk (.c2 .le (.num 0) (.var 74))
      (.chk (.c2 .le (.var 74) (.num 255))
      (.split (.c2 .eq (.fn 75 (.var 0) (.var 74) .nil) (.num 0))
       (.chk (.c1 (.kin [.u8]) (.fn 77 (.var 0) (.var 74) .nil))
       (.chk (.c2 .le (.c1 .len (.fn 77 (.var 0) (.var 74) .nil)) (.c1 .len (.var 0)))
       (.split (.c2 .lt (.num 2048) (.c1 .len (.var 0)))
        (.ret (.w (.c (.b (.bol true))), ⟨[], [], 6006, 75, []⟩))
        (.split (.c2 .eq (.fn 70 xWlBack1 (.fn 77 (.var 0) (.var 74) .nil) .nil) (.num 0))
         (.chk (.c1 (.kin [.u8]) (.fn 71 xWlBack1 (.fn 77 (.var 0) (.var 74) .nil) .nil))
         (.chk (.c2 .le (.c1 .len (.fn 71 xWlBack1 (.fn 77 (.var 0) (.var 74) .nil) .nil)) (.num 2048))
         (.split (.c2 .leq (.fn 71 xWlBack1 (.fn 77 (.var 0) (.var 74) .nil) .nil) (.var 0))
          (.split (.c2 .eq (.wr .u8 (.c2 .rd (.fn 76 (.var 0) (.var 74) .nil) (.num 0))) (.var 74))
           (.ret (.w (.c (.b (.c2 .eq (.fn 72 xWlBack1 .nil .nil) (.num 0)))), ⟨[], [], 6508, 75, []⟩))
           (.ret (.w (.c (.b (.bol false))), ⟨[], [], 6308, 75, []⟩)))
          (.ret (.w (.c (.b (.bol false))), ⟨[], [], 6308, 75, []⟩)))))
         (.ret (.w (.c (.b (.bol false))), ⟨[], [], 6306, 75, []⟩))))))
       (.ret (.w (.c (.b (.bol true))), ⟨[], [], 6006, 75, []⟩)))))))))))
  (.ret (.w (.c (.b (.bol false))), ⟨[], [], 5703, 75, []⟩)))))
 (.chk (.c2 .le (.num 0) (.var 74))
 (.chk (.c2 .le (.var 74) (.num 255))
 (.split (.c2 .eq (.fn 75 (.var 0) (.var 74) .nil) (.num 0))
  (.chk (.c1 (.kin [.u8]) (.fn 77 (.var 0) (.var 74) .nil))
  (.chk (.c2 .le (.c1 .len (.fn 77 (.var 0) (.var 74) .nil)) (.c1 .len (.var 0)))
  (.split (.c2 .lt (.num 2048) (.c1 .len (.var 0)))
   (.ret (.w (.c (.b (.bol true))), ⟨[], [], 5603, 75, []⟩))
   (.split (.c2 .eq (.fn 70 xWlBack1 (.fn 77 (.var 0) (.var 74) .nil) .nil) (.num 0))
    (.chk (.c1 (.kin [.u8]) (.fn 71 xWlBack1 (.fn 77 (.var 0) (.var 74) .nil) .nil))
    (.chk (.c2 .le (.c1 .len (.fn 71 xWlBack1 (.fn 77 (.var 0) (.var 74) .nil) .nil)) (.num 2048))
    (.split (.c2 .leq (.fn 71 xWlBack1 (.fn 77 (.var 0) (.var 74) .nil) .nil) (.var 0))
     (.split (.c2 .eq (.wr .u8 (.c2 .rd (.fn 76 (.var 0) (.var 74) .nil) (.num 0))) (.var 74))
      (.ret (.w (.c (.b (.c2 .eq (.fn 72 xWlBack1 .nil .nil) (.num 0)))), ⟨[], [], 6105, 75, []⟩))
      (.ret (.w (.c (.b (.bol false))), ⟨[], [], 5905, 75, []⟩)))
     (.ret (.w (.c (.b (.bol false))), ⟨[], [], 5905, 75, []⟩)))))
    (.ret (.w (.c (.b (.bol false))), ⟨[], [], 5903, 75, []⟩))))))
  (.ret (.w (.c (.b (.bol true))), ⟨[], [], 5603, 75, []⟩)))))))))
theorem treeWlBack_is : funTree (ctxN Go.Proofs.Try.prog annsWr consWl 8) annsWr 8 tWBack.vs tWBack.bs tWBack.n (preF tWBack.res) = treeWlBack := by kernel_rfl
end Go.Proofs.Ytbiodlomlendkaa.Sx
/- Sx laws of wrapping: a header that is put on and taken off again leaves what was there: the tree's leaves are true. Conditions: none. -/
set_option linter.unusedVariables false
set_option linter.unusedSimpArgs false
namespace Go.Proofs.Ytbiodlomlendkaa.Sx
open Go
/-- A row's cells as a head. -/
def rdT (F : T) : Nat → List IntKind → T
  | _, [] => .nil
  | i, k :: ks => .cons (.wr k (.c2 .rd F (.num (.ofNat i)))) (rdT F (i + 1) ks)
/-- Two heads' cells, one by one. -/
def eqsW (F : T) (b : Nat) : Nat → List IntKind → T
  | _, [] => .bol true
  | i, [k] => .c2 .eq (.wr k (.c2 .rd F (.num (.ofNat i)))) (.var (b + i))
  | i, k :: j :: ks => .c2 .and (.c2 .eq (.wr k (.c2 .rd F (.num (.ofNat i)))) (.var (b + i))) (eqsW F b (i + 1) (j :: ks))
section
variable {Φ : Sig} {ρ : Env}
theorem den_rdT {F : T} {r : List Int} (hF : (T.den Φ ρ F).list = r) : ∀ (ks ks0 : List IntKind) (i : Nat), GoodInts (ks0 ++ ks) r → ks0.length = i → (T.den Φ ρ (rdT F i ks)).list = r.drop i
  | [], ks0, i, hr, hi => by
    have : r.length = i := by have := hr.1; rw [List.append_nil] at this; omega
    rw [List.drop_of_length_le (by omega)]; rfl
  | k :: ks, ks0, i, hr, hi => by
    have hl : r.length = ks0.length + (ks.length + 1) := by have := hr.1; simp at this; omega
    rw [List.drop_eq_getElem_cons (by omega)]
    show k.wrap ((T.den Φ ρ F).list[(Int.ofNat i).toNat]?.getD 0) :: (T.den Φ ρ (rdT F (i + 1) ks)).list = _
    rw [den_rdT hF ks (ks0 ++ [k]) (i + 1) (by simpa using hr) (by simp [hi]), hF]
    have hb := hr.2 i k (r[i]'(by omega)) (by rw [← hi]; simp) (List.getElem?_eq_getElem (by omega))
    congr 1
    show k.wrap (r[i]?.getD 0) = _
    rw [List.getElem?_eq_getElem (by omega)]
    exact wrap_is hb.1 hb.2
theorem eqsW_t {F : T} {r : List Int} {b : Nat} (hF : (T.den Φ ρ F).list = r) : ∀ (ks ks0 : List IntKind) (i : Nat), GoodInts (ks0 ++ ks) r → ks0.length = i → (∀ j, j < ks.length → r[i + j]? = some (ρ (b + (i + j))).int) → (T.den Φ ρ (eqsW F b i ks)).bool = true
  | [], ks0, i, _, _, _ => rfl
  | [k], ks0, i, hr, hi, hv => by
    have h0 := hv 0 (by simp)
    have hb := hr.2 i k _ (by rw [← hi]; simp) h0
    rw [eqsW, eq_t, int_wr, int_rd, hF, den_var]
    show k.wrap (r[i]?.getD 0) = _
    rw [Nat.add_zero] at h0 hb
    rw [h0]
    exact wrap_is hb.1 hb.2
  | k :: j :: ks, ks0, i, hr, hi, hv => by
    have h0 := hv 0 (by simp)
    have hb := hr.2 i k _ (by rw [← hi]; simp) h0
    rw [eqsW, and_t]
    refine ⟨?_, eqsW_t hF (j :: ks) (ks0 ++ [k]) (i + 1) (by simpa using hr) (by simp [hi]) (fun q hq => ?_)⟩
    · rw [eq_t, int_wr, int_rd, hF, den_var]
      show k.wrap (r[i]?.getD 0) = _
      rw [Nat.add_zero] at h0 hb
      rw [h0]
      exact wrap_is hb.1 hb.2
    · have := hv (q + 1) (by simpa using hq)
      rwa [show i + 1 + q = i + (q + 1) from by omega]
end
def backX : T := rdT (.fn 76 (.var 0) (.var 74) .nil) 0 kHead
def backM (n1 n2 n3 : Nat) : M (V × St) :=
  .split (.c2 .eq (.fn 75 (.var 0) (.var 74) .nil) (.num 0))
    (.chk (.c1 (.kin [.u8]) (.fn 77 (.var 0) (.var 74) .nil)) (.chk (.c2 .le (.c1 .len (.fn 77 (.var 0) (.var 74) .nil)) (.c1 .len (.var 0)))
      (.split (.c2 .lt (.num 2048) (.c1 .len (.var 0))) (.ret (.w (.c (.b (.bol true))), ⟨[], [], n1, 75, []⟩))
        (.split (.c2 .eq (.fn 70 backX (.fn 77 (.var 0) (.var 74) .nil) .nil) (.num 0))
          (.chk (.c1 (.kin [.u8]) (.fn 71 backX (.fn 77 (.var 0) (.var 74) .nil) .nil)) (.chk (.c2 .le (.c1 .len (.fn 71 backX (.fn 77 (.var 0) (.var 74) .nil) .nil)) (.num 2048))
            (.split (.c2 .leq (.fn 71 backX (.fn 77 (.var 0) (.var 74) .nil) .nil) (.var 0))
              (.split (.c2 .eq (.wr .u8 (.c2 .rd (.fn 76 (.var 0) (.var 74) .nil) (.num 0))) (.var 74))
                (.ret (.w (.c (.b (.c2 .eq (.fn 72 backX .nil .nil) (.num 0)))), ⟨[], [], n2, 75, []⟩))
                (.ret (.w (.c (.b (.bol false))), ⟨[], [], n3, 75, []⟩)))
              (.ret (.w (.c (.b (.bol false))), ⟨[], [], n3, 75, []⟩)))))
          (.ret (.w (.c (.b (.bol false))), ⟨[], [], n3 - 2, 75, []⟩))))))
    (.ret (.w (.c (.b (.bol true))), ⟨[], [], n1, 75, []⟩))
set_option maxRecDepth 100000 in
theorem backM_ok {ρ : Env} {B : BK} {J : Inv} {n1 n2 n3 : Nat} (hb : Bytes (ρ 0).list) (hlo : 0 ≤ (ρ 74).int) (hn : n1 ≤ 100000 ∧ n2 ≤ 100000) :
    (backM n1 n2 n3).ok ΦW J B ρ (fun _ ρ' r => Leaf ΦW ρ ρ' ⟨.c (.b (.bol true)), [], 100000⟩ r) := by
  obtain ⟨k, hk⟩ := Int.eq_ofNat_of_zero_le hlo
  have hE : (T.den ΦW ρ (.fn 75 (.var 0) (.var 74) .nil)).int = popErr (ρ 0).list k := by rw [← hk]; rfl
  have hR : (T.den ΦW ρ (.fn 77 (.var 0) (.var 74) .nil)).list = (ρ 0).list.drop (hdSize k) := by
    show popRest (ρ 0).list (ρ 74).int = _; rw [hk]; rfl
  refine ⟨fun c => ?_, fun c => leaf_true rfl hn.1⟩
  rw [eq_t, hE] at c
  have hc : popErr (ρ 0).list k = 0 := c
  rw [popErr] at hc
  split at hc
  case isFalse => cases hc
  rename_i hk6
  rw [Int.toNat_natCast] at hc
  have hk6 : 1 ≤ k ∧ k ≤ 6 := by omega
  refine ⟨by rw [bytes_t, hR]; exact bytes_drop hb _, by rw [le_t, int_len, int_len, hR, den_var, List.length_drop]; omega, fun d => leaf_true rfl hn.1, fun d => ?_⟩
  rw [lt_f, int_len, den_var, den_num] at d
  have hl : (ρ 0).list.length ≤ 2048 := by have d : ((ρ 0).list.length : Int) ≤ 2048 := d; omega
  have hp := popped hk6 hb hl hc
  have hF : (T.den ΦW ρ (.fn 76 (.var 0) (.var 74) .nil)).list = headOf k (rdRow k (ρ 0).list) := by
    show popHead (ρ 0).list (ρ 74).int = _; rw [hk]; rfl
  have hX : (T.den ΦW ρ backX).list = headOf k (rdRow k (ρ 0).list) := by
    have := den_rdT hF kHead [] 0 (head_good hk6 _) rfl
    rw [List.drop_zero] at this; exact this
  have h70 : (T.den ΦW ρ (.fn 70 backX (.fn 77 (.var 0) (.var 74) .nil) .nil)).int = 0 := by
    show pushErr (T.den ΦW ρ backX).list (T.den ΦW ρ (.fn 77 (.var 0) (.var 74) .nil)).list = 0
    rw [hX, hR]; exact hp.1
  have h71 : (T.den ΦW ρ (.fn 71 backX (.fn 77 (.var 0) (.var 74) .nil) .nil)).list = (ρ 0).list := by
    show pushRow (T.den ΦW ρ backX).list (T.den ΦW ρ (.fn 77 (.var 0) (.var 74) .nil)).list = _
    rw [hX, hR]; exact hp.2.1
  refine ⟨fun e => ⟨by rw [bytes_t, h71]; exact hb, by rw [le_t, int_len, h71, den_num]; show ((ρ 0).list.length : Int) ≤ 2048; omega, fun f => ⟨fun q => leaf_true ?_ hn.2, fun q => ?_⟩, fun f => ?_⟩, fun e => ?_⟩
  · rw [eq_t]
    show ckErr (T.den ΦW ρ backX).list = 0
    rw [hX]; exact hp.2.2
  · exfalso
    rw [eq_f, int_wr, int_rd, hF, den_var, hk] at q
    apply q
    show IntKind.u8.wrap (g (headOf k (rdRow k (ρ 0).list)) 0) = _
    rw [head_kind0 hk6, wrap_is (k := .u8) (by simp only [kmin]; omega) (by simp only [kmax]; omega)]
  · exfalso
    rw [leq_f, h71, den_var] at f
    exact f rfl
  · exfalso
    rw [eq_f, h70] at e
    exact e rfl
theorem good_kin {H : List Int} (h : GoodInts kHead H) : inKinds kHead 0 H = true := by
  rw [inKinds_iff]
  intro j z hj
  have hl : H.length = 73 := h.1.symm
  have hlt : j < 73 := by have := (List.getElem?_eq_some_iff.1 hj).1; omega
  obtain ⟨k, hk⟩ : ∃ k, kHead[j]? = some k := ⟨_, List.getElem?_eq_getElem (show j < kHead.length by rw [kHead_len]; exact hlt)⟩
  have : kAt kHead (0 + j) = k := by rw [Nat.zero_add, kAt, kHead_len, Nat.mod_eq_of_lt hlt, List.getD_eq_getElem?_getD, hk]; rfl
  rw [this]; exact h.2 j k z hk hj
set_option maxRecDepth 100000 in
theorem wlBack_ok : TmplOk Go.Proofs.Try.prog ΦW 8 tWBack := by
  refine tmpl_of consWl_ok treeWlBack_is (fun ρ res hres => ⟨eqJ, ?_⟩)
  obtain ⟨h0, hres⟩ := short_some hres
  obtain ⟨hb, hres⟩ := bytes_some hres
  obtain ⟨hk, hres⟩ := inKs_some (hid_some hres)
  obtain ⟨hlo, hhi, hres⟩ := inR_some hres
  obtain rfl := ret_some hres
  have hb : Bytes (ρ 0).list := hb
  have hE : (T.den ΦW ρ (.fn 70 (varsT 1 73) (.var 0) .nil)).int = pushErr (T.den ΦW ρ (varsT 1 73)).list (ρ 0).list := rfl
  have hH : GoodInts kHead (T.den ΦW ρ (varsT 1 73)).list := by
    refine ⟨(vars_len ΦW ρ _ _).symm, fun i k z h1 h2 => ?_⟩
    have hi : i < 73 := (List.getElem?_eq_some_iff.1 h1).1
    rw [vars_nth ΦW ρ _ 1 i hi] at h2
    injection h2 with h2
    subst h2
    exact hk i k h1
  have hc1 : (T.den ΦW ρ (.c2 .le (.num 0) (.var 74))).bool = true := by rw [le_t, den_var, den_num]; exact hlo
  have hc2 : (T.den ΦW ρ (.c2 .le (.var 74) (.num 255))).bool = true := by rw [le_t, den_var, den_num]; exact hhi
  have hv := hk 0 .u8 rfl
  refine ⟨by rw [le_t, den_var, den_num]; exact hv.1, by rw [le_t, den_var, den_num]; exact hv.2, good_kin hH, fun c => ?_, fun c => ⟨hc1, hc2, backM_ok (n1 := 5603) (n2 := 6105) (n3 := 5905) hb hlo (by decide)⟩⟩
  replace c := (eq_t ΦW ρ (.fn 70 (varsT 1 73) (.var 0) .nil) (.num 0)).mp c
  rw [hE] at c
  obtain ⟨k, hp⟩ := pushed hH hb c
  have hR : (T.den ΦW ρ (.fn 71 (varsT 1 73) (.var 0) .nil)).list = pushRow (T.den ΦW ρ (varsT 1 73)).list (ρ 0).list := rfl
  have v1 : (ρ 1).int = k := by
    have := hp.at0
    rwa [g, vars_nth ΦW ρ 73 1 0 (by decide)] at this
  have h75 : (T.den ΦW ρ (.fn 75 (.fn 71 (varsT 1 73) (.var 0) .nil) (.var 1) .nil)).int = 0 := by
    show popErr (pushRow (T.den ΦW ρ (varsT 1 73)).list (ρ 0).list) (ρ 1).int = 0
    rw [popErr, v1, if_pos (by have := hp.kind; omega), Int.toNat_natCast]; exact hp.err
  have h76 : (T.den ΦW ρ (.fn 76 (.fn 71 (varsT 1 73) (.var 0) .nil) (.var 1) .nil)).list = (T.den ΦW ρ (varsT 1 73)).list := by
    show popHead (pushRow (T.den ΦW ρ (varsT 1 73)).list (ρ 0).list) (ρ 1).int = _
    rw [popHead, v1, Int.toNat_natCast]; exact hp.head
  have h77 : (T.den ΦW ρ (.fn 77 (.fn 71 (varsT 1 73) (.var 0) .nil) (.var 1) .nil)).list = (ρ 0).list := by
    show popRest (pushRow (T.den ΦW ρ (varsT 1 73)).list (ρ 0).list) (ρ 1).int = _
    rw [popRest, v1, Int.toNat_natCast]; exact hp.rest
  refine ⟨(bytes_t ΦW ρ (.fn 71 (varsT 1 73) (.var 0) .nil)).mpr hp.bytes, ?_, fun d => ⟨?_, ?_, fun e => ?_, fun e => ⟨fun f => ?_, fun f => ⟨fun q => ?_, fun q => ⟨fun s => ?_, fun s => ?_⟩⟩⟩⟩, fun d => ?_⟩
  · refine (le_t ΦW ρ (.c1 .len (.fn 71 (varsT 1 73) (.var 0) .nil)) (.num 2048)).mpr ?_
    rw [int_len, hR]; show _ ≤ (2048 : Int); have := hp.short; omega
  · refine (bytes_t ΦW ρ (.fn 77 (.fn 71 (varsT 1 73) (.var 0) .nil) (.var 1) .nil)).mpr ?_
    rw [h77]; exact hb
  · refine (le_t ΦW ρ (.c1 .len (.fn 77 (.fn 71 (varsT 1 73) (.var 0) .nil) (.var 1) .nil)) (.c1 .len (.fn 71 (varsT 1 73) (.var 0) .nil))).mpr ?_
    rw [int_len, int_len, h77, hR, hp.len]; omega
  · exfalso
    replace e := (not_t ΦW ρ (eqsW (.fn 76 (.fn 71 (varsT 1 73) (.var 0) .nil) (.var 1) .nil) 1 0 kHead)).mp e
    rw [eqsW_t h76 kHead [] 0 hH rfl (fun j hj => by rw [Nat.zero_add, vars_nth ΦW ρ 73 1 j hj])] at e
    cases e
  · exfalso
    replace f := (leq_f ΦW ρ (.fn 77 (.fn 71 (varsT 1 73) (.var 0) .nil) (.var 1) .nil) (.var 0)).mp ((not_t ΦW ρ _).mp f)
    exact f h77
  · exfalso
    replace q := (eq_f ΦW ρ (.fn 74 (.var 1) .nil .nil) (.num 0)).mp ((not_t ΦW ρ _).mp q)
    apply q
    show szErr (ρ 1).int = 0
    rw [szErr, v1, if_pos (by have := hp.kind; omega)]
  · exfalso
    replace s := (eq_f ΦW ρ (.c1 .len (.fn 71 (varsT 1 73) (.var 0) .nil)) (.wr .i64 (.c2 .add (.fn 73 (.var 1) .nil .nil) (.c1 .len (.var 0))))).mp ((not_t ΦW ρ _).mp s)
    apply s
    rw [int_len, hR, hp.len, int_wr, int_add, int_len, den_var]
    show _ = IntKind.i64.wrap ((hdSize (ρ 1).int.toNat : Int) + _)
    have := hp.len
    have := hp.short
    rw [v1, Int.toNat_natCast, wrap_is (by simp only [kmin]; omega) (by simp only [kmax]; omega)]; omega
  · refine ⟨hc1, hc2, ?_⟩
    exact backM_ok (n1 := 6006) (n2 := 6508) (n3 := 6308) hb hlo (by decide)
  · exfalso
    replace d := (eq_f ΦW ρ (.fn 75 (.fn 71 (varsT 1 73) (.var 0) .nil) (.var 1) .nil) (.num 0)).mp d
    exact d h75
end Go.Proofs.Ytbiodlomlendkaa.Sx
