/- Sx: texts of this claim put together: HdRNet6, TRdSeg, TRrSeg, HdRSeg, TRdDgram, TRrDgram, HdRDgram, PeL, TPeNext, TPeNextR, TPePeel, TPePeelR, PeK, TPeSame, PeS, PlA, TPlEq, TPlAwake, TPlPeels, TPlAll, PlK, PlB, PwA, TPwWhere, TPwWhereR. Conditions: none. -/
import Derived.Test.YtbiodlomlendkaaZ3
import Derived.Test.YtbiodlomlendkaaProg
import Derived.KernelRfl
/- Sx laws of headers: the readers of layer Net6, the program's and the document's. Conditions: none. -/
set_option linter.unusedVariables false
set_option linter.unusedSimpArgs false
namespace Go.Proofs.Ytbiodlomlendkaa.Sx
open Go
theorem rdNet6_ok {Φ : Sig} (hΦ : HdSig Φ) : TmplOk Go.Proofs.Try.prog Φ 59 (tRead 4 60 kNet6) := by
  refine tmpl_of (consSum_ok hΦ.toSumSig) treeRdNet6_is (fun ρ res hres => ⟨eqJ, ?_⟩)
  obtain ⟨h0, hres⟩ := short_some hres
  obtain ⟨hb, hres⟩ := bytes_some hres
  obtain rfl := ret_some hres
  have hF : T.den Φ ρ (fn1 14 (.var 0)) = .l (rdRow 4 (ρ 0).list) := hΦ.rdRow 4 _ _ _ (by decide) (by decide)
  have hE : T.den Φ ρ (fn1 24 (.var 0)) = .i (rdErr 4 (ρ 0).list) := hΦ.rdErr 4 _ _ _ (by decide) (by decide)
  have b0 := byte_rd hb 0
  have b1 := byte_rd hb 1
  have b2 := byte_rd hb 2
  have b3 := byte_rd hb 3
  have b4 := byte_rd hb 4
  have b5 := byte_rd hb 5
  refine ⟨fun c1 => ?_, fun c1 => ?_⟩
  · simp at c1
    have hz : rdErr 4 (ρ 0).list = 6 := by
      simp only [rdErr, fld1, word, g, Nat.reduceAdd]
      repeat' split
      all_goals first | rfl | omega
    exact leaf_rd_err hF hE rfl hz (by decide) (by decide)
  · refine ⟨fun c2 => ?_, fun c2 => ?_⟩
    · simp at c1 c2
      have hz : rdErr 4 (ρ 0).list = 80 := by
        simp only [rdErr, fld1, word, g, Nat.reduceAdd]
        repeat' split
        all_goals first | rfl | omega
      exact leaf_rd_err hF hE rfl hz (by decide) (by decide)
    · refine ⟨fun c3 => ?_, fun c3 => ?_⟩
      · simp at c1 c2 c3
        have hz : rdErr 4 (ρ 0).list = 80 := by
          simp only [rdErr, fld1, word, g, Nat.reduceAdd]
          repeat' split
          all_goals first | rfl | omega
        exact leaf_rd_err hF hE rfl hz (by decide) (by decide)
      · simp at c1 c2 c3
        have hz : rdErr 4 (ρ 0).list = 0 := by
          simp only [rdErr, fld1, word, g, Nat.reduceAdd]
          repeat' split
          all_goals first | rfl | omega
        refine leaf_rd_good hF hE hz ?_ (by decide)
        refine ⟨rfl, ?_, rfl, ?_, rfl, wrap_byte hb 6, rfl, wrap_byte hb 7, rfl, wrap_byte hb 8, rfl, wrap_byte hb 9, rfl, wrap_byte hb 10, rfl, wrap_byte hb 11, rfl, wrap_byte hb 12, rfl, wrap_byte hb 13, rfl, wrap_byte hb 14, rfl, wrap_byte hb 15, rfl, wrap_byte hb 16, rfl, wrap_byte hb 17, rfl, wrap_byte hb 18, rfl, wrap_byte hb 19, rfl, wrap_byte hb 20, rfl, wrap_byte hb 21, rfl, wrap_byte hb 22, rfl, wrap_byte hb 23, rfl, wrap_byte hb 24, rfl, wrap_byte hb 25, rfl, wrap_byte hb 26, rfl, wrap_byte hb 27, rfl, wrap_byte hb 28, rfl, wrap_byte hb 29, rfl, wrap_byte hb 30, rfl, wrap_byte hb 31, rfl, wrap_byte hb 32, rfl, wrap_byte hb 33, rfl, wrap_byte hb 34, rfl, wrap_byte hb 35, rfl, wrap_byte hb 36, rfl, wrap_byte hb 37, rfl, wrap_byte hb 38, rfl, wrap_byte hb 39, trivial⟩
        all_goals
          refine wrap_eq ?_ ?_ ?_ <;> simp [word, g, kmin, kmax] <;> omega
theorem rrNet6_ok {Φ : Sig} (hΦ : HdSig Φ) : TmplOk Go.Proofs.Try.prog Φ 70 (tRead 4 60 kNet6) := by
  refine tmpl_of (consSum_ok hΦ.toSumSig) treeRrNet6_is (fun ρ res hres => ⟨eqJ, ?_⟩)
  obtain ⟨h0, hres⟩ := short_some hres
  obtain ⟨hb, hres⟩ := bytes_some hres
  obtain rfl := ret_some hres
  have hF : T.den Φ ρ (fn1 14 (.var 0)) = .l (rdRow 4 (ρ 0).list) := hΦ.rdRow 4 _ _ _ (by decide) (by decide)
  have hE : T.den Φ ρ (fn1 24 (.var 0)) = .i (rdErr 4 (ρ 0).list) := hΦ.rdErr 4 _ _ _ (by decide) (by decide)
  have b0 := byte_rd hb 0
  have b1 := byte_rd hb 1
  have b2 := byte_rd hb 2
  have b3 := byte_rd hb 3
  have b4 := byte_rd hb 4
  have b5 := byte_rd hb 5
  refine ⟨fun c1 => ?_, fun c1 => ?_⟩
  · simp at c1
    have hz : rdErr 4 (ρ 0).list = 6 := by
      simp only [rdErr, fld1, word, g, Nat.reduceAdd]
      repeat' split
      all_goals first | rfl | omega
    exact leaf_rd_err hF hE rfl hz (by decide) (by decide)
  · refine ⟨fun c2 => ?_, fun c2 => ?_⟩
    · simp at c1 c2
      have hz : rdErr 4 (ρ 0).list = 80 := by
        simp only [rdErr, fld1, word, g, Nat.reduceAdd]
        repeat' split
        all_goals first | rfl | omega
      exact leaf_rd_err hF hE rfl hz (by decide) (by decide)
    · refine ⟨fun c3 => ?_, fun c3 => ?_⟩
      · simp at c1 c2 c3
        have hz : rdErr 4 (ρ 0).list = 80 := by
          simp only [rdErr, fld1, word, g, Nat.reduceAdd]
          repeat' split
          all_goals first | rfl | omega
        exact leaf_rd_err hF hE rfl hz (by decide) (by decide)
      · simp at c1 c2 c3
        have hz : rdErr 4 (ρ 0).list = 0 := by
          simp only [rdErr, fld1, word, g, Nat.reduceAdd]
          repeat' split
          all_goals first | rfl | omega
        refine leaf_rd_good hF hE hz ?_ (by decide)
        refine ⟨rfl, ?_, rfl, ?_, rfl, wrap_byte hb 6, rfl, wrap_byte hb 7, rfl, wrap_byte hb 8, rfl, wrap_byte hb 9, rfl, wrap_byte hb 10, rfl, wrap_byte hb 11, rfl, wrap_byte hb 12, rfl, wrap_byte hb 13, rfl, wrap_byte hb 14, rfl, wrap_byte hb 15, rfl, wrap_byte hb 16, rfl, wrap_byte hb 17, rfl, wrap_byte hb 18, rfl, wrap_byte hb 19, rfl, wrap_byte hb 20, rfl, wrap_byte hb 21, rfl, wrap_byte hb 22, rfl, wrap_byte hb 23, rfl, wrap_byte hb 24, rfl, wrap_byte hb 25, rfl, wrap_byte hb 26, rfl, wrap_byte hb 27, rfl, wrap_byte hb 28, rfl, wrap_byte hb 29, rfl, wrap_byte hb 30, rfl, wrap_byte hb 31, rfl, wrap_byte hb 32, rfl, wrap_byte hb 33, rfl, wrap_byte hb 34, rfl, wrap_byte hb 35, rfl, wrap_byte hb 36, rfl, wrap_byte hb 37, rfl, wrap_byte hb 38, rfl, wrap_byte hb 39, trivial⟩
        all_goals
          refine wrap_eq ?_ ?_ ?_ <;> simp [word, g, kmin, kmax] <;> omega
end Go.Proofs.Ytbiodlomlendkaa.Sx
/- Sx: what Go function 62 does, as a tree of conditions (printed by a tool of this claim, proved by the kernel). Conditions: none. -/
set_option maxRecDepth 100000
namespace Go.Proofs.Ytbiodlomlendkaa.Sx
open Go
def treeRdSeg : M (V × St) :=
(.split (.c2 .lt (.c1 .len (.var 0)) (.num 20))
 (.ret (.t [.g [.i .u16 (.num 0), .i .u16 (.num 0), .i .u32 (.num 0), .i .u32 (.num 0), .i .u8 (.num 0), .i .u16 (.num 0)], .c (.i .i64 (.num 6))], ⟨[], [], 2, 1, []⟩))
 (.split (.c1 .not (.c2 .eq (.c2 .mul (.c2 .fdiv (.c2 .add (.c2 .mul (.c2 .rd (.var 0) (.num 12)) (.num 256)) (.c2 .rd (.var 0) (.num 13))) (.num 64)) (.num 64)) (.num 20480)))
  (.ret (.t [.g [.i .u16 (.num 0), .i .u16 (.num 0), .i .u32 (.num 0), .i .u32 (.num 0), .i .u8 (.num 0), .i .u16 (.num 0)], .c (.i .i64 (.num 90))], ⟨[], [], 2, 1, []⟩))
  (.split (.c1 .not (.c2 .eq (.c2 .add (.c2 .mul (.c2 .rd (.var 0) (.num 18)) (.num 256)) (.c2 .rd (.var 0) (.num 19))) (.num 0)))
   (.ret (.t [.g [.i .u16 (.num 0), .i .u16 (.num 0), .i .u32 (.num 0), .i .u32 (.num 0), .i .u8 (.num 0), .i .u16 (.num 0)], .c (.i .i64 (.num 90))], ⟨[], [], 2, 1, []⟩))
   (.split (.c1 .not (.c2 .eq (.c2 .add (.c2 .mul (.c2 .rd (.var 0) (.num 16)) (.num 256)) (.c2 .rd (.var 0) (.num 17))) (.c2 .sub (.num 65535) (.wr .u16 (.fn 2 (.c2 .add (.wr .u16 (.fn 1 (.c2 .take (.num 16) (.var 0)) .nil .nil)) (.wr .u16 (.fn 1 (.c2 .drop (.num 18) (.var 0)) .nil .nil))) .nil .nil)))))
    (.ret (.t [.g [.i .u16 (.num 0), .i .u16 (.num 0), .i .u32 (.num 0), .i .u32 (.num 0), .i .u8 (.num 0), .i .u16 (.num 0)], .c (.i .i64 (.num 110))], ⟨[], [], 4, 1, []⟩))
    (.ret (.t [.g [.i .u16 (.c2 .add (.c2 .mul (.c2 .rd (.var 0) (.num 0)) (.num 256)) (.c2 .rd (.var 0) (.num 1))), .i .u16 (.c2 .add (.c2 .mul (.c2 .rd (.var 0) (.num 2)) (.num 256)) (.c2 .rd (.var 0) (.num 3))), .i .u32 (.c2 .add (.c2 .mul (.c2 .add (.c2 .mul (.c2 .rd (.var 0) (.num 4)) (.num 256)) (.c2 .rd (.var 0) (.num 5))) (.num 65536)) (.c2 .add (.c2 .mul (.c2 .rd (.var 0) (.num 6)) (.num 256)) (.c2 .rd (.var 0) (.num 7)))), .i .u32 (.c2 .add (.c2 .mul (.c2 .add (.c2 .mul (.c2 .rd (.var 0) (.num 8)) (.num 256)) (.c2 .rd (.var 0) (.num 9))) (.num 65536)) (.c2 .add (.c2 .mul (.c2 .rd (.var 0) (.num 10)) (.num 256)) (.c2 .rd (.var 0) (.num 11)))), .i .u8 (.c2 .rd (.var 0) (.num 13)), .i .u16 (.c2 .add (.c2 .mul (.c2 .rd (.var 0) (.num 14)) (.num 256)) (.c2 .rd (.var 0) (.num 15)))], .c (.i .i64 (.num 0))], ⟨[], [], 5, 1, []⟩))))))
theorem treeRdSeg_is : funTree (ctxN Go.Proofs.Try.prog annsHd consSum 8) annsHd 62 (tRead 5 60 kSeg).vs (tRead 5 60 kSeg).bs (tRead 5 60 kSeg).n (preF (tRead 5 60 kSeg).res) = treeRdSeg := by kernel_rfl
end Go.Proofs.Ytbiodlomlendkaa.Sx
/- Sx: what Go function 71 does, as a tree of conditions (printed by a tool of this claim, proved by the kernel). Conditions: none. -/
set_option maxRecDepth 100000
namespace Go.Proofs.Ytbiodlomlendkaa.Sx
open Go
def treeRrSeg : M (V × St) :=
(.split (.c2 .lt (.c1 .len (.var 0)) (.num 20))
 (.ret (.t [.g [.i .u16 (.num 0), .i .u16 (.num 0), .i .u32 (.num 0), .i .u32 (.num 0), .i .u8 (.num 0), .i .u16 (.num 0)], .c (.i .i64 (.num 6))], ⟨[], [], 3, 1, []⟩))
 (.split (.c1 .not (.c2 .eq (.c2 .rd (.var 0) (.num 12)) (.num 80)))
  (.ret (.t [.g [.i .u16 (.num 0), .i .u16 (.num 0), .i .u32 (.num 0), .i .u32 (.num 0), .i .u8 (.num 0), .i .u16 (.num 0)], .c (.i .i64 (.num 90))], ⟨[], [], 3, 1, []⟩))
  (.split (.c2 .le (.num 64) (.c2 .rd (.var 0) (.num 13)))
   (.ret (.t [.g [.i .u16 (.num 0), .i .u16 (.num 0), .i .u32 (.num 0), .i .u32 (.num 0), .i .u8 (.num 0), .i .u16 (.num 0)], .c (.i .i64 (.num 90))], ⟨[], [], 3, 1, []⟩))
   (.split (.c1 .not (.c2 .eq (.c2 .rd (.var 0) (.num 18)) (.num 0)))
    (.ret (.t [.g [.i .u16 (.num 0), .i .u16 (.num 0), .i .u32 (.num 0), .i .u32 (.num 0), .i .u8 (.num 0), .i .u16 (.num 0)], .c (.i .i64 (.num 90))], ⟨[], [], 3, 1, []⟩))
    (.split (.c1 .not (.c2 .eq (.c2 .rd (.var 0) (.num 19)) (.num 0)))
     (.ret (.t [.g [.i .u16 (.num 0), .i .u16 (.num 0), .i .u32 (.num 0), .i .u32 (.num 0), .i .u8 (.num 0), .i .u16 (.num 0)], .c (.i .i64 (.num 90))], ⟨[], [], 3, 1, []⟩))
     (.split (.c1 .not (.c2 .eq (.c2 .add (.c2 .mul (.c2 .rd (.var 0) (.num 16)) (.num 256)) (.c2 .rd (.var 0) (.num 17))) (.c2 .sub (.num 65535) (.wr .u16 (.fn 1 (.set (.set (.var 0) (.num 16) (.num 0)) (.num 17) (.num 0)) .nil .nil)))))
      (.ret (.t [.g [.i .u16 (.num 0), .i .u16 (.num 0), .i .u32 (.num 0), .i .u32 (.num 0), .i .u8 (.num 0), .i .u16 (.num 0)], .c (.i .i64 (.num 110))], ⟨[], [], 5, 1, []⟩))
      (.ret (.t [.g [.i .u16 (.c2 .add (.c2 .mul (.c2 .rd (.var 0) (.num 0)) (.num 256)) (.c2 .rd (.var 0) (.num 1))), .i .u16 (.c2 .add (.c2 .mul (.c2 .rd (.var 0) (.num 2)) (.num 256)) (.c2 .rd (.var 0) (.num 3))), .i .u32 (.c2 .add (.c2 .mul (.c2 .add (.c2 .mul (.c2 .add (.c2 .mul (.c2 .rd (.var 0) (.num 4)) (.num 256)) (.c2 .rd (.var 0) (.num 5))) (.num 256)) (.c2 .rd (.var 0) (.num 6))) (.num 256)) (.c2 .rd (.var 0) (.num 7))), .i .u32 (.c2 .add (.c2 .mul (.c2 .add (.c2 .mul (.c2 .add (.c2 .mul (.c2 .rd (.var 0) (.num 8)) (.num 256)) (.c2 .rd (.var 0) (.num 9))) (.num 256)) (.c2 .rd (.var 0) (.num 10))) (.num 256)) (.c2 .rd (.var 0) (.num 11))), .i .u8 (.c2 .rd (.var 0) (.num 13)), .i .u16 (.c2 .add (.c2 .mul (.c2 .rd (.var 0) (.num 14)) (.num 256)) (.c2 .rd (.var 0) (.num 15)))], .c (.i .i64 (.num 0))], ⟨[], [], 6, 1, []⟩))))))))
theorem treeRrSeg_is : funTree (ctxN Go.Proofs.Try.prog annsHd consSum 8) annsHd 71 (tRead 5 60 kSeg).vs (tRead 5 60 kSeg).bs (tRead 5 60 kSeg).n (preF (tRead 5 60 kSeg).res) = treeRrSeg := by kernel_rfl
end Go.Proofs.Ytbiodlomlendkaa.Sx
/- Sx laws of headers: the readers of layer Seg, the program's and the document's. Conditions: none. -/
set_option linter.unusedVariables false
set_option linter.unusedSimpArgs false
namespace Go.Proofs.Ytbiodlomlendkaa.Sx
open Go
theorem rdSeg_ok {Φ : Sig} (hΦ : HdSig Φ) : TmplOk Go.Proofs.Try.prog Φ 62 (tRead 5 60 kSeg) := by
  refine tmpl_of (consSum_ok hΦ.toSumSig) treeRdSeg_is (fun ρ res hres => ⟨eqJ, ?_⟩)
  obtain ⟨h0, hres⟩ := short_some hres
  obtain ⟨hb, hres⟩ := bytes_some hres
  obtain rfl := ret_some hres
  have hF : T.den Φ ρ (fn1 15 (.var 0)) = .l (rdRow 5 (ρ 0).list) := hΦ.rdRow 5 _ _ _ (by decide) (by decide)
  have hE : T.den Φ ρ (fn1 25 (.var 0)) = .i (rdErr 5 (ρ 0).list) := hΦ.rdErr 5 _ _ _ (by decide) (by decide)
  have b4 := byte_rd hb 4
  have b5 := byte_rd hb 5
  have b6 := byte_rd hb 6
  have b7 := byte_rd hb 7
  have b8 := byte_rd hb 8
  have b9 := byte_rd hb 9
  have b10 := byte_rd hb 10
  have b11 := byte_rd hb 11
  have b12 := byte_rd hb 12
  have b13 := byte_rd hb 13
  have b16 := byte_rd hb 16
  have b17 := byte_rd hb 17
  have b18 := byte_rd hb 18
  have b19 := byte_rd hb 19
  have hS : 20 ≤ (ρ 0).list.length → 65535 - ocs (ocs (wsum ((ρ 0).list.take 16)) + ocs (wsum ((ρ 0).list.drop 18))) = fld (z2 (ρ 0).list 16) := fun hl => fld_at hb 8 (by omega)
  have hZ : ∀ l : List Int, (l.set 16 0).set 17 0 = z2 l 16 := fun _ => rfl
  have hD : ∀ l : List Int, 65535 - ocs (wsum l) = fld l := fun _ => rfl
  refine ⟨fun c1 => ?_, fun c1 => ?_⟩
  · simp at c1
    have hz : rdErr 5 (ρ 0).list = 6 := by
      simp only [rdErr, fld1, word, g, Nat.reduceAdd]
      repeat' split
      all_goals first | rfl | omega
    exact leaf_rd_err hF hE rfl hz (by decide) (by decide)
  · refine ⟨fun c2 => ?_, fun c2 => ?_⟩
    · simp at c1 c2
      have hz : rdErr 5 (ρ 0).list = 90 := by
        simp only [rdErr, fld1, word, g, Nat.reduceAdd]
        repeat' split
        all_goals first | rfl | omega
      exact leaf_rd_err hF hE rfl hz (by decide) (by decide)
    · refine ⟨fun c3 => ?_, fun c3 => ?_⟩
      · simp at c1 c2 c3
        have hz : rdErr 5 (ρ 0).list = 90 := by
          simp only [rdErr, fld1, word, g, Nat.reduceAdd]
          repeat' split
          all_goals first | rfl | omega
        exact leaf_rd_err hF hE rfl hz (by decide) (by decide)
      · refine ⟨fun c4 => ?_, fun c4 => ?_⟩
        · simp at c1 c2 c3
          have hS := hS (by omega)
          simp [hΦ.sum, hΦ.ocs, wrap_ocs, hZ, hD, hS] at c4
          have hz : rdErr 5 (ρ 0).list = 110 := by
            simp only [rdErr, fld1, word, g, Nat.reduceAdd]
            repeat' split
            all_goals first | rfl | omega
          exact leaf_rd_err hF hE rfl hz (by decide) (by decide)
        · simp at c1 c2 c3
          have hS := hS (by omega)
          simp [hΦ.sum, hΦ.ocs, wrap_ocs, hZ, hD, hS] at c4
          have hz : rdErr 5 (ρ 0).list = 0 := by
            simp only [rdErr, fld1, word, g, Nat.reduceAdd]
            repeat' split
            all_goals first | rfl | omega
          refine leaf_rd_good hF hE hz ?_ (by decide)
          refine ⟨rfl, wrap_word hb 0, rfl, wrap_word hb 2, rfl, ?_, rfl, ?_, rfl, wrap_byte hb 13, rfl, wrap_word hb 14, trivial⟩
          all_goals
            refine wrap_eq ?_ ?_ ?_ <;> simp [word, g, kmin, kmax] <;> omega
theorem rrSeg_ok {Φ : Sig} (hΦ : HdSig Φ) : TmplOk Go.Proofs.Try.prog Φ 71 (tRead 5 60 kSeg) := by
  refine tmpl_of (consSum_ok hΦ.toSumSig) treeRrSeg_is (fun ρ res hres => ⟨eqJ, ?_⟩)
  obtain ⟨h0, hres⟩ := short_some hres
  obtain ⟨hb, hres⟩ := bytes_some hres
  obtain rfl := ret_some hres
  have hF : T.den Φ ρ (fn1 15 (.var 0)) = .l (rdRow 5 (ρ 0).list) := hΦ.rdRow 5 _ _ _ (by decide) (by decide)
  have hE : T.den Φ ρ (fn1 25 (.var 0)) = .i (rdErr 5 (ρ 0).list) := hΦ.rdErr 5 _ _ _ (by decide) (by decide)
  have b4 := byte_rd hb 4
  have b5 := byte_rd hb 5
  have b6 := byte_rd hb 6
  have b7 := byte_rd hb 7
  have b8 := byte_rd hb 8
  have b9 := byte_rd hb 9
  have b10 := byte_rd hb 10
  have b11 := byte_rd hb 11
  have b12 := byte_rd hb 12
  have b13 := byte_rd hb 13
  have b16 := byte_rd hb 16
  have b17 := byte_rd hb 17
  have b18 := byte_rd hb 18
  have b19 := byte_rd hb 19
  have hS : 20 ≤ (ρ 0).list.length → 65535 - ocs (ocs (wsum ((ρ 0).list.take 16)) + ocs (wsum ((ρ 0).list.drop 18))) = fld (z2 (ρ 0).list 16) := fun hl => fld_at hb 8 (by omega)
  have hZ : ∀ l : List Int, (l.set 16 0).set 17 0 = z2 l 16 := fun _ => rfl
  have hD : ∀ l : List Int, 65535 - ocs (wsum l) = fld l := fun _ => rfl
  refine ⟨fun c1 => ?_, fun c1 => ?_⟩
  · simp at c1
    have hz : rdErr 5 (ρ 0).list = 6 := by
      simp only [rdErr, fld1, word, g, Nat.reduceAdd]
      repeat' split
      all_goals first | rfl | omega
    exact leaf_rd_err hF hE rfl hz (by decide) (by decide)
  · refine ⟨fun c2 => ?_, fun c2 => ?_⟩
    · simp at c1 c2
      have hz : rdErr 5 (ρ 0).list = 90 := by
        simp only [rdErr, fld1, word, g, Nat.reduceAdd]
        repeat' split
        all_goals first | rfl | omega
      exact leaf_rd_err hF hE rfl hz (by decide) (by decide)
    · refine ⟨fun c3 => ?_, fun c3 => ?_⟩
      · simp at c1 c2 c3
        have hz : rdErr 5 (ρ 0).list = 90 := by
          simp only [rdErr, fld1, word, g, Nat.reduceAdd]
          repeat' split
          all_goals first | rfl | omega
        exact leaf_rd_err hF hE rfl hz (by decide) (by decide)
      · refine ⟨fun c4 => ?_, fun c4 => ?_⟩
        · simp at c1 c2 c3 c4
          have hz : rdErr 5 (ρ 0).list = 90 := by
            simp only [rdErr, fld1, word, g, Nat.reduceAdd]
            repeat' split
            all_goals first | rfl | omega
          exact leaf_rd_err hF hE rfl hz (by decide) (by decide)
        · refine ⟨fun c5 => ?_, fun c5 => ?_⟩
          · simp at c1 c2 c3 c4 c5
            have hz : rdErr 5 (ρ 0).list = 90 := by
              simp only [rdErr, fld1, word, g, Nat.reduceAdd]
              repeat' split
              all_goals first | rfl | omega
            exact leaf_rd_err hF hE rfl hz (by decide) (by decide)
          · refine ⟨fun c6 => ?_, fun c6 => ?_⟩
            · simp at c1 c2 c3 c4 c5
              have hS := hS (by omega)
              simp [hΦ.sum, hΦ.ocs, wrap_ocs, hZ, hD, hS] at c6
              have hz : rdErr 5 (ρ 0).list = 110 := by
                simp only [rdErr, fld1, word, g, Nat.reduceAdd]
                repeat' split
                all_goals first | rfl | omega
              exact leaf_rd_err hF hE rfl hz (by decide) (by decide)
            · simp at c1 c2 c3 c4 c5
              have hS := hS (by omega)
              simp [hΦ.sum, hΦ.ocs, wrap_ocs, hZ, hD, hS] at c6
              have hz : rdErr 5 (ρ 0).list = 0 := by
                simp only [rdErr, fld1, word, g, Nat.reduceAdd]
                repeat' split
                all_goals first | rfl | omega
              refine leaf_rd_good hF hE hz ?_ (by decide)
              refine ⟨rfl, wrap_word hb 0, rfl, wrap_word hb 2, rfl, ?_, rfl, ?_, rfl, wrap_byte hb 13, rfl, wrap_word hb 14, trivial⟩
              all_goals
                refine wrap_eq ?_ ?_ ?_ <;> simp [word, g, kmin, kmax] <;> omega
end Go.Proofs.Ytbiodlomlendkaa.Sx
/- Sx: what Go function 65 does, as a tree of conditions (printed by a tool of this claim, proved by the kernel). Conditions: none. -/
set_option maxRecDepth 100000
namespace Go.Proofs.Ytbiodlomlendkaa.Sx
open Go
def treeRdDgram : M (V × St) :=
(.split (.c2 .lt (.c1 .len (.var 0)) (.num 8))
 (.ret (.t [.g [.i .u16 (.num 0), .i .u16 (.num 0)], .c (.i .i64 (.num 6))], ⟨[], [], 2, 1, []⟩))
 (.split (.c1 .not (.c2 .eq (.c2 .add (.c2 .mul (.c2 .rd (.var 0) (.num 4)) (.num 256)) (.c2 .rd (.var 0) (.num 5))) (.c1 .len (.var 0))))
  (.ret (.t [.g [.i .u16 (.num 0), .i .u16 (.num 0)], .c (.i .i64 (.num 100))], ⟨[], [], 2, 1, []⟩))
  (.split (.c1 .not (.c2 .eq (.c2 .sub (.num 65535) (.wr .u16 (.fn 2 (.c2 .add (.wr .u16 (.fn 1 (.c2 .take (.num 6) (.var 0)) .nil .nil)) (.wr .u16 (.fn 1 (.c2 .drop (.num 8) (.var 0)) .nil .nil))) .nil .nil))) (.num 0)))
   (.split (.c1 .not (.c2 .eq (.c2 .add (.c2 .mul (.c2 .rd (.var 0) (.num 6)) (.num 256)) (.c2 .rd (.var 0) (.num 7))) (.c2 .sub (.num 65535) (.wr .u16 (.fn 2 (.c2 .add (.wr .u16 (.fn 1 (.c2 .take (.num 6) (.var 0)) .nil .nil)) (.wr .u16 (.fn 1 (.c2 .drop (.num 8) (.var 0)) .nil .nil))) .nil .nil)))))
    (.ret (.t [.g [.i .u16 (.num 0), .i .u16 (.num 0)], .c (.i .i64 (.num 110))], ⟨[], [], 4, 1, []⟩))
    (.ret (.t [.g [.i .u16 (.c2 .add (.c2 .mul (.c2 .rd (.var 0) (.num 0)) (.num 256)) (.c2 .rd (.var 0) (.num 1))), .i .u16 (.c2 .add (.c2 .mul (.c2 .rd (.var 0) (.num 2)) (.num 256)) (.c2 .rd (.var 0) (.num 3)))], .c (.i .i64 (.num 0))], ⟨[], [], 5, 1, []⟩)))
   (.split (.c1 .not (.c2 .eq (.c2 .add (.c2 .mul (.c2 .rd (.var 0) (.num 6)) (.num 256)) (.c2 .rd (.var 0) (.num 7))) (.num 65535)))
    (.ret (.t [.g [.i .u16 (.num 0), .i .u16 (.num 0)], .c (.i .i64 (.num 110))], ⟨[], [], 4, 1, []⟩))
    (.ret (.t [.g [.i .u16 (.c2 .add (.c2 .mul (.c2 .rd (.var 0) (.num 0)) (.num 256)) (.c2 .rd (.var 0) (.num 1))), .i .u16 (.c2 .add (.c2 .mul (.c2 .rd (.var 0) (.num 2)) (.num 256)) (.c2 .rd (.var 0) (.num 3)))], .c (.i .i64 (.num 0))], ⟨[], [], 5, 1, []⟩))))))
theorem treeRdDgram_is : funTree (ctxN Go.Proofs.Try.prog annsHd consSum 8) annsHd 65 (tRead 6 60 kDgram).vs (tRead 6 60 kDgram).bs (tRead 6 60 kDgram).n (preF (tRead 6 60 kDgram).res) = treeRdDgram := by kernel_rfl
end Go.Proofs.Ytbiodlomlendkaa.Sx
/- Sx: what Go function 72 does, as a tree of conditions (printed by a tool of this claim, proved by the kernel). Conditions: none. -/
set_option maxRecDepth 100000
namespace Go.Proofs.Ytbiodlomlendkaa.Sx
open Go
def treeRrDgram : M (V × St) :=
(.split (.c2 .lt (.c1 .len (.var 0)) (.num 8))
 (.ret (.t [.g [.i .u16 (.num 0), .i .u16 (.num 0)], .c (.i .i64 (.num 6))], ⟨[], [], 3, 1, []⟩))
 (.split (.c1 .not (.c2 .eq (.c2 .add (.c2 .mul (.c2 .rd (.var 0) (.num 4)) (.num 256)) (.c2 .rd (.var 0) (.num 5))) (.c1 .len (.var 0))))
  (.ret (.t [.g [.i .u16 (.num 0), .i .u16 (.num 0)], .c (.i .i64 (.num 100))], ⟨[], [], 3, 1, []⟩))
  (.split (.c2 .eq (.c2 .sub (.num 65535) (.wr .u16 (.fn 1 (.set (.set (.var 0) (.num 6) (.num 0)) (.num 7) (.num 0)) .nil .nil))) (.num 0))
   (.split (.c1 .not (.c2 .eq (.c2 .add (.c2 .mul (.c2 .rd (.var 0) (.num 6)) (.num 256)) (.c2 .rd (.var 0) (.num 7))) (.num 65535)))
    (.ret (.t [.g [.i .u16 (.num 0), .i .u16 (.num 0)], .c (.i .i64 (.num 110))], ⟨[], [], 5, 1, []⟩))
    (.ret (.t [.g [.i .u16 (.c2 .add (.c2 .mul (.c2 .rd (.var 0) (.num 0)) (.num 256)) (.c2 .rd (.var 0) (.num 1))), .i .u16 (.c2 .add (.c2 .mul (.c2 .rd (.var 0) (.num 2)) (.num 256)) (.c2 .rd (.var 0) (.num 3)))], .c (.i .i64 (.num 0))], ⟨[], [], 6, 1, []⟩)))
   (.split (.c1 .not (.c2 .eq (.c2 .add (.c2 .mul (.c2 .rd (.var 0) (.num 6)) (.num 256)) (.c2 .rd (.var 0) (.num 7))) (.c2 .sub (.num 65535) (.wr .u16 (.fn 1 (.set (.set (.var 0) (.num 6) (.num 0)) (.num 7) (.num 0)) .nil .nil)))))
    (.ret (.t [.g [.i .u16 (.num 0), .i .u16 (.num 0)], .c (.i .i64 (.num 110))], ⟨[], [], 5, 1, []⟩))
    (.ret (.t [.g [.i .u16 (.c2 .add (.c2 .mul (.c2 .rd (.var 0) (.num 0)) (.num 256)) (.c2 .rd (.var 0) (.num 1))), .i .u16 (.c2 .add (.c2 .mul (.c2 .rd (.var 0) (.num 2)) (.num 256)) (.c2 .rd (.var 0) (.num 3)))], .c (.i .i64 (.num 0))], ⟨[], [], 6, 1, []⟩))))))
theorem treeRrDgram_is : funTree (ctxN Go.Proofs.Try.prog annsHd consSum 8) annsHd 72 (tRead 6 60 kDgram).vs (tRead 6 60 kDgram).bs (tRead 6 60 kDgram).n (preF (tRead 6 60 kDgram).res) = treeRrDgram := by kernel_rfl
end Go.Proofs.Ytbiodlomlendkaa.Sx
/- Sx laws of headers: the readers of layer Dgram, the program's and the document's. Conditions: none. -/
set_option linter.unusedVariables false
set_option linter.unusedSimpArgs false
namespace Go.Proofs.Ytbiodlomlendkaa.Sx
open Go
theorem rdDgram_ok {Φ : Sig} (hΦ : HdSig Φ) : TmplOk Go.Proofs.Try.prog Φ 65 (tRead 6 60 kDgram) := by
  refine tmpl_of (consSum_ok hΦ.toSumSig) treeRdDgram_is (fun ρ res hres => ⟨eqJ, ?_⟩)
  obtain ⟨h0, hres⟩ := short_some hres
  obtain ⟨hb, hres⟩ := bytes_some hres
  obtain rfl := ret_some hres
  have hF : T.den Φ ρ (fn1 16 (.var 0)) = .l (rdRow 6 (ρ 0).list) := hΦ.rdRow 6 _ _ _ (by decide) (by decide)
  have hE : T.den Φ ρ (fn1 26 (.var 0)) = .i (rdErr 6 (ρ 0).list) := hΦ.rdErr 6 _ _ _ (by decide) (by decide)
  have b4 := byte_rd hb 4
  have b5 := byte_rd hb 5
  have b6 := byte_rd hb 6
  have b7 := byte_rd hb 7
  have hS : 8 ≤ (ρ 0).list.length → 65535 - ocs (ocs (wsum ((ρ 0).list.take 6)) + ocs (wsum ((ρ 0).list.drop 8))) = fld (z2 (ρ 0).list 6) := fun hl => fld_at hb 3 (by omega)
  have hZ : ∀ l : List Int, (l.set 6 0).set 7 0 = z2 l 6 := fun _ => rfl
  have hD : ∀ l : List Int, 65535 - ocs (wsum l) = fld l := fun _ => rfl
  refine ⟨fun c1 => ?_, fun c1 => ?_⟩
  · simp at c1
    have hz : rdErr 6 (ρ 0).list = 6 := by
      simp only [rdErr, fld1, word, g, Nat.reduceAdd]
      repeat' split
      all_goals first | rfl | omega
    exact leaf_rd_err hF hE rfl hz (by decide) (by decide)
  · refine ⟨fun c2 => ?_, fun c2 => ?_⟩
    · simp at c1 c2
      have hz : rdErr 6 (ρ 0).list = 100 := by
        simp only [rdErr, fld1, word, g, Nat.reduceAdd]
        repeat' split
        all_goals first | rfl | omega
      exact leaf_rd_err hF hE rfl hz (by decide) (by decide)
    · refine ⟨fun c3 => ?_, fun c3 => ?_⟩
      · refine ⟨fun c4 => ?_, fun c4 => ?_⟩
        · simp at c1 c2
          have hS := hS (by omega)
          simp [hΦ.sum, hΦ.ocs, wrap_ocs, hZ, hD, hS] at c3 c4
          have hz : rdErr 6 (ρ 0).list = 110 := by
            simp only [rdErr, fld1, word, g, Nat.reduceAdd]
            repeat' split
            all_goals first | rfl | omega
          exact leaf_rd_err hF hE rfl hz (by decide) (by decide)
        · simp at c1 c2
          have hS := hS (by omega)
          simp [hΦ.sum, hΦ.ocs, wrap_ocs, hZ, hD, hS] at c3 c4
          have hz : rdErr 6 (ρ 0).list = 0 := by
            simp only [rdErr, fld1, word, g, Nat.reduceAdd]
            repeat' split
            all_goals first | rfl | omega
          refine leaf_rd_good hF hE hz ?_ (by decide)
          refine ⟨rfl, wrap_word hb 0, rfl, wrap_word hb 2, trivial⟩
      · refine ⟨fun c5 => ?_, fun c5 => ?_⟩
        · simp at c1 c2 c5
          have hS := hS (by omega)
          simp [hΦ.sum, hΦ.ocs, wrap_ocs, hZ, hD, hS] at c3
          have hz : rdErr 6 (ρ 0).list = 110 := by
            simp only [rdErr, fld1, word, g, Nat.reduceAdd]
            repeat' split
            all_goals first | rfl | omega
          exact leaf_rd_err hF hE rfl hz (by decide) (by decide)
        · simp at c1 c2 c5
          have hS := hS (by omega)
          simp [hΦ.sum, hΦ.ocs, wrap_ocs, hZ, hD, hS] at c3
          have hz : rdErr 6 (ρ 0).list = 0 := by
            simp only [rdErr, fld1, word, g, Nat.reduceAdd]
            repeat' split
            all_goals first | rfl | omega
          refine leaf_rd_good hF hE hz ?_ (by decide)
          refine ⟨rfl, wrap_word hb 0, rfl, wrap_word hb 2, trivial⟩
theorem rrDgram_ok {Φ : Sig} (hΦ : HdSig Φ) : TmplOk Go.Proofs.Try.prog Φ 72 (tRead 6 60 kDgram) := by
  refine tmpl_of (consSum_ok hΦ.toSumSig) treeRrDgram_is (fun ρ res hres => ⟨eqJ, ?_⟩)
  obtain ⟨h0, hres⟩ := short_some hres
  obtain ⟨hb, hres⟩ := bytes_some hres
  obtain rfl := ret_some hres
  have hF : T.den Φ ρ (fn1 16 (.var 0)) = .l (rdRow 6 (ρ 0).list) := hΦ.rdRow 6 _ _ _ (by decide) (by decide)
  have hE : T.den Φ ρ (fn1 26 (.var 0)) = .i (rdErr 6 (ρ 0).list) := hΦ.rdErr 6 _ _ _ (by decide) (by decide)
  have b4 := byte_rd hb 4
  have b5 := byte_rd hb 5
  have b6 := byte_rd hb 6
  have b7 := byte_rd hb 7
  have hS : 8 ≤ (ρ 0).list.length → 65535 - ocs (ocs (wsum ((ρ 0).list.take 6)) + ocs (wsum ((ρ 0).list.drop 8))) = fld (z2 (ρ 0).list 6) := fun hl => fld_at hb 3 (by omega)
  have hZ : ∀ l : List Int, (l.set 6 0).set 7 0 = z2 l 6 := fun _ => rfl
  have hD : ∀ l : List Int, 65535 - ocs (wsum l) = fld l := fun _ => rfl
  refine ⟨fun c1 => ?_, fun c1 => ?_⟩
  · simp at c1
    have hz : rdErr 6 (ρ 0).list = 6 := by
      simp only [rdErr, fld1, word, g, Nat.reduceAdd]
      repeat' split
      all_goals first | rfl | omega
    exact leaf_rd_err hF hE rfl hz (by decide) (by decide)
  · refine ⟨fun c2 => ?_, fun c2 => ?_⟩
    · simp at c1 c2
      have hz : rdErr 6 (ρ 0).list = 100 := by
        simp only [rdErr, fld1, word, g, Nat.reduceAdd]
        repeat' split
        all_goals first | rfl | omega
      exact leaf_rd_err hF hE rfl hz (by decide) (by decide)
    · refine ⟨fun c3 => ?_, fun c3 => ?_⟩
      · refine ⟨fun c4 => ?_, fun c4 => ?_⟩
        · simp at c1 c2 c4
          have hS := hS (by omega)
          simp [hΦ.sum, hΦ.ocs, wrap_ocs, hZ, hD, hS] at c3
          have hz : rdErr 6 (ρ 0).list = 110 := by
            simp only [rdErr, fld1, word, g, Nat.reduceAdd]
            repeat' split
            all_goals first | rfl | omega
          exact leaf_rd_err hF hE rfl hz (by decide) (by decide)
        · simp at c1 c2 c4
          have hS := hS (by omega)
          simp [hΦ.sum, hΦ.ocs, wrap_ocs, hZ, hD, hS] at c3
          have hz : rdErr 6 (ρ 0).list = 0 := by
            simp only [rdErr, fld1, word, g, Nat.reduceAdd]
            repeat' split
            all_goals first | rfl | omega
          refine leaf_rd_good hF hE hz ?_ (by decide)
          refine ⟨rfl, wrap_word hb 0, rfl, wrap_word hb 2, trivial⟩
      · refine ⟨fun c5 => ?_, fun c5 => ?_⟩
        · simp at c1 c2
          have hS := hS (by omega)
          simp [hΦ.sum, hΦ.ocs, wrap_ocs, hZ, hD, hS] at c3 c5
          have hz : rdErr 6 (ρ 0).list = 110 := by
            simp only [rdErr, fld1, word, g, Nat.reduceAdd]
            repeat' split
            all_goals first | rfl | omega
          exact leaf_rd_err hF hE rfl hz (by decide) (by decide)
        · simp at c1 c2
          have hS := hS (by omega)
          simp [hΦ.sum, hΦ.ocs, wrap_ocs, hZ, hD, hS] at c3 c5
          have hz : rdErr 6 (ρ 0).list = 0 := by
            simp only [rdErr, fld1, word, g, Nat.reduceAdd]
            repeat' split
            all_goals first | rfl | omega
          refine leaf_rd_good hF hE hz ?_ (by decide)
          refine ⟨rfl, wrap_word hb 0, rfl, wrap_word hb 2, trivial⟩
end Go.Proofs.Ytbiodlomlendkaa.Sx
/- Sx laws of peeling: steps and leaves. Conditions: none. -/
set_option linter.unusedVariables false
set_option linter.unusedSimpArgs false
namespace Go.Proofs.Ytbiodlomlendkaa.Sx
open Go
theorem consRd_ok {Φ : Sig} (hΦ : HdSig Φ) : ConsOk Go.Proofs.Try.prog Φ consRd :=
  moreCons (con_ok (rdLink_ok hΦ)) (moreCons (con_ok (rrLink_ok hΦ)) (moreCons (con_ok (rdTag_ok hΦ)) (moreCons (con_ok (rrTag_ok hΦ)) (moreCons (con_ok (rdNet4_ok hΦ)) (moreCons (con_ok (rrNet4_ok hΦ)) (moreCons (con_ok (rdNet6_ok hΦ)) (moreCons (con_ok (rrNet6_ok hΦ))
    (moreCons (con_ok (rdSeg_ok hΦ)) (moreCons (con_ok (rrSeg_ok hΦ)) (moreCons (con_ok (rdDgram_ok hΦ)) (moreCons (con_ok (rrDgram_ok hΦ)) noCons)))))))))))
section
variable {Φ : Sig} {ρ ρ' : Env}
theorem vars_get (Φ : Sig) (ρ : Env) : ∀ (n b i : Nat), i < n → (T.den Φ ρ (varsT b n)).list[i]? = some (ρ (b + i)).int
  | n + 1, b, 0, _ => rfl
  | n + 1, b, i + 1, h => by
    show (T.den Φ ρ (varsT (b + 1) n)).list[i]? = _
    rw [vars_get Φ ρ n (b + 1) i (by omega), show b + 1 + i = b + (i + 1) from by omega]
theorem next_vars (Φ : Sig) (ρ : Env) : nextK (T.den Φ ρ (varsT 0 73)).list = if (ρ 0).int = 1 then byT (ρ 13).int else if (ρ 0).int = 2 then byT (ρ 16).int else if (ρ 0).int = 3 then byP (ρ 19).int else if (ρ 0).int = 4 then byP (ρ 31).int else 0 := by
  have h : ∀ i, i < 73 → g (T.den Φ ρ (varsT 0 73)).list i = (ρ i).int := fun i hi => by rw [g, vars_get Φ ρ 73 0 i hi, Nat.zero_add]; rfl
  rw [nextK, h 0 (by decide), h 13 (by decide), h 16 (by decide), h 19 (by decide), h 31 (by decide)]
theorem leaf_next (hΦ : PeSig Φ) {z : Int} {b : Bool} {n nv : Nat} (hz : nextK (T.den Φ ρ (varsT 0 73)).list = z) (hb : b = !(z == 0)) (hn : n ≤ 20) :
    Leaf Φ ρ ρ ⟨.t [.c (.i .u8 (nextT (varsT 0 73))), .c (.b (.c1 .not (.c2 .eq (nextT (varsT 0 73)) (.num 0))))], [], 20⟩ (.t [.c (.i .u8 (.num z)), .c (.b (.bol b))], ⟨[], [], n, nv, []⟩) := by
  have h : (T.den Φ ρ (nextT (varsT 0 73))).int = z := by rw [nextT, int_wr, den_fn, hΦ.next, D.int_i, wrap_next, hz]
  refine ⟨⟨⟨rfl, h.symm⟩, ?_, trivial⟩, trivial, hn⟩
  show b = !((T.den Φ ρ (nextT (varsT 0 73))).int == 0)
  rw [h, hb]
theorem next_den (hΦ : PeSig Φ) {H : T} {h : List Int} (hH : (T.den Φ ρ H).list = h) : (T.den Φ ρ (nextT H)).int = nextK h := by rw [nextT, int_wr, den_fn, hΦ.next, D.int_i, wrap_next, hH]
theorem next_toNat (hΦ : PeSig Φ) {H : T} {h : List Int} (hH : (T.den Φ ρ H).list = h) : (T.den Φ ρ (nextT H)).int = ((nextK h).toNat : Nat) := by
  have := nextK_range h
  rw [next_den hΦ hH]; omega
theorem next_bool (hΦ : PeSig Φ) {H : T} {h : List Int} (hH : (T.den Φ ρ H).list = h) : (T.den Φ ρ (.c1 .not (.c2 .eq (nextT H) (.num 0)))).bool = !(nextK h == 0) := by
  show (!((T.den Φ ρ (nextT H)).int == 0)) = _
  rw [next_den hΦ hH]
theorem ok_back {α : Type} {J : Inv} {B : BK} {i b : Nat} {σ : List T} {P : List D → Prop} {K : BK → Env → α → Prop} (h : P (σ.map (T.den Φ ρ))) : M.ok (α := α) Φ J (.back i b σ) (BK.at_ B b P) ρ K := by
  show (if b = b then _ else _)
  rw [if_pos rfl]; exact h
/-! States of the loop. -/
def PeSt (p : List Int) (c k a : Nat) (more : Bool) (acc : List Int) : Prop :=
  c ≤ 8 ∧ k ≤ 6 ∧ a ≤ p.length ∧ acc.length = 73 * c ∧ inKinds kHead 0 acc = true ∧ (more = true → 1 ≤ k ∧ peelOf p = peelGo (8 - c) p a k acc) ∧ (more = false → 1 ≤ c ∧ peelOf p = (acc, a, 0))
def peJ : Inv := ⟨fun _ ρ ds => ∃ c k a : Nat, (nthD ds 0).int = c ∧ (nthD ds 1).int = k ∧ (nthD ds 3).int = a ∧ (nthD ds 4).int = (ρ 0).list.length - a ∧ PeSt (ρ 0).list c k a (nthD ds 2).bool (nthD ds 5).list, fun _ ρ ds => 9 - (nthD ds 0).int.toNat⟩
def peJR : Inv := ⟨fun _ ρ ds => ∃ c k a : Nat, (nthD ds 0).int = c ∧ (nthD ds 1).int = k ∧ (nthD ds 3).int = a ∧ PeSt (ρ 0).list c k a (nthD ds 2).bool (nthD ds 4).list, fun _ ρ ds => 9 - (nthD ds 0).int.toNat⟩
theorem pe_start {p : List Int} : PeSt p 0 1 0 true [] := ⟨by omega, by omega, by omega, rfl, rfl, fun _ => ⟨by omega, rfl⟩, fun h => by cases h⟩
theorem pe_many {p acc : List Int} {c k a : Nat} {m : Bool} (h : PeSt p c k a m acc) (hm : m = true) (hc : c = 8) : peelOf p = ([], 0, 3) := by
  obtain ⟨_, _, _, _, _, h6, _⟩ := h
  rw [(h6 hm).2, hc]; rfl
theorem pe_err {p acc : List Int} {c k a : Nat} {m : Bool} (h : PeSt p c k a m acc) (hm : m = true) (hc : c < 8) (he : ¬ rdErr k (p.drop a) = 0) : peelOf p = ([], 0, rdErr k (p.drop a)) := by
  obtain ⟨_, _, _, _, _, h6, _⟩ := h
  obtain ⟨n, hn⟩ : ∃ n, 8 - c = n + 1 := ⟨7 - c, by omega⟩
  rw [(h6 hm).2, hn, peelGo, if_neg he]
theorem rd_size {k : Nat} {p : List Int} (h : rdErr k p = 0) : hdSize k ≤ p.length := by
  unfold rdErr at h
  split at h
  · simp only [hdSize]; split at h <;> first | (cases h; done) | omega
  · simp only [hdSize]; split at h <;> first | (cases h; done) | omega
  · simp only [hdSize]; split at h <;> first | (cases h; done) | omega
  · simp only [hdSize]; split at h <;> first | (cases h; done) | omega
  · simp only [hdSize]; split at h <;> first | (cases h; done) | omega
  · simp only [hdSize]; split at h <;> first | (cases h; done) | omega
  · cases h
theorem pe_step {p acc : List Int} {c k a : Nat} {m : Bool} (h : PeSt p c k a m acc) (hm : m = true) (hc : c < 8) (he : rdErr k (p.drop a) = 0) :
    hdSize k + a ≤ p.length ∧ PeSt p (c + 1) (nextK (headOf k (rdRow k (p.drop a)))).toNat (a + hdSize k) (!(nextK (headOf k (rdRow k (p.drop a))) == 0)) (acc ++ headOf k (rdRow k (p.drop a))) := by
  obtain ⟨h1, h2, h3, h4, h5, h6, _⟩ := h
  have hs := rd_size he
  rw [List.length_drop] at hs
  obtain ⟨hk, hp⟩ := h6 hm
  have hr := nextK_range (headOf k (rdRow k (p.drop a)))
  have hsz : hdSize k + a ≤ p.length := by
    rcases Nat.eq_zero_or_pos (hdSize k) with h | h <;> omega
  refine ⟨hsz, by omega, by omega, by omega, ?_, heads_more h5 h4 ⟨hk, h2⟩, fun hx => ⟨?_, ?_⟩, fun hx => ⟨by omega, ?_⟩⟩
  · rw [List.length_append, head_len _ _ ⟨hk, h2⟩, h4]; omega
  · simp at hx; omega
  · obtain ⟨n, hn⟩ : ∃ n, 8 - c = n + 1 := ⟨7 - c, by omega⟩
    simp at hx
    rw [hp, hn, peelGo, if_pos he, if_neg hx, show 8 - (c + 1) = n from by omega]
  · obtain ⟨n, hn⟩ : ∃ n, 8 - c = n + 1 := ⟨7 - c, by omega⟩
    simp at hx
    rw [hp, hn, peelGo, if_pos he, if_pos hx]
theorem pe_same {p acc acc' : List Int} {c k a : Nat} {m m' : Bool} (h1 : acc' = acc) (h2 : m' = m) (h : PeSt p c k a m acc) : PeSt p c k a m' acc' := by rw [h1, h2]; exact h
theorem app_heads {H : T} {v : Nat} {c : Nat} {h : List Int} (v1 : (ρ 1).int = c) (s4 : (ρ v).list.length = 73 * c) (hH : (T.den Φ ρ H).list = h) :
    (T.den Φ ρ (.c2 .app (.c2 .take (.c2 .mul (.var 1) (.num 73)) (.var v)) H)).list = (ρ v).list ++ h := by
  rw [list_app, hH, list_take, int_mul, den_var, den_var, v1]
  show (ρ v).list.take ((c : Int) * 73).toNat ++ h = _
  rw [List.take_of_length_le (by omega)]
/-! Results. -/
def peOkRes (jh jr : Nat) : Res := ⟨.t [.c (.s jh 73 0 (.num 0) (peNum (.var 0))), .c (.s jr 1 0 (.num 0) (.c1 .len (peRest (.var 0)))), .c (.i .i64 (.num 0))], [(jr, some ⟨true, .row [.u8] (peRest (.var 0))⟩), (jh, some ⟨true, .row kHead (peRow (.var 0))⟩)], 200⟩
def peErrRes : Res := ⟨.t [.c .sn, .c .sn, .c (.i .i64 (peErr (.var 0)))], [], 200⟩
structure PeRes (Φ : Sig) (ρ : Env) (jh jr : Nat) (res : Res) : Prop where
  sig : PeSig Φ
  or : ((peelOf (ρ 0).list).2.2 = 0 ∧ res = peOkRes jh jr) ∨ (¬ (peelOf (ρ 0).list).2.2 = 0 ∧ res = peErrRes)
theorem den_peErr (hΦ : PeSig Φ) : (T.den Φ ρ (peErr (.var 0))).int = (peelOf (ρ 0).list).2.2 := by rw [peErr, fn1, den_fn, hΦ.err]; rfl
theorem pe_res (hΦ : PeSig Φ) {jh jr : Nat} {res : Res} (h : (peRes (.var 0) jh jr 200).val (T.den Φ ρ) = some res) : PeRes Φ ρ jh jr res := by
  refine ⟨hΦ, ?_⟩
  simp only [peRes, O.val] at h
  split at h
  · rename_i c
    rw [eq_t, den_peErr hΦ] at c
    refine .inl ⟨c, ?_⟩
    repeat' (split at h)
    all_goals first | (cases h; done) | skip
    injection h with h
    exact h.symm
  · rename_i c
    have c : (T.den Φ ρ (.c2 .eq (peErr (.var 0)) (.num 0))).bool = false := by simpa using c
    rw [eq_f, den_peErr hΦ] at c
    injection h with h
    exact .inr ⟨c, h.symm⟩
theorem leaf_pe_err {jh jr n nv : Nat} {res : Res} {t : T} {e : Int} (hr : PeRes Φ ρ jh jr res) (hp : peelOf (ρ 0).list = ([], 0, e)) (ht : (T.den Φ ρ' t).int = e) (he : ¬ e = 0) (hn : n ≤ 200) : Leaf Φ ρ ρ' res (.t [.c .sn, .c .sn, .c (.i .i64 t)], ⟨[], [], n, nv, []⟩) := by
  rcases hr.or with ⟨h, _⟩ | ⟨_, rfl⟩
  · rw [hp] at h; exact absurd h he
  · exact ⟨⟨trivial, trivial, ⟨rfl, by rw [ht, den_peErr hr.sig, hp]⟩, trivial⟩, trivial, hn⟩
theorem leaf_pe_ok {jh jr n nv c a : Nat} {res : Res} {acc : List Int} {tv tl ta tr : T} (hr : PeRes Φ ρ jh jr res) (hp : peelOf (ρ 0).list = (acc, a, 0)) (hv : (T.den Φ ρ' tv).int = c) (hc : 1 ≤ c) (hl : acc.length = 73 * c)
    (htl : (T.den Φ ρ' tl).int = ((ρ 0).list.drop a).length) (hta : (T.den Φ ρ' ta).list = acc) (htr : (T.den Φ ρ' tr).list = (ρ 0).list.drop a) (hn : n ≤ 200) :
    Leaf Φ ρ ρ' res (.t [.c (.s jh 73 0 (.num 0) tv), .c (.s jr 1 0 (.num 0) tl), .c (.i .i64 (.num 0))], ⟨[], [(jr, some ⟨true, .row [.u8] tr⟩), (jh, some ⟨true, .row kHead ta⟩)], n, nv, []⟩) := by
  rcases hr.or with ⟨_, rfl⟩ | ⟨h, _⟩
  · have q1 : (T.den Φ ρ (peNum (.var 0))).int = c := by rw [peNum, fn1, den_fn, hr.sig.num, den_var, hp]; show (((acc.length / 73 : Nat)) : Int) = c; rw [hl]; omega
    have q2 : (T.den Φ ρ (peRest (.var 0))).list = (ρ 0).list.drop a := by rw [peRest, fn1, den_fn, hr.sig.rest, den_var, hp]; rfl
    have q3 : (T.den Φ ρ (peRow (.var 0))).list = acc := by rw [peRow, fn1, den_fn, hr.sig.row, den_var, hp]; rfl
    exact ⟨⟨⟨rfl, rfl, rfl, rfl, by rw [hv, q1]⟩, ⟨rfl, rfl, rfl, rfl, by rw [htl, int_len, q2]⟩, ⟨rfl, rfl⟩, trivial⟩, ⟨rfl, rfl, ⟨rfl, by rw [htr, q2]⟩, rfl, rfl, ⟨rfl, by rw [hta, q3]⟩, trivial⟩, hn⟩
  · rw [hp] at h; exact absurd rfl h
end
end Go.Proofs.Ytbiodlomlendkaa.Sx
/- Sx: what Go function 18 does, as a tree of conditions (printed by a tool of this claim, proved by the kernel). Conditions: none. -/
set_option maxRecDepth 100000
namespace Go.Proofs.Ytbiodlomlendkaa.Sx
open Go
def treePeNext : M (V × St) :=
(.split (.c2 .eq (.var 0) (.num 1))
 (.split (.c2 .eq (.var 13) (.num 33024))
  (.ret (.t [.c (.i .u8 (.num 2)), .c (.b (.bol true))], ⟨[], [], 1, 73, []⟩))
  (.split (.c2 .eq (.var 13) (.num 2048))
   (.ret (.t [.c (.i .u8 (.num 3)), .c (.b (.bol true))], ⟨[], [], 1, 73, []⟩))
   (.split (.c2 .eq (.var 13) (.num 34525))
    (.ret (.t [.c (.i .u8 (.num 4)), .c (.b (.bol true))], ⟨[], [], 1, 73, []⟩))
    (.ret (.t [.c (.i .u8 (.num 0)), .c (.b (.bol false))], ⟨[], [], 1, 73, []⟩)))))
 (.split (.c2 .eq (.var 0) (.num 2))
  (.split (.c2 .eq (.var 16) (.num 33024))
   (.ret (.t [.c (.i .u8 (.num 2)), .c (.b (.bol true))], ⟨[], [], 1, 73, []⟩))
   (.split (.c2 .eq (.var 16) (.num 2048))
    (.ret (.t [.c (.i .u8 (.num 3)), .c (.b (.bol true))], ⟨[], [], 1, 73, []⟩))
    (.split (.c2 .eq (.var 16) (.num 34525))
     (.ret (.t [.c (.i .u8 (.num 4)), .c (.b (.bol true))], ⟨[], [], 1, 73, []⟩))
     (.ret (.t [.c (.i .u8 (.num 0)), .c (.b (.bol false))], ⟨[], [], 1, 73, []⟩)))))
  (.split (.c2 .eq (.var 0) (.num 3))
   (.split (.c2 .eq (.var 19) (.num 6))
    (.ret (.t [.c (.i .u8 (.num 5)), .c (.b (.bol true))], ⟨[], [], 1, 73, []⟩))
    (.split (.c2 .eq (.var 19) (.num 17))
     (.ret (.t [.c (.i .u8 (.num 6)), .c (.b (.bol true))], ⟨[], [], 1, 73, []⟩))
     (.ret (.t [.c (.i .u8 (.num 0)), .c (.b (.bol false))], ⟨[], [], 1, 73, []⟩))))
   (.split (.c2 .eq (.var 0) (.num 4))
    (.split (.c2 .eq (.var 31) (.num 6))
     (.ret (.t [.c (.i .u8 (.num 5)), .c (.b (.bol true))], ⟨[], [], 1, 73, []⟩))
     (.split (.c2 .eq (.var 31) (.num 17))
      (.ret (.t [.c (.i .u8 (.num 6)), .c (.b (.bol true))], ⟨[], [], 1, 73, []⟩))
      (.ret (.t [.c (.i .u8 (.num 0)), .c (.b (.bol false))], ⟨[], [], 1, 73, []⟩))))
    (.ret (.t [.c (.i .u8 (.num 0)), .c (.b (.bol false))], ⟨[], [], 1, 73, []⟩))))))
theorem treePeNext_is : funTree (ctxN Go.Proofs.Try.prog annsPe [] 8) annsPe 18 tNext.vs tNext.bs tNext.n (preF tNext.res) = treePeNext := by kernel_rfl
end Go.Proofs.Ytbiodlomlendkaa.Sx
/- Sx: what Go function 19 does, as a tree of conditions (printed by a tool of this claim, proved by the kernel). Conditions: none. -/
set_option maxRecDepth 100000
namespace Go.Proofs.Ytbiodlomlendkaa.Sx
open Go
def treePeNextR : M (V × St) :=
(.split (.c2 .eq (.var 0) (.num 1))
 (.split (.c2 .eq (.var 13) (.num 33024))
  (.ret (.t [.c (.i .u8 (.num 2)), .c (.b (.bol true))], ⟨[], [], 1, 73, []⟩))
  (.split (.c2 .eq (.var 13) (.num 2048))
   (.ret (.t [.c (.i .u8 (.num 3)), .c (.b (.bol true))], ⟨[], [], 1, 73, []⟩))
   (.split (.c2 .eq (.var 13) (.num 34525))
    (.ret (.t [.c (.i .u8 (.num 4)), .c (.b (.bol true))], ⟨[], [], 1, 73, []⟩))
    (.ret (.t [.c (.i .u8 (.num 0)), .c (.b (.bol false))], ⟨[], [], 1, 73, []⟩)))))
 (.split (.c2 .eq (.var 0) (.num 2))
  (.split (.c2 .eq (.var 16) (.num 33024))
   (.ret (.t [.c (.i .u8 (.num 2)), .c (.b (.bol true))], ⟨[], [], 1, 73, []⟩))
   (.split (.c2 .eq (.var 16) (.num 2048))
    (.ret (.t [.c (.i .u8 (.num 3)), .c (.b (.bol true))], ⟨[], [], 1, 73, []⟩))
    (.split (.c2 .eq (.var 16) (.num 34525))
     (.ret (.t [.c (.i .u8 (.num 4)), .c (.b (.bol true))], ⟨[], [], 1, 73, []⟩))
     (.ret (.t [.c (.i .u8 (.num 0)), .c (.b (.bol false))], ⟨[], [], 1, 73, []⟩)))))
  (.split (.c2 .eq (.var 0) (.num 3))
   (.split (.c2 .eq (.var 19) (.num 6))
    (.ret (.t [.c (.i .u8 (.num 5)), .c (.b (.bol true))], ⟨[], [], 1, 73, []⟩))
    (.split (.c2 .eq (.var 19) (.num 17))
     (.ret (.t [.c (.i .u8 (.num 6)), .c (.b (.bol true))], ⟨[], [], 1, 73, []⟩))
     (.ret (.t [.c (.i .u8 (.num 0)), .c (.b (.bol false))], ⟨[], [], 1, 73, []⟩))))
   (.split (.c2 .eq (.var 0) (.num 4))
    (.split (.c2 .eq (.var 31) (.num 6))
     (.ret (.t [.c (.i .u8 (.num 5)), .c (.b (.bol true))], ⟨[], [], 1, 73, []⟩))
     (.split (.c2 .eq (.var 31) (.num 17))
      (.ret (.t [.c (.i .u8 (.num 6)), .c (.b (.bol true))], ⟨[], [], 1, 73, []⟩))
      (.ret (.t [.c (.i .u8 (.num 0)), .c (.b (.bol false))], ⟨[], [], 1, 73, []⟩))))
    (.ret (.t [.c (.i .u8 (.num 0)), .c (.b (.bol false))], ⟨[], [], 1, 73, []⟩))))))
theorem treePeNextR_is : funTree (ctxN Go.Proofs.Try.prog annsPe [] 8) annsPe 19 tNext.vs tNext.bs tNext.n (preF tNext.res) = treePeNextR := by kernel_rfl
end Go.Proofs.Ytbiodlomlendkaa.Sx
/- Sx: what Go function 11 does, as a tree of conditions (printed by a tool of this claim, proved by the kernel). Conditions: none. -/
set_option maxRecDepth 100000
namespace Go.Proofs.Ytbiodlomlendkaa.Sx
open Go
def treePePeel : M (V × St) :=
(.loop 0 1 6 [(.num 0), (.num 1), (.bol true), (.num 0), (.c1 .len (.var 0)), .nil] [((.c2 .le (.num 0) (.var 1)), true), ((.c2 .le (.var 1) (.num 8)), true), ((.c2 .le (.num 0) (.var 2)), true), ((.c2 .le (.var 2) (.num 6)), true), ((.c2 .le (.num 0) (.var 4)), true), ((.c2 .le (.num 0) (.var 5)), true), ((.c2 .eq (.c2 .add (.var 4) (.var 5)) (.c1 .len (.var 0))), true), ((.c2 .eq (.c1 .len (.var 6)) (.c2 .mul (.var 1) (.num 73))), true), ((.c1 (.kin [.u8, .u8, .u8, .u8, .u8, .u8, .u8, .u8, .u8, .u8, .u8, .u8, .u8, .u16, .u8, .u16, .u16, .u8, .u8, .u8, .u16, .u8, .u8, .u8, .u8, .u8, .u8, .u8, .u8, .u8, .u32, .u8, .u8, .u8, .u8, .u8, .u8, .u8, .u8, .u8, .u8, .u8, .u8, .u8, .u8, .u8, .u8, .u8, .u8, .u8, .u8, .u8, .u8, .u8, .u8, .u8, .u8, .u8, .u8, .u8, .u8, .u8, .u8, .u8, .u8, .u16, .u16, .u32, .u32, .u8, .u16, .u16, .u16]) (.var 6)), true)]
 (.split (.var 3)
  (.split (.c2 .eq (.var 1) (.num 8))
   (.ret (.t [.c (.sn), .c (.sn), .c (.i .i64 (.num 3))], ⟨[], [], 4, 7, []⟩))
   (.split (.c2 .eq (.var 2) (.num 0))
    (.fail 152)
    (.split (.c2 .eq (.var 2) (.num 1))
     (.chk (.c1 (.kin [.u8]) (.c2 .drop (.var 4) (.var 0)))
     (.split (.c1 .not (.c2 .eq (.fn 21 (.c2 .drop (.var 4) (.var 0)) .nil .nil) (.num 0)))
      (.ret (.t [.c (.sn), .c (.sn), .c (.i .i64 (.fn 21 (.c2 .drop (.var 4) (.var 0)) .nil .nil))], ⟨[], [], 65, 7, []⟩))
      (.chk (.c2 .le (.num 14) (.var 5))
      (.back 0 1 [(.c2 .add (.var 1) (.num 1)), (.wr .u8 (.fn 54 (.cons (.var 2) (.cons (.wr .u8 (.c2 .rd (.fn 11 (.c2 .drop (.var 4) (.var 0)) .nil .nil) (.num 0))) (.cons (.wr .u8 (.c2 .rd (.fn 11 (.c2 .drop (.var 4) (.var 0)) .nil .nil) (.num 1))) (.cons (.wr .u8 (.c2 .rd (.fn 11 (.c2 .drop (.var 4) (.var 0)) .nil .nil) (.num 2))) (.cons (.wr .u8 (.c2 .rd (.fn 11 (.c2 .drop (.var 4) (.var 0)) .nil .nil) (.num 3))) (.cons (.wr .u8 (.c2 .rd (.fn 11 (.c2 .drop (.var 4) (.var 0)) .nil .nil) (.num 4))) (.cons (.wr .u8 (.c2 .rd (.fn 11 (.c2 .drop (.var 4) (.var 0)) .nil .nil) (.num 5))) (.cons (.wr .u8 (.c2 .rd (.fn 11 (.c2 .drop (.var 4) (.var 0)) .nil .nil) (.num 6))) (.cons (.wr .u8 (.c2 .rd (.fn 11 (.c2 .drop (.var 4) (.var 0)) .nil .nil) (.num 7))) (.cons (.wr .u8 (.c2 .rd (.fn 11 (.c2 .drop (.var 4) (.var 0)) .nil .nil) (.num 8))) (.cons (.wr .u8 (.c2 .rd (.fn 11 (.c2 .drop (.var 4) (.var 0)) .nil .nil) (.num 9))) (.cons (.wr .u8 (.c2 .rd (.fn 11 (.c2 .drop (.var 4) (.var 0)) .nil .nil) (.num 10))) (.cons (.wr .u8 (.c2 .rd (.fn 11 (.c2 .drop (.var 4) (.var 0)) .nil .nil) (.num 11))) (.cons (.wr .u16 (.c2 .rd (.fn 11 (.c2 .drop (.var 4) (.var 0)) .nil .nil) (.num 12))) (.cons (.num 0) (.cons (.num 0) (.cons (.num 0) (.cons (.num 0) (.cons (.num 0) (.cons (.num 0) (.cons (.num 0) (.cons (.num 0) (.cons (.num 0) (.cons (.num 0) (.cons (.num 0) (.cons (.num 0) (.cons (.num 0) (.cons (.num 0) (.cons (.num 0) (.cons (.num 0) (.cons (.num 0) (.cons (.num 0) (.cons (.num 0) (.cons (.num 0) (.cons (.num 0) (.cons (.num 0) (.cons (.num 0) (.cons (.num 0) (.cons (.num 0) (.cons (.num 0) (.cons (.num 0) (.cons (.num 0) (.cons (.num 0) (.cons (.num 0) (.cons (.num 0) (.cons (.num 0) (.cons (.num 0) (.cons (.num 0) (.cons (.num 0) (.cons (.num 0) (.cons (.num 0) (.cons (.num 0) (.cons (.num 0) (.cons (.num 0) (.cons (.num 0) (.cons (.num 0) (.cons (.num 0) (.cons (.num 0) (.cons (.num 0) (.cons (.num 0) (.cons (.num 0) (.cons (.num 0) (.cons (.num 0) (.cons (.num 0) (.cons (.num 0) (.cons (.num 0) (.cons (.num 0) (.cons (.num 0) (.cons (.num 0) (.cons (.num 0) (.cons (.num 0) (.cons (.num 0) (.cons (.num 0) .nil))))))))))))))))))))))))))))))))))))))))))))))))))))))))))))))))))))))))) .nil .nil)), (.c1 .not (.c2 .eq (.wr .u8 (.fn 54 (.cons (.var 2) (.cons (.wr .u8 (.c2 .rd (.fn 11 (.c2 .drop (.var 4) (.var 0)) .nil .nil) (.num 0))) (.cons (.wr .u8 (.c2 .rd (.fn 11 (.c2 .drop (.var 4) (.var 0)) .nil .nil) (.num 1))) (.cons (.wr .u8 (.c2 .rd (.fn 11 (.c2 .drop (.var 4) (.var 0)) .nil .nil) (.num 2))) (.cons (.wr .u8 (.c2 .rd (.fn 11 (.c2 .drop (.var 4) (.var 0)) .nil .nil) (.num 3))) (.cons (.wr .u8 (.c2 .rd (.fn 11 (.c2 .drop (.var 4) (.var 0)) .nil .nil) (.num 4))) (.cons (.wr .u8 (.c2 .rd (.fn 11 (.c2 .drop (.var 4) (.var 0)) .nil .nil) (.num 5))) (.cons (.wr .u8 (.c2 .rd (.fn 11 (.c2 .drop (.var 4) (.var 0)) .nil .nil) (.num 6))) (.cons (.wr .u8 (.c2 .rd (.fn 11 (.c2 .drop (.var 4) (.var 0)) .nil .nil) (.num 7))) (.cons (.wr .u8 (.c2 .rd (.fn 11 (.c2 .drop (.var 4) (.var 0)) .nil .nil) (.num 8))) (.cons (.wr .u8 (.c2 .rd (.fn 11 (.c2 .drop (.var 4) (.var 0)) .nil .nil) (.num 9))) (.cons (.wr .u8 (.c2 .rd (.fn 11 (.c2 .drop (.var 4) (.var 0)) .nil .nil) (.num 10))) (.cons (.wr .u8 (.c2 .rd (.fn 11 (.c2 .drop (.var 4) (.var 0)) .nil .nil) (.num 11))) (.cons (.wr .u16 (.c2 .rd (.fn 11 (.c2 .drop (.var 4) (.var 0)) .nil .nil) (.num 12))) (.cons (.num 0) (.cons (.num 0) (.cons (.num 0) (.cons (.num 0) (.cons (.num 0) (.cons (.num 0) (.cons (.num 0) (.cons (.num 0) (.cons (.num 0) (.cons (.num 0) (.cons (.num 0) (.cons (.num 0) (.cons (.num 0) (.cons (.num 0) (.cons (.num 0) (.cons (.num 0) (.cons (.num 0) (.cons (.num 0) (.cons (.num 0) (.cons (.num 0) (.cons (.num 0) (.cons (.num 0) (.cons (.num 0) (.cons (.num 0) (.cons (.num 0) (.cons (.num 0) (.cons (.num 0) (.cons (.num 0) (.cons (.num 0) (.cons (.num 0) (.cons (.num 0) (.cons (.num 0) (.cons (.num 0) (.cons (.num 0) (.cons (.num 0) (.cons (.num 0) (.cons (.num 0) (.cons (.num 0) (.cons (.num 0) (.cons (.num 0) (.cons (.num 0) (.cons (.num 0) (.cons (.num 0) (.cons (.num 0) (.cons (.num 0) (.cons (.num 0) (.cons (.num 0) (.cons (.num 0) (.cons (.num 0) (.cons (.num 0) (.cons (.num 0) (.cons (.num 0) (.cons (.num 0) (.cons (.num 0) (.cons (.num 0) (.cons (.num 0) (.cons (.num 0) (.cons (.num 0) (.cons (.num 0) .nil))))))))))))))))))))))))))))))))))))))))))))))))))))))))))))))))))))))))) .nil .nil)) (.num 0))), (.c2 .add (.var 4) (.num 14)), (.c2 .sub (.var 5) (.num 14)), (.c2 .app (.c2 .take (.c2 .mul (.var 1) (.num 73)) (.var 6)) (.cons (.var 2) (.cons (.wr .u8 (.c2 .rd (.fn 11 (.c2 .drop (.var 4) (.var 0)) .nil .nil) (.num 0))) (.cons (.wr .u8 (.c2 .rd (.fn 11 (.c2 .drop (.var 4) (.var 0)) .nil .nil) (.num 1))) (.cons (.wr .u8 (.c2 .rd (.fn 11 (.c2 .drop (.var 4) (.var 0)) .nil .nil) (.num 2))) (.cons (.wr .u8 (.c2 .rd (.fn 11 (.c2 .drop (.var 4) (.var 0)) .nil .nil) (.num 3))) (.cons (.wr .u8 (.c2 .rd (.fn 11 (.c2 .drop (.var 4) (.var 0)) .nil .nil) (.num 4))) (.cons (.wr .u8 (.c2 .rd (.fn 11 (.c2 .drop (.var 4) (.var 0)) .nil .nil) (.num 5))) (.cons (.wr .u8 (.c2 .rd (.fn 11 (.c2 .drop (.var 4) (.var 0)) .nil .nil) (.num 6))) (.cons (.wr .u8 (.c2 .rd (.fn 11 (.c2 .drop (.var 4) (.var 0)) .nil .nil) (.num 7))) (.cons (.wr .u8 (.c2 .rd (.fn 11 (.c2 .drop (.var 4) (.var 0)) .nil .nil) (.num 8))) (.cons (.wr .u8 (.c2 .rd (.fn 11 (.c2 .drop (.var 4) (.var 0)) .nil .nil) (.num 9))) (.cons (.wr .u8 (.c2 .rd (.fn 11 (.c2 .drop (.var 4) (.var 0)) .nil .nil) (.num 10))) (.cons (.wr .u8 (.c2 .rd (.fn 11 (.c2 .drop (.var 4) (.var 0)) .nil .nil) (.num 11))) (.cons (.wr .u16 (.c2 .rd (.fn 11 (.c2 .drop (.var 4) (.var 0)) .nil .nil) (.num 12))) (.cons (.num 0) (.cons (.num 0) (.cons (.num 0) (.cons (.num 0) (.cons (.num 0) (.cons (.num 0) (.cons (.num 0) (.cons (.num 0) (.cons (.num 0) (.cons (.num 0) (.cons (.num 0) (.cons (.num 0) (.cons (.num 0) (.cons (.num 0) (.cons (.num 0) (.cons (.num 0) (.cons (.num 0) (.cons (.num 0) (.cons (.num 0) (.cons (.num 0) (.cons (.num 0) (.cons (.num 0) (.cons (.num 0) (.cons (.num 0) (.cons (.num 0) (.cons (.num 0) (.cons (.num 0) (.cons (.num 0) (.cons (.num 0) (.cons (.num 0) (.cons (.num 0) (.cons (.num 0) (.cons (.num 0) (.cons (.num 0) (.cons (.num 0) (.cons (.num 0) (.cons (.num 0) (.cons (.num 0) (.cons (.num 0) (.cons (.num 0) (.cons (.num 0) (.cons (.num 0) (.cons (.num 0) (.cons (.num 0) (.cons (.num 0) (.cons (.num 0) (.cons (.num 0) (.cons (.num 0) (.cons (.num 0) (.cons (.num 0) (.cons (.num 0) (.cons (.num 0) (.cons (.num 0) (.cons (.num 0) (.cons (.num 0) (.cons (.num 0) (.cons (.num 0) (.cons (.num 0) (.cons (.num 0) .nil))))))))))))))))))))))))))))))))))))))))))))))))))))))))))))))))))))))))))]))))
     (.split (.c2 .eq (.var 2) (.num 2))
      (.chk (.c1 (.kin [.u8]) (.c2 .drop (.var 4) (.var 0)))
      (.split (.c1 .not (.c2 .eq (.fn 22 (.c2 .drop (.var 4) (.var 0)) .nil .nil) (.num 0)))
       (.ret (.t [.c (.sn), .c (.sn), .c (.i .i64 (.fn 22 (.c2 .drop (.var 4) (.var 0)) .nil .nil))], ⟨[], [], 65, 7, []⟩))
       (.chk (.c2 .le (.num 4) (.var 5))
       (.back 0 1 [(.c2 .add (.var 1) (.num 1)), (.wr .u8 (.fn 54 (.cons (.var 2) (.cons (.num 0) (.cons (.num 0) (.cons (.num 0) (.cons (.num 0) (.cons (.num 0) (.cons (.num 0) (.cons (.num 0) (.cons (.num 0) (.cons (.num 0) (.cons (.num 0) (.cons (.num 0) (.cons (.num 0) (.cons (.num 0) (.cons (.wr .u8 (.c2 .rd (.fn 12 (.c2 .drop (.var 4) (.var 0)) .nil .nil) (.num 0))) (.cons (.wr .u16 (.c2 .rd (.fn 12 (.c2 .drop (.var 4) (.var 0)) .nil .nil) (.num 1))) (.cons (.wr .u16 (.c2 .rd (.fn 12 (.c2 .drop (.var 4) (.var 0)) .nil .nil) (.num 2))) (.cons (.num 0) (.cons (.num 0) (.cons (.num 0) (.cons (.num 0) (.cons (.num 0) (.cons (.num 0) (.cons (.num 0) (.cons (.num 0) (.cons (.num 0) (.cons (.num 0) (.cons (.num 0) (.cons (.num 0) (.cons (.num 0) (.cons (.num 0) (.cons (.num 0) (.cons (.num 0) (.cons (.num 0) (.cons (.num 0) (.cons (.num 0) (.cons (.num 0) (.cons (.num 0) (.cons (.num 0) (.cons (.num 0) (.cons (.num 0) (.cons (.num 0) (.cons (.num 0) (.cons (.num 0) (.cons (.num 0) (.cons (.num 0) (.cons (.num 0) (.cons (.num 0) (.cons (.num 0) (.cons (.num 0) (.cons (.num 0) (.cons (.num 0) (.cons (.num 0) (.cons (.num 0) (.cons (.num 0) (.cons (.num 0) (.cons (.num 0) (.cons (.num 0) (.cons (.num 0) (.cons (.num 0) (.cons (.num 0) (.cons (.num 0) (.cons (.num 0) (.cons (.num 0) (.cons (.num 0) (.cons (.num 0) (.cons (.num 0) (.cons (.num 0) (.cons (.num 0) (.cons (.num 0) (.cons (.num 0) (.cons (.num 0) (.cons (.num 0) .nil))))))))))))))))))))))))))))))))))))))))))))))))))))))))))))))))))))))))) .nil .nil)), (.c1 .not (.c2 .eq (.wr .u8 (.fn 54 (.cons (.var 2) (.cons (.num 0) (.cons (.num 0) (.cons (.num 0) (.cons (.num 0) (.cons (.num 0) (.cons (.num 0) (.cons (.num 0) (.cons (.num 0) (.cons (.num 0) (.cons (.num 0) (.cons (.num 0) (.cons (.num 0) (.cons (.num 0) (.cons (.wr .u8 (.c2 .rd (.fn 12 (.c2 .drop (.var 4) (.var 0)) .nil .nil) (.num 0))) (.cons (.wr .u16 (.c2 .rd (.fn 12 (.c2 .drop (.var 4) (.var 0)) .nil .nil) (.num 1))) (.cons (.wr .u16 (.c2 .rd (.fn 12 (.c2 .drop (.var 4) (.var 0)) .nil .nil) (.num 2))) (.cons (.num 0) (.cons (.num 0) (.cons (.num 0) (.cons (.num 0) (.cons (.num 0) (.cons (.num 0) (.cons (.num 0) (.cons (.num 0) (.cons (.num 0) (.cons (.num 0) (.cons (.num 0) (.cons (.num 0) (.cons (.num 0) (.cons (.num 0) (.cons (.num 0) (.cons (.num 0) (.cons (.num 0) (.cons (.num 0) (.cons (.num 0) (.cons (.num 0) (.cons (.num 0) (.cons (.num 0) (.cons (.num 0) (.cons (.num 0) (.cons (.num 0) (.cons (.num 0) (.cons (.num 0) (.cons (.num 0) (.cons (.num 0) (.cons (.num 0) (.cons (.num 0) (.cons (.num 0) (.cons (.num 0) (.cons (.num 0) (.cons (.num 0) (.cons (.num 0) (.cons (.num 0) (.cons (.num 0) (.cons (.num 0) (.cons (.num 0) (.cons (.num 0) (.cons (.num 0) (.cons (.num 0) (.cons (.num 0) (.cons (.num 0) (.cons (.num 0) (.cons (.num 0) (.cons (.num 0) (.cons (.num 0) (.cons (.num 0) (.cons (.num 0) (.cons (.num 0) (.cons (.num 0) (.cons (.num 0) (.cons (.num 0) (.cons (.num 0) .nil))))))))))))))))))))))))))))))))))))))))))))))))))))))))))))))))))))))))) .nil .nil)) (.num 0))), (.c2 .add (.var 4) (.num 4)), (.c2 .sub (.var 5) (.num 4)), (.c2 .app (.c2 .take (.c2 .mul (.var 1) (.num 73)) (.var 6)) (.cons (.var 2) (.cons (.num 0) (.cons (.num 0) (.cons (.num 0) (.cons (.num 0) (.cons (.num 0) (.cons (.num 0) (.cons (.num 0) (.cons (.num 0) (.cons (.num 0) (.cons (.num 0) (.cons (.num 0) (.cons (.num 0) (.cons (.num 0) (.cons (.wr .u8 (.c2 .rd (.fn 12 (.c2 .drop (.var 4) (.var 0)) .nil .nil) (.num 0))) (.cons (.wr .u16 (.c2 .rd (.fn 12 (.c2 .drop (.var 4) (.var 0)) .nil .nil) (.num 1))) (.cons (.wr .u16 (.c2 .rd (.fn 12 (.c2 .drop (.var 4) (.var 0)) .nil .nil) (.num 2))) (.cons (.num 0) (.cons (.num 0) (.cons (.num 0) (.cons (.num 0) (.cons (.num 0) (.cons (.num 0) (.cons (.num 0) (.cons (.num 0) (.cons (.num 0) (.cons (.num 0) (.cons (.num 0) (.cons (.num 0) (.cons (.num 0) (.cons (.num 0) (.cons (.num 0) (.cons (.num 0) (.cons (.num 0) (.cons (.num 0) (.cons (.num 0) (.cons (.num 0) (.cons (.num 0) (.cons (.num 0) (.cons (.num 0) (.cons (.num 0) (.cons (.num 0) (.cons (.num 0) (.cons (.num 0) (.cons (.num 0) (.cons (.num 0) (.cons (.num 0) (.cons (.num 0) (.cons (.num 0) (.cons (.num 0) (.cons (.num 0) (.cons (.num 0) (.cons (.num 0) (.cons (.num 0) (.cons (.num 0) (.cons (.num 0) (.cons (.num 0) (.cons (.num 0) (.cons (.num 0) (.cons (.num 0) (.cons (.num 0) (.cons (.num 0) (.cons (.num 0) (.cons (.num 0) (.cons (.num 0) (.cons (.num 0) (.cons (.num 0) (.cons (.num 0) (.cons (.num 0) (.cons (.num 0) (.cons (.num 0) (.cons (.num 0) (.cons (.num 0) .nil))))))))))))))))))))))))))))))))))))))))))))))))))))))))))))))))))))))))))]))))
      (.split (.c2 .eq (.var 2) (.num 3))
       (.chk (.c1 (.kin [.u8]) (.c2 .drop (.var 4) (.var 0)))
       (.split (.c1 .not (.c2 .eq (.fn 23 (.c2 .drop (.var 4) (.var 0)) .nil .nil) (.num 0)))
        (.ret (.t [.c (.sn), .c (.sn), .c (.i .i64 (.fn 23 (.c2 .drop (.var 4) (.var 0)) .nil .nil))], ⟨[], [], 65, 7, []⟩))
        (.chk (.c2 .le (.num 20) (.var 5))
        (.back 0 1 [(.c2 .add (.var 1) (.num 1)), (.wr .u8 (.fn 54 (.cons (.var 2) (.cons (.num 0) (.cons (.num 0) (.cons (.num 0) (.cons (.num 0) (.cons (.num 0) (.cons (.num 0) (.cons (.num 0) (.cons (.num 0) (.cons (.num 0) (.cons (.num 0) (.cons (.num 0) (.cons (.num 0) (.cons (.num 0) (.cons (.num 0) (.cons (.num 0) (.cons (.num 0) (.cons (.wr .u8 (.c2 .rd (.fn 13 (.c2 .drop (.var 4) (.var 0)) .nil .nil) (.num 0))) (.cons (.wr .u8 (.c2 .rd (.fn 13 (.c2 .drop (.var 4) (.var 0)) .nil .nil) (.num 1))) (.cons (.wr .u8 (.c2 .rd (.fn 13 (.c2 .drop (.var 4) (.var 0)) .nil .nil) (.num 2))) (.cons (.wr .u16 (.c2 .rd (.fn 13 (.c2 .drop (.var 4) (.var 0)) .nil .nil) (.num 3))) (.cons (.wr .u8 (.c2 .rd (.fn 13 (.c2 .drop (.var 4) (.var 0)) .nil .nil) (.num 4))) (.cons (.wr .u8 (.c2 .rd (.fn 13 (.c2 .drop (.var 4) (.var 0)) .nil .nil) (.num 5))) (.cons (.wr .u8 (.c2 .rd (.fn 13 (.c2 .drop (.var 4) (.var 0)) .nil .nil) (.num 6))) (.cons (.wr .u8 (.c2 .rd (.fn 13 (.c2 .drop (.var 4) (.var 0)) .nil .nil) (.num 7))) (.cons (.wr .u8 (.c2 .rd (.fn 13 (.c2 .drop (.var 4) (.var 0)) .nil .nil) (.num 8))) (.cons (.wr .u8 (.c2 .rd (.fn 13 (.c2 .drop (.var 4) (.var 0)) .nil .nil) (.num 9))) (.cons (.wr .u8 (.c2 .rd (.fn 13 (.c2 .drop (.var 4) (.var 0)) .nil .nil) (.num 10))) (.cons (.wr .u8 (.c2 .rd (.fn 13 (.c2 .drop (.var 4) (.var 0)) .nil .nil) (.num 11))) (.cons (.num 0) (.cons (.num 0) (.cons (.num 0) (.cons (.num 0) (.cons (.num 0) (.cons (.num 0) (.cons (.num 0) (.cons (.num 0) (.cons (.num 0) (.cons (.num 0) (.cons (.num 0) (.cons (.num 0) (.cons (.num 0) (.cons (.num 0) (.cons (.num 0) (.cons (.num 0) (.cons (.num 0) (.cons (.num 0) (.cons (.num 0) (.cons (.num 0) (.cons (.num 0) (.cons (.num 0) (.cons (.num 0) (.cons (.num 0) (.cons (.num 0) (.cons (.num 0) (.cons (.num 0) (.cons (.num 0) (.cons (.num 0) (.cons (.num 0) (.cons (.num 0) (.cons (.num 0) (.cons (.num 0) (.cons (.num 0) (.cons (.num 0) (.cons (.num 0) (.cons (.num 0) (.cons (.num 0) (.cons (.num 0) (.cons (.num 0) (.cons (.num 0) (.cons (.num 0) (.cons (.num 0) (.cons (.num 0) .nil))))))))))))))))))))))))))))))))))))))))))))))))))))))))))))))))))))))))) .nil .nil)), (.c1 .not (.c2 .eq (.wr .u8 (.fn 54 (.cons (.var 2) (.cons (.num 0) (.cons (.num 0) (.cons (.num 0) (.cons (.num 0) (.cons (.num 0) (.cons (.num 0) (.cons (.num 0) (.cons (.num 0) (.cons (.num 0) (.cons (.num 0) (.cons (.num 0) (.cons (.num 0) (.cons (.num 0) (.cons (.num 0) (.cons (.num 0) (.cons (.num 0) (.cons (.wr .u8 (.c2 .rd (.fn 13 (.c2 .drop (.var 4) (.var 0)) .nil .nil) (.num 0))) (.cons (.wr .u8 (.c2 .rd (.fn 13 (.c2 .drop (.var 4) (.var 0)) .nil .nil) (.num 1))) (.cons (.wr .u8 (.c2 .rd (.fn 13 (.c2 .drop (.var 4) (.var 0)) .nil .nil) (.num 2))) (.cons (.wr .u16 (.c2 .rd (.fn 13 (.c2 .drop (.var 4) (.var 0)) .nil .nil) (.num 3))) (.cons (.wr .u8 (.c2 .rd (.fn 13 (.c2 .drop (.var 4) (.var 0)) .nil .nil) (.num 4))) (.cons (.wr .u8 (.c2 .rd (.fn 13 (.c2 .drop (.var 4) (.var 0)) .nil .nil) (.num 5))) (.cons (.wr .u8 (.c2 .rd (.fn 13 (.c2 .drop (.var 4) (.var 0)) .nil .nil) (.num 6))) (.cons (.wr .u8 (.c2 .rd (.fn 13 (.c2 .drop (.var 4) (.var 0)) .nil .nil) (.num 7))) (.cons (.wr .u8 (.c2 .rd (.fn 13 (.c2 .drop (.var 4) (.var 0)) .nil .nil) (.num 8))) (.cons (.wr .u8 (.c2 .rd (.fn 13 (.c2 .drop (.var 4) (.var 0)) .nil .nil) (.num 9))) (.cons (.wr .u8 (.c2 .rd (.fn 13 (.c2 .drop (.var 4) (.var 0)) .nil .nil) (.num 10))) (.cons (.wr .u8 (.c2 .rd (.fn 13 (.c2 .drop (.var 4) (.var 0)) .nil .nil) (.num 11))) (.cons (.num 0) (.cons (.num 0) (.cons (.num 0) (.cons (.num 0) (.cons (.num 0) (.cons (.num 0) (.cons (.num 0) (.cons (.num 0) (.cons (.num 0) (.cons (.num 0) (.cons (.num 0) (.cons (.num 0) (.cons (.num 0) (.cons (.num 0) (.cons (.num 0) (.cons (.num 0) (.cons (.num 0) (.cons (.num 0) (.cons (.num 0) (.cons (.num 0) (.cons (.num 0) (.cons (.num 0) (.cons (.num 0) (.cons (.num 0) (.cons (.num 0) (.cons (.num 0) (.cons (.num 0) (.cons (.num 0) (.cons (.num 0) (.cons (.num 0) (.cons (.num 0) (.cons (.num 0) (.cons (.num 0) (.cons (.num 0) (.cons (.num 0) (.cons (.num 0) (.cons (.num 0) (.cons (.num 0) (.cons (.num 0) (.cons (.num 0) (.cons (.num 0) (.cons (.num 0) (.cons (.num 0) (.cons (.num 0) .nil))))))))))))))))))))))))))))))))))))))))))))))))))))))))))))))))))))))))) .nil .nil)) (.num 0))), (.c2 .add (.var 4) (.num 20)), (.c2 .sub (.var 5) (.num 20)), (.c2 .app (.c2 .take (.c2 .mul (.var 1) (.num 73)) (.var 6)) (.cons (.var 2) (.cons (.num 0) (.cons (.num 0) (.cons (.num 0) (.cons (.num 0) (.cons (.num 0) (.cons (.num 0) (.cons (.num 0) (.cons (.num 0) (.cons (.num 0) (.cons (.num 0) (.cons (.num 0) (.cons (.num 0) (.cons (.num 0) (.cons (.num 0) (.cons (.num 0) (.cons (.num 0) (.cons (.wr .u8 (.c2 .rd (.fn 13 (.c2 .drop (.var 4) (.var 0)) .nil .nil) (.num 0))) (.cons (.wr .u8 (.c2 .rd (.fn 13 (.c2 .drop (.var 4) (.var 0)) .nil .nil) (.num 1))) (.cons (.wr .u8 (.c2 .rd (.fn 13 (.c2 .drop (.var 4) (.var 0)) .nil .nil) (.num 2))) (.cons (.wr .u16 (.c2 .rd (.fn 13 (.c2 .drop (.var 4) (.var 0)) .nil .nil) (.num 3))) (.cons (.wr .u8 (.c2 .rd (.fn 13 (.c2 .drop (.var 4) (.var 0)) .nil .nil) (.num 4))) (.cons (.wr .u8 (.c2 .rd (.fn 13 (.c2 .drop (.var 4) (.var 0)) .nil .nil) (.num 5))) (.cons (.wr .u8 (.c2 .rd (.fn 13 (.c2 .drop (.var 4) (.var 0)) .nil .nil) (.num 6))) (.cons (.wr .u8 (.c2 .rd (.fn 13 (.c2 .drop (.var 4) (.var 0)) .nil .nil) (.num 7))) (.cons (.wr .u8 (.c2 .rd (.fn 13 (.c2 .drop (.var 4) (.var 0)) .nil .nil) (.num 8))) (.cons (.wr .u8 (.c2 .rd (.fn 13 (.c2 .drop (.var 4) (.var 0)) .nil .nil) (.num 9))) (.cons (.wr .u8 (.c2 .rd (.fn 13 (.c2 .drop (.var 4) (.var 0)) .nil .nil) (.num 10))) (.cons (.wr .u8 (.c2 .rd (.fn 13 (.c2 .drop (.var 4) (.var 0)) .nil .nil) (.num 11))) (.cons (.num 0) (.cons (.num 0) (.cons (.num 0) (.cons (.num 0) (.cons (.num 0) (.cons (.num 0) (.cons (.num 0) (.cons (.num 0) (.cons (.num 0) (.cons (.num 0) (.cons (.num 0) (.cons (.num 0) (.cons (.num 0) (.cons (.num 0) (.cons (.num 0) (.cons (.num 0) (.cons (.num 0) (.cons (.num 0) (.cons (.num 0) (.cons (.num 0) (.cons (.num 0) (.cons (.num 0) (.cons (.num 0) (.cons (.num 0) (.cons (.num 0) (.cons (.num 0) (.cons (.num 0) (.cons (.num 0) (.cons (.num 0) (.cons (.num 0) (.cons (.num 0) (.cons (.num 0) (.cons (.num 0) (.cons (.num 0) (.cons (.num 0) (.cons (.num 0) (.cons (.num 0) (.cons (.num 0) (.cons (.num 0) (.cons (.num 0) (.cons (.num 0) (.cons (.num 0) (.cons (.num 0) (.cons (.num 0) .nil))))))))))))))))))))))))))))))))))))))))))))))))))))))))))))))))))))))))))]))))
       (.split (.c2 .eq (.var 2) (.num 4))
        (.chk (.c1 (.kin [.u8]) (.c2 .drop (.var 4) (.var 0)))
        (.split (.c1 .not (.c2 .eq (.fn 24 (.c2 .drop (.var 4) (.var 0)) .nil .nil) (.num 0)))
         (.ret (.t [.c (.sn), .c (.sn), .c (.i .i64 (.fn 24 (.c2 .drop (.var 4) (.var 0)) .nil .nil))], ⟨[], [], 65, 7, []⟩))
         (.chk (.c2 .le (.num 40) (.var 5))
         (.back 0 1 [(.c2 .add (.var 1) (.num 1)), (.wr .u8 (.fn 54 (.cons (.var 2) (.cons (.num 0) (.cons (.num 0) (.cons (.num 0) (.cons (.num 0) (.cons (.num 0) (.cons (.num 0) (.cons (.num 0) (.cons (.num 0) (.cons (.num 0) (.cons (.num 0) (.cons (.num 0) (.cons (.num 0) (.cons (.num 0) (.cons (.num 0) (.cons (.num 0) (.cons (.num 0) (.cons (.num 0) (.cons (.num 0) (.cons (.num 0) (.cons (.num 0) (.cons (.num 0) (.cons (.num 0) (.cons (.num 0) (.cons (.num 0) (.cons (.num 0) (.cons (.num 0) (.cons (.num 0) (.cons (.num 0) (.cons (.wr .u8 (.c2 .rd (.fn 14 (.c2 .drop (.var 4) (.var 0)) .nil .nil) (.num 0))) (.cons (.wr .u32 (.c2 .rd (.fn 14 (.c2 .drop (.var 4) (.var 0)) .nil .nil) (.num 1))) (.cons (.wr .u8 (.c2 .rd (.fn 14 (.c2 .drop (.var 4) (.var 0)) .nil .nil) (.num 2))) (.cons (.wr .u8 (.c2 .rd (.fn 14 (.c2 .drop (.var 4) (.var 0)) .nil .nil) (.num 3))) (.cons (.wr .u8 (.c2 .rd (.fn 14 (.c2 .drop (.var 4) (.var 0)) .nil .nil) (.num 4))) (.cons (.wr .u8 (.c2 .rd (.fn 14 (.c2 .drop (.var 4) (.var 0)) .nil .nil) (.num 5))) (.cons (.wr .u8 (.c2 .rd (.fn 14 (.c2 .drop (.var 4) (.var 0)) .nil .nil) (.num 6))) (.cons (.wr .u8 (.c2 .rd (.fn 14 (.c2 .drop (.var 4) (.var 0)) .nil .nil) (.num 7))) (.cons (.wr .u8 (.c2 .rd (.fn 14 (.c2 .drop (.var 4) (.var 0)) .nil .nil) (.num 8))) (.cons (.wr .u8 (.c2 .rd (.fn 14 (.c2 .drop (.var 4) (.var 0)) .nil .nil) (.num 9))) (.cons (.wr .u8 (.c2 .rd (.fn 14 (.c2 .drop (.var 4) (.var 0)) .nil .nil) (.num 10))) (.cons (.wr .u8 (.c2 .rd (.fn 14 (.c2 .drop (.var 4) (.var 0)) .nil .nil) (.num 11))) (.cons (.wr .u8 (.c2 .rd (.fn 14 (.c2 .drop (.var 4) (.var 0)) .nil .nil) (.num 12))) (.cons (.wr .u8 (.c2 .rd (.fn 14 (.c2 .drop (.var 4) (.var 0)) .nil .nil) (.num 13))) (.cons (.wr .u8 (.c2 .rd (.fn 14 (.c2 .drop (.var 4) (.var 0)) .nil .nil) (.num 14))) (.cons (.wr .u8 (.c2 .rd (.fn 14 (.c2 .drop (.var 4) (.var 0)) .nil .nil) (.num 15))) (.cons (.wr .u8 (.c2 .rd (.fn 14 (.c2 .drop (.var 4) (.var 0)) .nil .nil) (.num 16))) (.cons (.wr .u8 (.c2 .rd (.fn 14 (.c2 .drop (.var 4) (.var 0)) .nil .nil) (.num 17))) (.cons (.wr .u8 (.c2 .rd (.fn 14 (.c2 .drop (.var 4) (.var 0)) .nil .nil) (.num 18))) (.cons (.wr .u8 (.c2 .rd (.fn 14 (.c2 .drop (.var 4) (.var 0)) .nil .nil) (.num 19))) (.cons (.wr .u8 (.c2 .rd (.fn 14 (.c2 .drop (.var 4) (.var 0)) .nil .nil) (.num 20))) (.cons (.wr .u8 (.c2 .rd (.fn 14 (.c2 .drop (.var 4) (.var 0)) .nil .nil) (.num 21))) (.cons (.wr .u8 (.c2 .rd (.fn 14 (.c2 .drop (.var 4) (.var 0)) .nil .nil) (.num 22))) (.cons (.wr .u8 (.c2 .rd (.fn 14 (.c2 .drop (.var 4) (.var 0)) .nil .nil) (.num 23))) (.cons (.wr .u8 (.c2 .rd (.fn 14 (.c2 .drop (.var 4) (.var 0)) .nil .nil) (.num 24))) (.cons (.wr .u8 (.c2 .rd (.fn 14 (.c2 .drop (.var 4) (.var 0)) .nil .nil) (.num 25))) (.cons (.wr .u8 (.c2 .rd (.fn 14 (.c2 .drop (.var 4) (.var 0)) .nil .nil) (.num 26))) (.cons (.wr .u8 (.c2 .rd (.fn 14 (.c2 .drop (.var 4) (.var 0)) .nil .nil) (.num 27))) (.cons (.wr .u8 (.c2 .rd (.fn 14 (.c2 .drop (.var 4) (.var 0)) .nil .nil) (.num 28))) (.cons (.wr .u8 (.c2 .rd (.fn 14 (.c2 .drop (.var 4) (.var 0)) .nil .nil) (.num 29))) (.cons (.wr .u8 (.c2 .rd (.fn 14 (.c2 .drop (.var 4) (.var 0)) .nil .nil) (.num 30))) (.cons (.wr .u8 (.c2 .rd (.fn 14 (.c2 .drop (.var 4) (.var 0)) .nil .nil) (.num 31))) (.cons (.wr .u8 (.c2 .rd (.fn 14 (.c2 .drop (.var 4) (.var 0)) .nil .nil) (.num 32))) (.cons (.wr .u8 (.c2 .rd (.fn 14 (.c2 .drop (.var 4) (.var 0)) .nil .nil) (.num 33))) (.cons (.wr .u8 (.c2 .rd (.fn 14 (.c2 .drop (.var 4) (.var 0)) .nil .nil) (.num 34))) (.cons (.wr .u8 (.c2 .rd (.fn 14 (.c2 .drop (.var 4) (.var 0)) .nil .nil) (.num 35))) (.cons (.num 0) (.cons (.num 0) (.cons (.num 0) (.cons (.num 0) (.cons (.num 0) (.cons (.num 0) (.cons (.num 0) (.cons (.num 0) .nil))))))))))))))))))))))))))))))))))))))))))))))))))))))))))))))))))))))))) .nil .nil)), (.c1 .not (.c2 .eq (.wr .u8 (.fn 54 (.cons (.var 2) (.cons (.num 0) (.cons (.num 0) (.cons (.num 0) (.cons (.num 0) (.cons (.num 0) (.cons (.num 0) (.cons (.num 0) (.cons (.num 0) (.cons (.num 0) (.cons (.num 0) (.cons (.num 0) (.cons (.num 0) (.cons (.num 0) (.cons (.num 0) (.cons (.num 0) (.cons (.num 0) (.cons (.num 0) (.cons (.num 0) (.cons (.num 0) (.cons (.num 0) (.cons (.num 0) (.cons (.num 0) (.cons (.num 0) (.cons (.num 0) (.cons (.num 0) (.cons (.num 0) (.cons (.num 0) (.cons (.num 0) (.cons (.wr .u8 (.c2 .rd (.fn 14 (.c2 .drop (.var 4) (.var 0)) .nil .nil) (.num 0))) (.cons (.wr .u32 (.c2 .rd (.fn 14 (.c2 .drop (.var 4) (.var 0)) .nil .nil) (.num 1))) (.cons (.wr .u8 (.c2 .rd (.fn 14 (.c2 .drop (.var 4) (.var 0)) .nil .nil) (.num 2))) (.cons (.wr .u8 (.c2 .rd (.fn 14 (.c2 .drop (.var 4) (.var 0)) .nil .nil) (.num 3))) (.cons (.wr .u8 (.c2 .rd (.fn 14 (.c2 .drop (.var 4) (.var 0)) .nil .nil) (.num 4))) (.cons (.wr .u8 (.c2 .rd (.fn 14 (.c2 .drop (.var 4) (.var 0)) .nil .nil) (.num 5))) (.cons (.wr .u8 (.c2 .rd (.fn 14 (.c2 .drop (.var 4) (.var 0)) .nil .nil) (.num 6))) (.cons (.wr .u8 (.c2 .rd (.fn 14 (.c2 .drop (.var 4) (.var 0)) .nil .nil) (.num 7))) (.cons (.wr .u8 (.c2 .rd (.fn 14 (.c2 .drop (.var 4) (.var 0)) .nil .nil) (.num 8))) (.cons (.wr .u8 (.c2 .rd (.fn 14 (.c2 .drop (.var 4) (.var 0)) .nil .nil) (.num 9))) (.cons (.wr .u8 (.c2 .rd (.fn 14 (.c2 .drop (.var 4) (.var 0)) .nil .nil) (.num 10))) (.cons (.wr .u8 (.c2 .rd (.fn 14 (.c2 .drop (.var 4) (.var 0)) .nil .nil) (.num 11))) (.cons (.wr .u8 (.c2 .rd (.fn 14 (.c2 .drop (.var 4) (.var 0)) .nil .nil) (.num 12))) (.cons (.wr .u8 (.c2 .rd (.fn 14 (.c2 .drop (.var 4) (.var 0)) .nil .nil) (.num 13))) (.cons (.wr .u8 (.c2 .rd (.fn 14 (.c2 .drop (.var 4) (.var 0)) .nil .nil) (.num 14))) (.cons (.wr .u8 (.c2 .rd (.fn 14 (.c2 .drop (.var 4) (.var 0)) .nil .nil) (.num 15))) (.cons (.wr .u8 (.c2 .rd (.fn 14 (.c2 .drop (.var 4) (.var 0)) .nil .nil) (.num 16))) (.cons (.wr .u8 (.c2 .rd (.fn 14 (.c2 .drop (.var 4) (.var 0)) .nil .nil) (.num 17))) (.cons (.wr .u8 (.c2 .rd (.fn 14 (.c2 .drop (.var 4) (.var 0)) .nil .nil) (.num 18))) (.cons (.wr .u8 (.c2 .rd (.fn 14 (.c2 .drop (.var 4) (.var 0)) .nil .nil) (.num 19))) (.cons (.wr .u8 (.c2 .rd (.fn 14 (.c2 .drop (.var 4) (.var 0)) .nil .nil) (.num 20))) (.cons (.wr .u8 (.c2 .rd (.fn 14 (.c2 .drop (.var 4) (.var 0)) .nil .nil) (.num 21))) (.cons (.wr .u8 (.c2 .rd (.fn 14 (.c2 .drop (.var 4) (.var 0)) .nil .nil) (.num 22))) (.cons (.wr .u8 (.c2 .rd (.fn 14 (.c2 .drop (.var 4) (.var 0)) .nil .nil) (.num 23))) (.cons (.wr .u8 (.c2 .rd (.fn 14 (.c2 .drop (.var 4) (.var 0)) .nil .nil) (.num 24))) (.cons (.wr .u8 (.c2 .rd (.fn 14 (.c2 .drop (.var 4) (.var 0)) .nil .nil) (.num 25))) (.cons (.wr .u8 (.c2 .rd (.fn 14 (.c2 .drop (.var 4) (.var 0)) .nil .nil) (.num 26))) (.cons (.wr .u8 (.c2 .rd (.fn 14 (.c2 .drop (.var 4) (.var 0)) .nil .nil) (.num 27))) (.cons (.wr .u8 (.c2 .rd (.fn 14 (.c2 .drop (.var 4) (.var 0)) .nil .nil) (.num 28))) (.cons (.wr .u8 (.c2 .rd (.fn 14 (.c2 .drop (.var 4) (.var 0)) .nil .nil) (.num 29))) (.cons (.wr .u8 (.c2 .rd (.fn 14 (.c2 .drop (.var 4) (.var 0)) .nil .nil) (.num 30))) (.cons (.wr .u8 (.c2 .rd (.fn 14 (.c2 .drop (.var 4) (.var 0)) .nil .nil) (.num 31))) (.cons (.wr .u8 (.c2 .rd (.fn 14 (.c2 .drop (.var 4) (.var 0)) .nil .nil) (.num 32))) (.cons (.wr .u8 (.c2 .rd (.fn 14 (.c2 .drop (.var 4) (.var 0)) .nil .nil) (.num 33))) (.cons (.wr .u8 (.c2 .rd (.fn 14 (.c2 .drop (.var 4) (.var 0)) .nil .nil) (.num 34))) (.cons (.wr .u8 (.c2 .rd (.fn 14 (.c2 .drop (.var 4) (.var 0)) .nil .nil) (.num 35))) (.cons (.num 0) (.cons (.num 0) (.cons (.num 0) (.cons (.num 0) (.cons (.num 0) (.cons (.num 0) (.cons (.num 0) (.cons (.num 0) .nil))))))))))))))))))))))))))))))))))))))))))))))))))))))))))))))))))))))))) .nil .nil)) (.num 0))), (.c2 .add (.var 4) (.num 40)), (.c2 .sub (.var 5) (.num 40)), (.c2 .app (.c2 .take (.c2 .mul (.var 1) (.num 73)) (.var 6)) (.cons (.var 2) (.cons (.num 0) (.cons (.num 0) (.cons (.num 0) (.cons (.num 0) (.cons (.num 0) (.cons (.num 0) (.cons (.num 0) (.cons (.num 0) (.cons (.num 0) (.cons (.num 0) (.cons (.num 0) (.cons (.num 0) (.cons (.num 0) (.cons (.num 0) (.cons (.num 0) (.cons (.num 0) (.cons (.num 0) (.cons (.num 0) (.cons (.num 0) (.cons (.num 0) (.cons (.num 0) (.cons (.num 0) (.cons (.num 0) (.cons (.num 0) (.cons (.num 0) (.cons (.num 0) (.cons (.num 0) (.cons (.num 0) (.cons (.wr .u8 (.c2 .rd (.fn 14 (.c2 .drop (.var 4) (.var 0)) .nil .nil) (.num 0))) (.cons (.wr .u32 (.c2 .rd (.fn 14 (.c2 .drop (.var 4) (.var 0)) .nil .nil) (.num 1))) (.cons (.wr .u8 (.c2 .rd (.fn 14 (.c2 .drop (.var 4) (.var 0)) .nil .nil) (.num 2))) (.cons (.wr .u8 (.c2 .rd (.fn 14 (.c2 .drop (.var 4) (.var 0)) .nil .nil) (.num 3))) (.cons (.wr .u8 (.c2 .rd (.fn 14 (.c2 .drop (.var 4) (.var 0)) .nil .nil) (.num 4))) (.cons (.wr .u8 (.c2 .rd (.fn 14 (.c2 .drop (.var 4) (.var 0)) .nil .nil) (.num 5))) (.cons (.wr .u8 (.c2 .rd (.fn 14 (.c2 .drop (.var 4) (.var 0)) .nil .nil) (.num 6))) (.cons (.wr .u8 (.c2 .rd (.fn 14 (.c2 .drop (.var 4) (.var 0)) .nil .nil) (.num 7))) (.cons (.wr .u8 (.c2 .rd (.fn 14 (.c2 .drop (.var 4) (.var 0)) .nil .nil) (.num 8))) (.cons (.wr .u8 (.c2 .rd (.fn 14 (.c2 .drop (.var 4) (.var 0)) .nil .nil) (.num 9))) (.cons (.wr .u8 (.c2 .rd (.fn 14 (.c2 .drop (.var 4) (.var 0)) .nil .nil) (.num 10))) (.cons (.wr .u8 (.c2 .rd (.fn 14 (.c2 .drop (.var 4) (.var 0)) .nil .nil) (.num 11))) (.cons (.wr .u8 (.c2 .rd (.fn 14 (.c2 .drop (.var 4) (.var 0)) .nil .nil) (.num 12))) (.cons (.wr .u8 (.c2 .rd (.fn 14 (.c2 .drop (.var 4) (.var 0)) .nil .nil) (.num 13))) (.cons (.wr .u8 (.c2 .rd (.fn 14 (.c2 .drop (.var 4) (.var 0)) .nil .nil) (.num 14))) (.cons (.wr .u8 (.c2 .rd (.fn 14 (.c2 .drop (.var 4) (.var 0)) .nil .nil) (.num 15))) (.cons (.wr .u8 (.c2 .rd (.fn 14 (.c2 .drop (.var 4) (.var 0)) .nil .nil) (.num 16))) (.cons (.wr .u8 (.c2 .rd (.fn 14 (.c2 .drop (.var 4) (.var 0)) .nil .nil) (.num 17))) (.cons (.wr .u8 (.c2 .rd (.fn 14 (.c2 .drop (.var 4) (.var 0)) .nil .nil) (.num 18))) (.cons (.wr .u8 (.c2 .rd (.fn 14 (.c2 .drop (.var 4) (.var 0)) .nil .nil) (.num 19))) (.cons (.wr .u8 (.c2 .rd (.fn 14 (.c2 .drop (.var 4) (.var 0)) .nil .nil) (.num 20))) (.cons (.wr .u8 (.c2 .rd (.fn 14 (.c2 .drop (.var 4) (.var 0)) .nil .nil) (.num 21))) (.cons (.wr .u8 (.c2 .rd (.fn 14 (.c2 .drop (.var 4) (.var 0)) .nil .nil) (.num 22))) (.cons (.wr .u8 (.c2 .rd (.fn 14 (.c2 .drop (.var 4) (.var 0)) .nil .nil) (.num 23))) (.cons (.wr .u8 (.c2 .rd (.fn 14 (.c2 .drop (.var 4) (.var 0)) .nil .nil) (.num 24))) (.cons (.wr .u8 (.c2 .rd (.fn 14 (.c2 .drop (.var 4) (.var 0)) .nil .nil) (.num 25))) (.cons (.wr .u8 (.c2 .rd (.fn 14 (.c2 .drop (.var 4) (.var 0)) .nil .nil) (.num 26))) (.cons (.wr .u8 (.c2 .rd (.fn 14 (.c2 .drop (.var 4) (.var 0)) .nil .nil) (.num 27))) (.cons (.wr .u8 (.c2 .rd (.fn 14 (.c2 .drop (.var 4) (.var 0)) .nil .nil) (.num 28))) (.cons (.wr .u8 (.c2 .rd (.fn 14 (.c2 .drop (.var 4) (.var 0)) .nil .nil) (.num 29))) (.cons (.wr .u8 (.c2 .rd (.fn 14 (.c2 .drop (.var 4) (.var 0)) .nil .nil) (.num 30))) (.cons (.wr .u8 (.c2 .rd (.fn 14 (.c2 .drop (.var 4) (.var 0)) .nil .nil) (.num 31))) (.cons (.wr .u8 (.c2 .rd (.fn 14 (.c2 .drop (.var 4) (.var 0)) .nil .nil) (.num 32))) (.cons (.wr .u8 (.c2 .rd (.fn 14 (.c2 .drop (.var 4) (.var 0)) .nil .nil) (.num 33))) (.cons (.wr .u8 (.c2 .rd (.fn 14 (.c2 .drop (.var 4) (.var 0)) .nil .nil) (.num 34))) (.cons (.wr .u8 (.c2 .rd (.fn 14 (.c2 .drop (.var 4) (.var 0)) .nil .nil) (.num 35))) (.cons (.num 0) (.cons (.num 0) (.cons (.num 0) (.cons (.num 0) (.cons (.num 0) (.cons (.num 0) (.cons (.num 0) (.cons (.num 0) .nil))))))))))))))))))))))))))))))))))))))))))))))))))))))))))))))))))))))))))]))))
        (.split (.c2 .eq (.var 2) (.num 5))
         (.chk (.c1 (.kin [.u8]) (.c2 .drop (.var 4) (.var 0)))
         (.split (.c1 .not (.c2 .eq (.fn 25 (.c2 .drop (.var 4) (.var 0)) .nil .nil) (.num 0)))
          (.ret (.t [.c (.sn), .c (.sn), .c (.i .i64 (.fn 25 (.c2 .drop (.var 4) (.var 0)) .nil .nil))], ⟨[], [], 65, 7, []⟩))
          (.chk (.c2 .le (.num 20) (.var 5))
          (.back 0 1 [(.c2 .add (.var 1) (.num 1)), (.wr .u8 (.fn 54 (.cons (.var 2) (.cons (.num 0) (.cons (.num 0) (.cons (.num 0) (.cons (.num 0) (.cons (.num 0) (.cons (.num 0) (.cons (.num 0) (.cons (.num 0) (.cons (.num 0) (.cons (.num 0) (.cons (.num 0) (.cons (.num 0) (.cons (.num 0) (.cons (.num 0) (.cons (.num 0) (.cons (.num 0) (.cons (.num 0) (.cons (.num 0) (.cons (.num 0) (.cons (.num 0) (.cons (.num 0) (.cons (.num 0) (.cons (.num 0) (.cons (.num 0) (.cons (.num 0) (.cons (.num 0) (.cons (.num 0) (.cons (.num 0) (.cons (.num 0) (.cons (.num 0) (.cons (.num 0) (.cons (.num 0) (.cons (.num 0) (.cons (.num 0) (.cons (.num 0) (.cons (.num 0) (.cons (.num 0) (.cons (.num 0) (.cons (.num 0) (.cons (.num 0) (.cons (.num 0) (.cons (.num 0) (.cons (.num 0) (.cons (.num 0) (.cons (.num 0) (.cons (.num 0) (.cons (.num 0) (.cons (.num 0) (.cons (.num 0) (.cons (.num 0) (.cons (.num 0) (.cons (.num 0) (.cons (.num 0) (.cons (.num 0) (.cons (.num 0) (.cons (.num 0) (.cons (.num 0) (.cons (.num 0) (.cons (.num 0) (.cons (.num 0) (.cons (.num 0) (.cons (.num 0) (.cons (.num 0) (.cons (.num 0) (.cons (.wr .u16 (.c2 .rd (.fn 15 (.c2 .drop (.var 4) (.var 0)) .nil .nil) (.num 0))) (.cons (.wr .u16 (.c2 .rd (.fn 15 (.c2 .drop (.var 4) (.var 0)) .nil .nil) (.num 1))) (.cons (.wr .u32 (.c2 .rd (.fn 15 (.c2 .drop (.var 4) (.var 0)) .nil .nil) (.num 2))) (.cons (.wr .u32 (.c2 .rd (.fn 15 (.c2 .drop (.var 4) (.var 0)) .nil .nil) (.num 3))) (.cons (.wr .u8 (.c2 .rd (.fn 15 (.c2 .drop (.var 4) (.var 0)) .nil .nil) (.num 4))) (.cons (.wr .u16 (.c2 .rd (.fn 15 (.c2 .drop (.var 4) (.var 0)) .nil .nil) (.num 5))) (.cons (.num 0) (.cons (.num 0) .nil))))))))))))))))))))))))))))))))))))))))))))))))))))))))))))))))))))))))) .nil .nil)), (.c1 .not (.c2 .eq (.wr .u8 (.fn 54 (.cons (.var 2) (.cons (.num 0) (.cons (.num 0) (.cons (.num 0) (.cons (.num 0) (.cons (.num 0) (.cons (.num 0) (.cons (.num 0) (.cons (.num 0) (.cons (.num 0) (.cons (.num 0) (.cons (.num 0) (.cons (.num 0) (.cons (.num 0) (.cons (.num 0) (.cons (.num 0) (.cons (.num 0) (.cons (.num 0) (.cons (.num 0) (.cons (.num 0) (.cons (.num 0) (.cons (.num 0) (.cons (.num 0) (.cons (.num 0) (.cons (.num 0) (.cons (.num 0) (.cons (.num 0) (.cons (.num 0) (.cons (.num 0) (.cons (.num 0) (.cons (.num 0) (.cons (.num 0) (.cons (.num 0) (.cons (.num 0) (.cons (.num 0) (.cons (.num 0) (.cons (.num 0) (.cons (.num 0) (.cons (.num 0) (.cons (.num 0) (.cons (.num 0) (.cons (.num 0) (.cons (.num 0) (.cons (.num 0) (.cons (.num 0) (.cons (.num 0) (.cons (.num 0) (.cons (.num 0) (.cons (.num 0) (.cons (.num 0) (.cons (.num 0) (.cons (.num 0) (.cons (.num 0) (.cons (.num 0) (.cons (.num 0) (.cons (.num 0) (.cons (.num 0) (.cons (.num 0) (.cons (.num 0) (.cons (.num 0) (.cons (.num 0) (.cons (.num 0) (.cons (.num 0) (.cons (.num 0) (.cons (.num 0) (.cons (.wr .u16 (.c2 .rd (.fn 15 (.c2 .drop (.var 4) (.var 0)) .nil .nil) (.num 0))) (.cons (.wr .u16 (.c2 .rd (.fn 15 (.c2 .drop (.var 4) (.var 0)) .nil .nil) (.num 1))) (.cons (.wr .u32 (.c2 .rd (.fn 15 (.c2 .drop (.var 4) (.var 0)) .nil .nil) (.num 2))) (.cons (.wr .u32 (.c2 .rd (.fn 15 (.c2 .drop (.var 4) (.var 0)) .nil .nil) (.num 3))) (.cons (.wr .u8 (.c2 .rd (.fn 15 (.c2 .drop (.var 4) (.var 0)) .nil .nil) (.num 4))) (.cons (.wr .u16 (.c2 .rd (.fn 15 (.c2 .drop (.var 4) (.var 0)) .nil .nil) (.num 5))) (.cons (.num 0) (.cons (.num 0) .nil))))))))))))))))))))))))))))))))))))))))))))))))))))))))))))))))))))))))) .nil .nil)) (.num 0))), (.c2 .add (.var 4) (.num 20)), (.c2 .sub (.var 5) (.num 20)), (.c2 .app (.c2 .take (.c2 .mul (.var 1) (.num 73)) (.var 6)) (.cons (.var 2) (.cons (.num 0) (.cons (.num 0) (.cons (.num 0) (.cons (.num 0) (.cons (.num 0) (.cons (.num 0) (.cons (.num 0) (.cons (.num 0) (.cons (.num 0) (.cons (.num 0) (.cons (.num 0) (.cons (.num 0) (.cons (.num 0) (.cons (.num 0) (.cons (.num 0) (.cons (.num 0) (.cons (.num 0) (.cons (.num 0) (.cons (.num 0) (.cons (.num 0) (.cons (.num 0) (.cons (.num 0) (.cons (.num 0) (.cons (.num 0) (.cons (.num 0) (.cons (.num 0) (.cons (.num 0) (.cons (.num 0) (.cons (.num 0) (.cons (.num 0) (.cons (.num 0) (.cons (.num 0) (.cons (.num 0) (.cons (.num 0) (.cons (.num 0) (.cons (.num 0) (.cons (.num 0) (.cons (.num 0) (.cons (.num 0) (.cons (.num 0) (.cons (.num 0) (.cons (.num 0) (.cons (.num 0) (.cons (.num 0) (.cons (.num 0) (.cons (.num 0) (.cons (.num 0) (.cons (.num 0) (.cons (.num 0) (.cons (.num 0) (.cons (.num 0) (.cons (.num 0) (.cons (.num 0) (.cons (.num 0) (.cons (.num 0) (.cons (.num 0) (.cons (.num 0) (.cons (.num 0) (.cons (.num 0) (.cons (.num 0) (.cons (.num 0) (.cons (.num 0) (.cons (.num 0) (.cons (.num 0) (.cons (.wr .u16 (.c2 .rd (.fn 15 (.c2 .drop (.var 4) (.var 0)) .nil .nil) (.num 0))) (.cons (.wr .u16 (.c2 .rd (.fn 15 (.c2 .drop (.var 4) (.var 0)) .nil .nil) (.num 1))) (.cons (.wr .u32 (.c2 .rd (.fn 15 (.c2 .drop (.var 4) (.var 0)) .nil .nil) (.num 2))) (.cons (.wr .u32 (.c2 .rd (.fn 15 (.c2 .drop (.var 4) (.var 0)) .nil .nil) (.num 3))) (.cons (.wr .u8 (.c2 .rd (.fn 15 (.c2 .drop (.var 4) (.var 0)) .nil .nil) (.num 4))) (.cons (.wr .u16 (.c2 .rd (.fn 15 (.c2 .drop (.var 4) (.var 0)) .nil .nil) (.num 5))) (.cons (.num 0) (.cons (.num 0) .nil))))))))))))))))))))))))))))))))))))))))))))))))))))))))))))))))))))))))))]))))
         (.split (.c2 .eq (.var 2) (.num 6))
          (.chk (.c1 (.kin [.u8]) (.c2 .drop (.var 4) (.var 0)))
          (.split (.c1 .not (.c2 .eq (.fn 26 (.c2 .drop (.var 4) (.var 0)) .nil .nil) (.num 0)))
           (.ret (.t [.c (.sn), .c (.sn), .c (.i .i64 (.fn 26 (.c2 .drop (.var 4) (.var 0)) .nil .nil))], ⟨[], [], 65, 7, []⟩))
           (.chk (.c2 .le (.num 8) (.var 5))
           (.back 0 1 [(.c2 .add (.var 1) (.num 1)), (.wr .u8 (.fn 54 (.cons (.var 2) (.cons (.num 0) (.cons (.num 0) (.cons (.num 0) (.cons (.num 0) (.cons (.num 0) (.cons (.num 0) (.cons (.num 0) (.cons (.num 0) (.cons (.num 0) (.cons (.num 0) (.cons (.num 0) (.cons (.num 0) (.cons (.num 0) (.cons (.num 0) (.cons (.num 0) (.cons (.num 0) (.cons (.num 0) (.cons (.num 0) (.cons (.num 0) (.cons (.num 0) (.cons (.num 0) (.cons (.num 0) (.cons (.num 0) (.cons (.num 0) (.cons (.num 0) (.cons (.num 0) (.cons (.num 0) (.cons (.num 0) (.cons (.num 0) (.cons (.num 0) (.cons (.num 0) (.cons (.num 0) (.cons (.num 0) (.cons (.num 0) (.cons (.num 0) (.cons (.num 0) (.cons (.num 0) (.cons (.num 0) (.cons (.num 0) (.cons (.num 0) (.cons (.num 0) (.cons (.num 0) (.cons (.num 0) (.cons (.num 0) (.cons (.num 0) (.cons (.num 0) (.cons (.num 0) (.cons (.num 0) (.cons (.num 0) (.cons (.num 0) (.cons (.num 0) (.cons (.num 0) (.cons (.num 0) (.cons (.num 0) (.cons (.num 0) (.cons (.num 0) (.cons (.num 0) (.cons (.num 0) (.cons (.num 0) (.cons (.num 0) (.cons (.num 0) (.cons (.num 0) (.cons (.num 0) (.cons (.num 0) (.cons (.num 0) (.cons (.num 0) (.cons (.num 0) (.cons (.num 0) (.cons (.num 0) (.cons (.num 0) (.cons (.wr .u16 (.c2 .rd (.fn 16 (.c2 .drop (.var 4) (.var 0)) .nil .nil) (.num 0))) (.cons (.wr .u16 (.c2 .rd (.fn 16 (.c2 .drop (.var 4) (.var 0)) .nil .nil) (.num 1))) .nil))))))))))))))))))))))))))))))))))))))))))))))))))))))))))))))))))))))))) .nil .nil)), (.c1 .not (.c2 .eq (.wr .u8 (.fn 54 (.cons (.var 2) (.cons (.num 0) (.cons (.num 0) (.cons (.num 0) (.cons (.num 0) (.cons (.num 0) (.cons (.num 0) (.cons (.num 0) (.cons (.num 0) (.cons (.num 0) (.cons (.num 0) (.cons (.num 0) (.cons (.num 0) (.cons (.num 0) (.cons (.num 0) (.cons (.num 0) (.cons (.num 0) (.cons (.num 0) (.cons (.num 0) (.cons (.num 0) (.cons (.num 0) (.cons (.num 0) (.cons (.num 0) (.cons (.num 0) (.cons (.num 0) (.cons (.num 0) (.cons (.num 0) (.cons (.num 0) (.cons (.num 0) (.cons (.num 0) (.cons (.num 0) (.cons (.num 0) (.cons (.num 0) (.cons (.num 0) (.cons (.num 0) (.cons (.num 0) (.cons (.num 0) (.cons (.num 0) (.cons (.num 0) (.cons (.num 0) (.cons (.num 0) (.cons (.num 0) (.cons (.num 0) (.cons (.num 0) (.cons (.num 0) (.cons (.num 0) (.cons (.num 0) (.cons (.num 0) (.cons (.num 0) (.cons (.num 0) (.cons (.num 0) (.cons (.num 0) (.cons (.num 0) (.cons (.num 0) (.cons (.num 0) (.cons (.num 0) (.cons (.num 0) (.cons (.num 0) (.cons (.num 0) (.cons (.num 0) (.cons (.num 0) (.cons (.num 0) (.cons (.num 0) (.cons (.num 0) (.cons (.num 0) (.cons (.num 0) (.cons (.num 0) (.cons (.num 0) (.cons (.num 0) (.cons (.num 0) (.cons (.num 0) (.cons (.wr .u16 (.c2 .rd (.fn 16 (.c2 .drop (.var 4) (.var 0)) .nil .nil) (.num 0))) (.cons (.wr .u16 (.c2 .rd (.fn 16 (.c2 .drop (.var 4) (.var 0)) .nil .nil) (.num 1))) .nil))))))))))))))))))))))))))))))))))))))))))))))))))))))))))))))))))))))))) .nil .nil)) (.num 0))), (.c2 .add (.var 4) (.num 8)), (.c2 .sub (.var 5) (.num 8)), (.c2 .app (.c2 .take (.c2 .mul (.var 1) (.num 73)) (.var 6)) (.cons (.var 2) (.cons (.num 0) (.cons (.num 0) (.cons (.num 0) (.cons (.num 0) (.cons (.num 0) (.cons (.num 0) (.cons (.num 0) (.cons (.num 0) (.cons (.num 0) (.cons (.num 0) (.cons (.num 0) (.cons (.num 0) (.cons (.num 0) (.cons (.num 0) (.cons (.num 0) (.cons (.num 0) (.cons (.num 0) (.cons (.num 0) (.cons (.num 0) (.cons (.num 0) (.cons (.num 0) (.cons (.num 0) (.cons (.num 0) (.cons (.num 0) (.cons (.num 0) (.cons (.num 0) (.cons (.num 0) (.cons (.num 0) (.cons (.num 0) (.cons (.num 0) (.cons (.num 0) (.cons (.num 0) (.cons (.num 0) (.cons (.num 0) (.cons (.num 0) (.cons (.num 0) (.cons (.num 0) (.cons (.num 0) (.cons (.num 0) (.cons (.num 0) (.cons (.num 0) (.cons (.num 0) (.cons (.num 0) (.cons (.num 0) (.cons (.num 0) (.cons (.num 0) (.cons (.num 0) (.cons (.num 0) (.cons (.num 0) (.cons (.num 0) (.cons (.num 0) (.cons (.num 0) (.cons (.num 0) (.cons (.num 0) (.cons (.num 0) (.cons (.num 0) (.cons (.num 0) (.cons (.num 0) (.cons (.num 0) (.cons (.num 0) (.cons (.num 0) (.cons (.num 0) (.cons (.num 0) (.cons (.num 0) (.cons (.num 0) (.cons (.num 0) (.cons (.num 0) (.cons (.num 0) (.cons (.num 0) (.cons (.num 0) (.cons (.wr .u16 (.c2 .rd (.fn 16 (.c2 .drop (.var 4) (.var 0)) .nil .nil) (.num 0))) (.cons (.wr .u16 (.c2 .rd (.fn 16 (.c2 .drop (.var 4) (.var 0)) .nil .nil) (.num 1))) .nil))))))))))))))))))))))))))))))))))))))))))))))))))))))))))))))))))))))))))]))))
          (.fail 11)))))))))
  (.ret (.t [.c (.s 3 73 0 (.num 0) (.var 1)), .c (.s 5 1 0 (.num 0) (.c2 .sub (.c1 .len (.var 0)) (.var 4))), .c (.i .i64 (.num 0))], ⟨[], [(5, some ⟨true, .row [.u8] (.c2 .drop (.var 4) (.var 0))⟩), (3, some ⟨true, .row [.u8, .u8, .u8, .u8, .u8, .u8, .u8, .u8, .u8, .u8, .u8, .u8, .u8, .u16, .u8, .u16, .u16, .u8, .u8, .u8, .u16, .u8, .u8, .u8, .u8, .u8, .u8, .u8, .u8, .u8, .u32, .u8, .u8, .u8, .u8, .u8, .u8, .u8, .u8, .u8, .u8, .u8, .u8, .u8, .u8, .u8, .u8, .u8, .u8, .u8, .u8, .u8, .u8, .u8, .u8, .u8, .u8, .u8, .u8, .u8, .u8, .u8, .u8, .u8, .u8, .u16, .u16, .u32, .u32, .u8, .u16, .u16, .u16] (.var 6)⟩)], 6, 7, []⟩))))
theorem treePePeel_is : funTree (ctxN Go.Proofs.Try.prog annsPe consPe 8) annsPe 11 (tPeel 3 5).vs (tPeel 3 5).bs (tPeel 3 5).n (preF (tPeel 3 5).res) = treePePeel := by kernel_rfl
end Go.Proofs.Ytbiodlomlendkaa.Sx
/- Sx: what Go function 12 does, as a tree of conditions (printed by a tool of this claim, proved by the kernel). Conditions: none. -/
set_option maxRecDepth 100000
namespace Go.Proofs.Ytbiodlomlendkaa.Sx
open Go
def treePePeelR : M (V × St) :=
(.loop 0 1 5 [(.num 0), (.num 1), (.bol true), (.num 0), .nil] [((.c2 .le (.num 0) (.var 1)), true), ((.c2 .le (.var 1) (.num 8)), true), ((.c2 .le (.num 0) (.var 2)), true), ((.c2 .le (.var 2) (.num 6)), true), ((.c2 .le (.num 0) (.var 4)), true), ((.c2 .le (.var 4) (.c1 .len (.var 0))), true), ((.c2 .eq (.c1 .len (.var 5)) (.c2 .mul (.var 1) (.num 73))), true), ((.c1 (.kin [.u8, .u8, .u8, .u8, .u8, .u8, .u8, .u8, .u8, .u8, .u8, .u8, .u8, .u16, .u8, .u16, .u16, .u8, .u8, .u8, .u16, .u8, .u8, .u8, .u8, .u8, .u8, .u8, .u8, .u8, .u32, .u8, .u8, .u8, .u8, .u8, .u8, .u8, .u8, .u8, .u8, .u8, .u8, .u8, .u8, .u8, .u8, .u8, .u8, .u8, .u8, .u8, .u8, .u8, .u8, .u8, .u8, .u8, .u8, .u8, .u8, .u8, .u8, .u8, .u8, .u16, .u16, .u32, .u32, .u8, .u16, .u16, .u16]) (.var 5)), true)]
 (.split (.var 3)
  (.split (.c2 .eq (.var 1) (.num 8))
   (.ret (.t [.c (.sn), .c (.sn), .c (.i .i64 (.num 3))], ⟨[], [], 2, 6, []⟩))
   (.split (.c2 .eq (.var 2) (.num 1))
    (.chk (.c1 (.kin [.u8]) (.c2 .drop (.var 4) (.var 0)))
    (.split (.c1 .not (.c2 .eq (.fn 21 (.c2 .drop (.var 4) (.var 0)) .nil .nil) (.num 0)))
     (.ret (.t [.c (.sn), .c (.sn), .c (.i .i64 (.fn 21 (.c2 .drop (.var 4) (.var 0)) .nil .nil))], ⟨[], [], 67, 6, []⟩))
     (.back 0 1 [(.c2 .add (.var 1) (.num 1)), (.wr .u8 (.fn 54 (.cons (.num 1) (.cons (.wr .u8 (.c2 .rd (.fn 11 (.c2 .drop (.var 4) (.var 0)) .nil .nil) (.num 0))) (.cons (.wr .u8 (.c2 .rd (.fn 11 (.c2 .drop (.var 4) (.var 0)) .nil .nil) (.num 1))) (.cons (.wr .u8 (.c2 .rd (.fn 11 (.c2 .drop (.var 4) (.var 0)) .nil .nil) (.num 2))) (.cons (.wr .u8 (.c2 .rd (.fn 11 (.c2 .drop (.var 4) (.var 0)) .nil .nil) (.num 3))) (.cons (.wr .u8 (.c2 .rd (.fn 11 (.c2 .drop (.var 4) (.var 0)) .nil .nil) (.num 4))) (.cons (.wr .u8 (.c2 .rd (.fn 11 (.c2 .drop (.var 4) (.var 0)) .nil .nil) (.num 5))) (.cons (.wr .u8 (.c2 .rd (.fn 11 (.c2 .drop (.var 4) (.var 0)) .nil .nil) (.num 6))) (.cons (.wr .u8 (.c2 .rd (.fn 11 (.c2 .drop (.var 4) (.var 0)) .nil .nil) (.num 7))) (.cons (.wr .u8 (.c2 .rd (.fn 11 (.c2 .drop (.var 4) (.var 0)) .nil .nil) (.num 8))) (.cons (.wr .u8 (.c2 .rd (.fn 11 (.c2 .drop (.var 4) (.var 0)) .nil .nil) (.num 9))) (.cons (.wr .u8 (.c2 .rd (.fn 11 (.c2 .drop (.var 4) (.var 0)) .nil .nil) (.num 10))) (.cons (.wr .u8 (.c2 .rd (.fn 11 (.c2 .drop (.var 4) (.var 0)) .nil .nil) (.num 11))) (.cons (.wr .u16 (.c2 .rd (.fn 11 (.c2 .drop (.var 4) (.var 0)) .nil .nil) (.num 12))) (.cons (.num 0) (.cons (.num 0) (.cons (.num 0) (.cons (.num 0) (.cons (.num 0) (.cons (.num 0) (.cons (.num 0) (.cons (.num 0) (.cons (.num 0) (.cons (.num 0) (.cons (.num 0) (.cons (.num 0) (.cons (.num 0) (.cons (.num 0) (.cons (.num 0) (.cons (.num 0) (.cons (.num 0) (.cons (.num 0) (.cons (.num 0) (.cons (.num 0) (.cons (.num 0) (.cons (.num 0) (.cons (.num 0) (.cons (.num 0) (.cons (.num 0) (.cons (.num 0) (.cons (.num 0) (.cons (.num 0) (.cons (.num 0) (.cons (.num 0) (.cons (.num 0) (.cons (.num 0) (.cons (.num 0) (.cons (.num 0) (.cons (.num 0) (.cons (.num 0) (.cons (.num 0) (.cons (.num 0) (.cons (.num 0) (.cons (.num 0) (.cons (.num 0) (.cons (.num 0) (.cons (.num 0) (.cons (.num 0) (.cons (.num 0) (.cons (.num 0) (.cons (.num 0) (.cons (.num 0) (.cons (.num 0) (.cons (.num 0) (.cons (.num 0) (.cons (.num 0) (.cons (.num 0) (.cons (.num 0) (.cons (.num 0) (.cons (.num 0) (.cons (.num 0) (.cons (.num 0) (.cons (.num 0) .nil))))))))))))))))))))))))))))))))))))))))))))))))))))))))))))))))))))))))) .nil .nil)), (.c1 .not (.c2 .eq (.wr .u8 (.fn 54 (.cons (.num 1) (.cons (.wr .u8 (.c2 .rd (.fn 11 (.c2 .drop (.var 4) (.var 0)) .nil .nil) (.num 0))) (.cons (.wr .u8 (.c2 .rd (.fn 11 (.c2 .drop (.var 4) (.var 0)) .nil .nil) (.num 1))) (.cons (.wr .u8 (.c2 .rd (.fn 11 (.c2 .drop (.var 4) (.var 0)) .nil .nil) (.num 2))) (.cons (.wr .u8 (.c2 .rd (.fn 11 (.c2 .drop (.var 4) (.var 0)) .nil .nil) (.num 3))) (.cons (.wr .u8 (.c2 .rd (.fn 11 (.c2 .drop (.var 4) (.var 0)) .nil .nil) (.num 4))) (.cons (.wr .u8 (.c2 .rd (.fn 11 (.c2 .drop (.var 4) (.var 0)) .nil .nil) (.num 5))) (.cons (.wr .u8 (.c2 .rd (.fn 11 (.c2 .drop (.var 4) (.var 0)) .nil .nil) (.num 6))) (.cons (.wr .u8 (.c2 .rd (.fn 11 (.c2 .drop (.var 4) (.var 0)) .nil .nil) (.num 7))) (.cons (.wr .u8 (.c2 .rd (.fn 11 (.c2 .drop (.var 4) (.var 0)) .nil .nil) (.num 8))) (.cons (.wr .u8 (.c2 .rd (.fn 11 (.c2 .drop (.var 4) (.var 0)) .nil .nil) (.num 9))) (.cons (.wr .u8 (.c2 .rd (.fn 11 (.c2 .drop (.var 4) (.var 0)) .nil .nil) (.num 10))) (.cons (.wr .u8 (.c2 .rd (.fn 11 (.c2 .drop (.var 4) (.var 0)) .nil .nil) (.num 11))) (.cons (.wr .u16 (.c2 .rd (.fn 11 (.c2 .drop (.var 4) (.var 0)) .nil .nil) (.num 12))) (.cons (.num 0) (.cons (.num 0) (.cons (.num 0) (.cons (.num 0) (.cons (.num 0) (.cons (.num 0) (.cons (.num 0) (.cons (.num 0) (.cons (.num 0) (.cons (.num 0) (.cons (.num 0) (.cons (.num 0) (.cons (.num 0) (.cons (.num 0) (.cons (.num 0) (.cons (.num 0) (.cons (.num 0) (.cons (.num 0) (.cons (.num 0) (.cons (.num 0) (.cons (.num 0) (.cons (.num 0) (.cons (.num 0) (.cons (.num 0) (.cons (.num 0) (.cons (.num 0) (.cons (.num 0) (.cons (.num 0) (.cons (.num 0) (.cons (.num 0) (.cons (.num 0) (.cons (.num 0) (.cons (.num 0) (.cons (.num 0) (.cons (.num 0) (.cons (.num 0) (.cons (.num 0) (.cons (.num 0) (.cons (.num 0) (.cons (.num 0) (.cons (.num 0) (.cons (.num 0) (.cons (.num 0) (.cons (.num 0) (.cons (.num 0) (.cons (.num 0) (.cons (.num 0) (.cons (.num 0) (.cons (.num 0) (.cons (.num 0) (.cons (.num 0) (.cons (.num 0) (.cons (.num 0) (.cons (.num 0) (.cons (.num 0) (.cons (.num 0) (.cons (.num 0) (.cons (.num 0) (.cons (.num 0) .nil))))))))))))))))))))))))))))))))))))))))))))))))))))))))))))))))))))))))) .nil .nil)) (.num 0))), (.wr .i64 (.c2 .add (.var 4) (.c2 .rd (.cons (.num 0) (.cons (.num 14) (.cons (.num 4) (.cons (.num 20) (.cons (.num 40) (.cons (.num 20) (.cons (.num 8) .nil))))))) (.var 2)))), (.c2 .app (.c2 .take (.c2 .mul (.var 1) (.num 73)) (.var 5)) (.cons (.num 1) (.cons (.wr .u8 (.c2 .rd (.fn 11 (.c2 .drop (.var 4) (.var 0)) .nil .nil) (.num 0))) (.cons (.wr .u8 (.c2 .rd (.fn 11 (.c2 .drop (.var 4) (.var 0)) .nil .nil) (.num 1))) (.cons (.wr .u8 (.c2 .rd (.fn 11 (.c2 .drop (.var 4) (.var 0)) .nil .nil) (.num 2))) (.cons (.wr .u8 (.c2 .rd (.fn 11 (.c2 .drop (.var 4) (.var 0)) .nil .nil) (.num 3))) (.cons (.wr .u8 (.c2 .rd (.fn 11 (.c2 .drop (.var 4) (.var 0)) .nil .nil) (.num 4))) (.cons (.wr .u8 (.c2 .rd (.fn 11 (.c2 .drop (.var 4) (.var 0)) .nil .nil) (.num 5))) (.cons (.wr .u8 (.c2 .rd (.fn 11 (.c2 .drop (.var 4) (.var 0)) .nil .nil) (.num 6))) (.cons (.wr .u8 (.c2 .rd (.fn 11 (.c2 .drop (.var 4) (.var 0)) .nil .nil) (.num 7))) (.cons (.wr .u8 (.c2 .rd (.fn 11 (.c2 .drop (.var 4) (.var 0)) .nil .nil) (.num 8))) (.cons (.wr .u8 (.c2 .rd (.fn 11 (.c2 .drop (.var 4) (.var 0)) .nil .nil) (.num 9))) (.cons (.wr .u8 (.c2 .rd (.fn 11 (.c2 .drop (.var 4) (.var 0)) .nil .nil) (.num 10))) (.cons (.wr .u8 (.c2 .rd (.fn 11 (.c2 .drop (.var 4) (.var 0)) .nil .nil) (.num 11))) (.cons (.wr .u16 (.c2 .rd (.fn 11 (.c2 .drop (.var 4) (.var 0)) .nil .nil) (.num 12))) (.cons (.num 0) (.cons (.num 0) (.cons (.num 0) (.cons (.num 0) (.cons (.num 0) (.cons (.num 0) (.cons (.num 0) (.cons (.num 0) (.cons (.num 0) (.cons (.num 0) (.cons (.num 0) (.cons (.num 0) (.cons (.num 0) (.cons (.num 0) (.cons (.num 0) (.cons (.num 0) (.cons (.num 0) (.cons (.num 0) (.cons (.num 0) (.cons (.num 0) (.cons (.num 0) (.cons (.num 0) (.cons (.num 0) (.cons (.num 0) (.cons (.num 0) (.cons (.num 0) (.cons (.num 0) (.cons (.num 0) (.cons (.num 0) (.cons (.num 0) (.cons (.num 0) (.cons (.num 0) (.cons (.num 0) (.cons (.num 0) (.cons (.num 0) (.cons (.num 0) (.cons (.num 0) (.cons (.num 0) (.cons (.num 0) (.cons (.num 0) (.cons (.num 0) (.cons (.num 0) (.cons (.num 0) (.cons (.num 0) (.cons (.num 0) (.cons (.num 0) (.cons (.num 0) (.cons (.num 0) (.cons (.num 0) (.cons (.num 0) (.cons (.num 0) (.cons (.num 0) (.cons (.num 0) (.cons (.num 0) (.cons (.num 0) (.cons (.num 0) (.cons (.num 0) (.cons (.num 0) (.cons (.num 0) .nil))))))))))))))))))))))))))))))))))))))))))))))))))))))))))))))))))))))))))])))
    (.split (.c2 .eq (.var 2) (.num 2))
     (.chk (.c1 (.kin [.u8]) (.c2 .drop (.var 4) (.var 0)))
     (.split (.c1 .not (.c2 .eq (.fn 22 (.c2 .drop (.var 4) (.var 0)) .nil .nil) (.num 0)))
      (.ret (.t [.c (.sn), .c (.sn), .c (.i .i64 (.fn 22 (.c2 .drop (.var 4) (.var 0)) .nil .nil))], ⟨[], [], 67, 6, []⟩))
      (.back 0 1 [(.c2 .add (.var 1) (.num 1)), (.wr .u8 (.fn 54 (.cons (.num 2) (.cons (.num 0) (.cons (.num 0) (.cons (.num 0) (.cons (.num 0) (.cons (.num 0) (.cons (.num 0) (.cons (.num 0) (.cons (.num 0) (.cons (.num 0) (.cons (.num 0) (.cons (.num 0) (.cons (.num 0) (.cons (.num 0) (.cons (.wr .u8 (.c2 .rd (.fn 12 (.c2 .drop (.var 4) (.var 0)) .nil .nil) (.num 0))) (.cons (.wr .u16 (.c2 .rd (.fn 12 (.c2 .drop (.var 4) (.var 0)) .nil .nil) (.num 1))) (.cons (.wr .u16 (.c2 .rd (.fn 12 (.c2 .drop (.var 4) (.var 0)) .nil .nil) (.num 2))) (.cons (.num 0) (.cons (.num 0) (.cons (.num 0) (.cons (.num 0) (.cons (.num 0) (.cons (.num 0) (.cons (.num 0) (.cons (.num 0) (.cons (.num 0) (.cons (.num 0) (.cons (.num 0) (.cons (.num 0) (.cons (.num 0) (.cons (.num 0) (.cons (.num 0) (.cons (.num 0) (.cons (.num 0) (.cons (.num 0) (.cons (.num 0) (.cons (.num 0) (.cons (.num 0) (.cons (.num 0) (.cons (.num 0) (.cons (.num 0) (.cons (.num 0) (.cons (.num 0) (.cons (.num 0) (.cons (.num 0) (.cons (.num 0) (.cons (.num 0) (.cons (.num 0) (.cons (.num 0) (.cons (.num 0) (.cons (.num 0) (.cons (.num 0) (.cons (.num 0) (.cons (.num 0) (.cons (.num 0) (.cons (.num 0) (.cons (.num 0) (.cons (.num 0) (.cons (.num 0) (.cons (.num 0) (.cons (.num 0) (.cons (.num 0) (.cons (.num 0) (.cons (.num 0) (.cons (.num 0) (.cons (.num 0) (.cons (.num 0) (.cons (.num 0) (.cons (.num 0) (.cons (.num 0) (.cons (.num 0) (.cons (.num 0) (.cons (.num 0) .nil))))))))))))))))))))))))))))))))))))))))))))))))))))))))))))))))))))))))) .nil .nil)), (.c1 .not (.c2 .eq (.wr .u8 (.fn 54 (.cons (.num 2) (.cons (.num 0) (.cons (.num 0) (.cons (.num 0) (.cons (.num 0) (.cons (.num 0) (.cons (.num 0) (.cons (.num 0) (.cons (.num 0) (.cons (.num 0) (.cons (.num 0) (.cons (.num 0) (.cons (.num 0) (.cons (.num 0) (.cons (.wr .u8 (.c2 .rd (.fn 12 (.c2 .drop (.var 4) (.var 0)) .nil .nil) (.num 0))) (.cons (.wr .u16 (.c2 .rd (.fn 12 (.c2 .drop (.var 4) (.var 0)) .nil .nil) (.num 1))) (.cons (.wr .u16 (.c2 .rd (.fn 12 (.c2 .drop (.var 4) (.var 0)) .nil .nil) (.num 2))) (.cons (.num 0) (.cons (.num 0) (.cons (.num 0) (.cons (.num 0) (.cons (.num 0) (.cons (.num 0) (.cons (.num 0) (.cons (.num 0) (.cons (.num 0) (.cons (.num 0) (.cons (.num 0) (.cons (.num 0) (.cons (.num 0) (.cons (.num 0) (.cons (.num 0) (.cons (.num 0) (.cons (.num 0) (.cons (.num 0) (.cons (.num 0) (.cons (.num 0) (.cons (.num 0) (.cons (.num 0) (.cons (.num 0) (.cons (.num 0) (.cons (.num 0) (.cons (.num 0) (.cons (.num 0) (.cons (.num 0) (.cons (.num 0) (.cons (.num 0) (.cons (.num 0) (.cons (.num 0) (.cons (.num 0) (.cons (.num 0) (.cons (.num 0) (.cons (.num 0) (.cons (.num 0) (.cons (.num 0) (.cons (.num 0) (.cons (.num 0) (.cons (.num 0) (.cons (.num 0) (.cons (.num 0) (.cons (.num 0) (.cons (.num 0) (.cons (.num 0) (.cons (.num 0) (.cons (.num 0) (.cons (.num 0) (.cons (.num 0) (.cons (.num 0) (.cons (.num 0) (.cons (.num 0) (.cons (.num 0) (.cons (.num 0) (.cons (.num 0) .nil))))))))))))))))))))))))))))))))))))))))))))))))))))))))))))))))))))))))) .nil .nil)) (.num 0))), (.wr .i64 (.c2 .add (.var 4) (.c2 .rd (.cons (.num 0) (.cons (.num 14) (.cons (.num 4) (.cons (.num 20) (.cons (.num 40) (.cons (.num 20) (.cons (.num 8) .nil))))))) (.var 2)))), (.c2 .app (.c2 .take (.c2 .mul (.var 1) (.num 73)) (.var 5)) (.cons (.num 2) (.cons (.num 0) (.cons (.num 0) (.cons (.num 0) (.cons (.num 0) (.cons (.num 0) (.cons (.num 0) (.cons (.num 0) (.cons (.num 0) (.cons (.num 0) (.cons (.num 0) (.cons (.num 0) (.cons (.num 0) (.cons (.num 0) (.cons (.wr .u8 (.c2 .rd (.fn 12 (.c2 .drop (.var 4) (.var 0)) .nil .nil) (.num 0))) (.cons (.wr .u16 (.c2 .rd (.fn 12 (.c2 .drop (.var 4) (.var 0)) .nil .nil) (.num 1))) (.cons (.wr .u16 (.c2 .rd (.fn 12 (.c2 .drop (.var 4) (.var 0)) .nil .nil) (.num 2))) (.cons (.num 0) (.cons (.num 0) (.cons (.num 0) (.cons (.num 0) (.cons (.num 0) (.cons (.num 0) (.cons (.num 0) (.cons (.num 0) (.cons (.num 0) (.cons (.num 0) (.cons (.num 0) (.cons (.num 0) (.cons (.num 0) (.cons (.num 0) (.cons (.num 0) (.cons (.num 0) (.cons (.num 0) (.cons (.num 0) (.cons (.num 0) (.cons (.num 0) (.cons (.num 0) (.cons (.num 0) (.cons (.num 0) (.cons (.num 0) (.cons (.num 0) (.cons (.num 0) (.cons (.num 0) (.cons (.num 0) (.cons (.num 0) (.cons (.num 0) (.cons (.num 0) (.cons (.num 0) (.cons (.num 0) (.cons (.num 0) (.cons (.num 0) (.cons (.num 0) (.cons (.num 0) (.cons (.num 0) (.cons (.num 0) (.cons (.num 0) (.cons (.num 0) (.cons (.num 0) (.cons (.num 0) (.cons (.num 0) (.cons (.num 0) (.cons (.num 0) (.cons (.num 0) (.cons (.num 0) (.cons (.num 0) (.cons (.num 0) (.cons (.num 0) (.cons (.num 0) (.cons (.num 0) (.cons (.num 0) (.cons (.num 0) (.cons (.num 0) .nil))))))))))))))))))))))))))))))))))))))))))))))))))))))))))))))))))))))))))])))
     (.split (.c2 .eq (.var 2) (.num 3))
      (.chk (.c1 (.kin [.u8]) (.c2 .drop (.var 4) (.var 0)))
      (.split (.c1 .not (.c2 .eq (.fn 23 (.c2 .drop (.var 4) (.var 0)) .nil .nil) (.num 0)))
       (.ret (.t [.c (.sn), .c (.sn), .c (.i .i64 (.fn 23 (.c2 .drop (.var 4) (.var 0)) .nil .nil))], ⟨[], [], 67, 6, []⟩))
       (.back 0 1 [(.c2 .add (.var 1) (.num 1)), (.wr .u8 (.fn 54 (.cons (.num 3) (.cons (.num 0) (.cons (.num 0) (.cons (.num 0) (.cons (.num 0) (.cons (.num 0) (.cons (.num 0) (.cons (.num 0) (.cons (.num 0) (.cons (.num 0) (.cons (.num 0) (.cons (.num 0) (.cons (.num 0) (.cons (.num 0) (.cons (.num 0) (.cons (.num 0) (.cons (.num 0) (.cons (.wr .u8 (.c2 .rd (.fn 13 (.c2 .drop (.var 4) (.var 0)) .nil .nil) (.num 0))) (.cons (.wr .u8 (.c2 .rd (.fn 13 (.c2 .drop (.var 4) (.var 0)) .nil .nil) (.num 1))) (.cons (.wr .u8 (.c2 .rd (.fn 13 (.c2 .drop (.var 4) (.var 0)) .nil .nil) (.num 2))) (.cons (.wr .u16 (.c2 .rd (.fn 13 (.c2 .drop (.var 4) (.var 0)) .nil .nil) (.num 3))) (.cons (.wr .u8 (.c2 .rd (.fn 13 (.c2 .drop (.var 4) (.var 0)) .nil .nil) (.num 4))) (.cons (.wr .u8 (.c2 .rd (.fn 13 (.c2 .drop (.var 4) (.var 0)) .nil .nil) (.num 5))) (.cons (.wr .u8 (.c2 .rd (.fn 13 (.c2 .drop (.var 4) (.var 0)) .nil .nil) (.num 6))) (.cons (.wr .u8 (.c2 .rd (.fn 13 (.c2 .drop (.var 4) (.var 0)) .nil .nil) (.num 7))) (.cons (.wr .u8 (.c2 .rd (.fn 13 (.c2 .drop (.var 4) (.var 0)) .nil .nil) (.num 8))) (.cons (.wr .u8 (.c2 .rd (.fn 13 (.c2 .drop (.var 4) (.var 0)) .nil .nil) (.num 9))) (.cons (.wr .u8 (.c2 .rd (.fn 13 (.c2 .drop (.var 4) (.var 0)) .nil .nil) (.num 10))) (.cons (.wr .u8 (.c2 .rd (.fn 13 (.c2 .drop (.var 4) (.var 0)) .nil .nil) (.num 11))) (.cons (.num 0) (.cons (.num 0) (.cons (.num 0) (.cons (.num 0) (.cons (.num 0) (.cons (.num 0) (.cons (.num 0) (.cons (.num 0) (.cons (.num 0) (.cons (.num 0) (.cons (.num 0) (.cons (.num 0) (.cons (.num 0) (.cons (.num 0) (.cons (.num 0) (.cons (.num 0) (.cons (.num 0) (.cons (.num 0) (.cons (.num 0) (.cons (.num 0) (.cons (.num 0) (.cons (.num 0) (.cons (.num 0) (.cons (.num 0) (.cons (.num 0) (.cons (.num 0) (.cons (.num 0) (.cons (.num 0) (.cons (.num 0) (.cons (.num 0) (.cons (.num 0) (.cons (.num 0) (.cons (.num 0) (.cons (.num 0) (.cons (.num 0) (.cons (.num 0) (.cons (.num 0) (.cons (.num 0) (.cons (.num 0) (.cons (.num 0) (.cons (.num 0) (.cons (.num 0) (.cons (.num 0) (.cons (.num 0) .nil))))))))))))))))))))))))))))))))))))))))))))))))))))))))))))))))))))))))) .nil .nil)), (.c1 .not (.c2 .eq (.wr .u8 (.fn 54 (.cons (.num 3) (.cons (.num 0) (.cons (.num 0) (.cons (.num 0) (.cons (.num 0) (.cons (.num 0) (.cons (.num 0) (.cons (.num 0) (.cons (.num 0) (.cons (.num 0) (.cons (.num 0) (.cons (.num 0) (.cons (.num 0) (.cons (.num 0) (.cons (.num 0) (.cons (.num 0) (.cons (.num 0) (.cons (.wr .u8 (.c2 .rd (.fn 13 (.c2 .drop (.var 4) (.var 0)) .nil .nil) (.num 0))) (.cons (.wr .u8 (.c2 .rd (.fn 13 (.c2 .drop (.var 4) (.var 0)) .nil .nil) (.num 1))) (.cons (.wr .u8 (.c2 .rd (.fn 13 (.c2 .drop (.var 4) (.var 0)) .nil .nil) (.num 2))) (.cons (.wr .u16 (.c2 .rd (.fn 13 (.c2 .drop (.var 4) (.var 0)) .nil .nil) (.num 3))) (.cons (.wr .u8 (.c2 .rd (.fn 13 (.c2 .drop (.var 4) (.var 0)) .nil .nil) (.num 4))) (.cons (.wr .u8 (.c2 .rd (.fn 13 (.c2 .drop (.var 4) (.var 0)) .nil .nil) (.num 5))) (.cons (.wr .u8 (.c2 .rd (.fn 13 (.c2 .drop (.var 4) (.var 0)) .nil .nil) (.num 6))) (.cons (.wr .u8 (.c2 .rd (.fn 13 (.c2 .drop (.var 4) (.var 0)) .nil .nil) (.num 7))) (.cons (.wr .u8 (.c2 .rd (.fn 13 (.c2 .drop (.var 4) (.var 0)) .nil .nil) (.num 8))) (.cons (.wr .u8 (.c2 .rd (.fn 13 (.c2 .drop (.var 4) (.var 0)) .nil .nil) (.num 9))) (.cons (.wr .u8 (.c2 .rd (.fn 13 (.c2 .drop (.var 4) (.var 0)) .nil .nil) (.num 10))) (.cons (.wr .u8 (.c2 .rd (.fn 13 (.c2 .drop (.var 4) (.var 0)) .nil .nil) (.num 11))) (.cons (.num 0) (.cons (.num 0) (.cons (.num 0) (.cons (.num 0) (.cons (.num 0) (.cons (.num 0) (.cons (.num 0) (.cons (.num 0) (.cons (.num 0) (.cons (.num 0) (.cons (.num 0) (.cons (.num 0) (.cons (.num 0) (.cons (.num 0) (.cons (.num 0) (.cons (.num 0) (.cons (.num 0) (.cons (.num 0) (.cons (.num 0) (.cons (.num 0) (.cons (.num 0) (.cons (.num 0) (.cons (.num 0) (.cons (.num 0) (.cons (.num 0) (.cons (.num 0) (.cons (.num 0) (.cons (.num 0) (.cons (.num 0) (.cons (.num 0) (.cons (.num 0) (.cons (.num 0) (.cons (.num 0) (.cons (.num 0) (.cons (.num 0) (.cons (.num 0) (.cons (.num 0) (.cons (.num 0) (.cons (.num 0) (.cons (.num 0) (.cons (.num 0) (.cons (.num 0) (.cons (.num 0) (.cons (.num 0) .nil))))))))))))))))))))))))))))))))))))))))))))))))))))))))))))))))))))))))) .nil .nil)) (.num 0))), (.wr .i64 (.c2 .add (.var 4) (.c2 .rd (.cons (.num 0) (.cons (.num 14) (.cons (.num 4) (.cons (.num 20) (.cons (.num 40) (.cons (.num 20) (.cons (.num 8) .nil))))))) (.var 2)))), (.c2 .app (.c2 .take (.c2 .mul (.var 1) (.num 73)) (.var 5)) (.cons (.num 3) (.cons (.num 0) (.cons (.num 0) (.cons (.num 0) (.cons (.num 0) (.cons (.num 0) (.cons (.num 0) (.cons (.num 0) (.cons (.num 0) (.cons (.num 0) (.cons (.num 0) (.cons (.num 0) (.cons (.num 0) (.cons (.num 0) (.cons (.num 0) (.cons (.num 0) (.cons (.num 0) (.cons (.wr .u8 (.c2 .rd (.fn 13 (.c2 .drop (.var 4) (.var 0)) .nil .nil) (.num 0))) (.cons (.wr .u8 (.c2 .rd (.fn 13 (.c2 .drop (.var 4) (.var 0)) .nil .nil) (.num 1))) (.cons (.wr .u8 (.c2 .rd (.fn 13 (.c2 .drop (.var 4) (.var 0)) .nil .nil) (.num 2))) (.cons (.wr .u16 (.c2 .rd (.fn 13 (.c2 .drop (.var 4) (.var 0)) .nil .nil) (.num 3))) (.cons (.wr .u8 (.c2 .rd (.fn 13 (.c2 .drop (.var 4) (.var 0)) .nil .nil) (.num 4))) (.cons (.wr .u8 (.c2 .rd (.fn 13 (.c2 .drop (.var 4) (.var 0)) .nil .nil) (.num 5))) (.cons (.wr .u8 (.c2 .rd (.fn 13 (.c2 .drop (.var 4) (.var 0)) .nil .nil) (.num 6))) (.cons (.wr .u8 (.c2 .rd (.fn 13 (.c2 .drop (.var 4) (.var 0)) .nil .nil) (.num 7))) (.cons (.wr .u8 (.c2 .rd (.fn 13 (.c2 .drop (.var 4) (.var 0)) .nil .nil) (.num 8))) (.cons (.wr .u8 (.c2 .rd (.fn 13 (.c2 .drop (.var 4) (.var 0)) .nil .nil) (.num 9))) (.cons (.wr .u8 (.c2 .rd (.fn 13 (.c2 .drop (.var 4) (.var 0)) .nil .nil) (.num 10))) (.cons (.wr .u8 (.c2 .rd (.fn 13 (.c2 .drop (.var 4) (.var 0)) .nil .nil) (.num 11))) (.cons (.num 0) (.cons (.num 0) (.cons (.num 0) (.cons (.num 0) (.cons (.num 0) (.cons (.num 0) (.cons (.num 0) (.cons (.num 0) (.cons (.num 0) (.cons (.num 0) (.cons (.num 0) (.cons (.num 0) (.cons (.num 0) (.cons (.num 0) (.cons (.num 0) (.cons (.num 0) (.cons (.num 0) (.cons (.num 0) (.cons (.num 0) (.cons (.num 0) (.cons (.num 0) (.cons (.num 0) (.cons (.num 0) (.cons (.num 0) (.cons (.num 0) (.cons (.num 0) (.cons (.num 0) (.cons (.num 0) (.cons (.num 0) (.cons (.num 0) (.cons (.num 0) (.cons (.num 0) (.cons (.num 0) (.cons (.num 0) (.cons (.num 0) (.cons (.num 0) (.cons (.num 0) (.cons (.num 0) (.cons (.num 0) (.cons (.num 0) (.cons (.num 0) (.cons (.num 0) (.cons (.num 0) (.cons (.num 0) .nil))))))))))))))))))))))))))))))))))))))))))))))))))))))))))))))))))))))))))])))
      (.split (.c2 .eq (.var 2) (.num 4))
       (.chk (.c1 (.kin [.u8]) (.c2 .drop (.var 4) (.var 0)))
       (.split (.c1 .not (.c2 .eq (.fn 24 (.c2 .drop (.var 4) (.var 0)) .nil .nil) (.num 0)))
        (.ret (.t [.c (.sn), .c (.sn), .c (.i .i64 (.fn 24 (.c2 .drop (.var 4) (.var 0)) .nil .nil))], ⟨[], [], 67, 6, []⟩))
        (.back 0 1 [(.c2 .add (.var 1) (.num 1)), (.wr .u8 (.fn 54 (.cons (.num 4) (.cons (.num 0) (.cons (.num 0) (.cons (.num 0) (.cons (.num 0) (.cons (.num 0) (.cons (.num 0) (.cons (.num 0) (.cons (.num 0) (.cons (.num 0) (.cons (.num 0) (.cons (.num 0) (.cons (.num 0) (.cons (.num 0) (.cons (.num 0) (.cons (.num 0) (.cons (.num 0) (.cons (.num 0) (.cons (.num 0) (.cons (.num 0) (.cons (.num 0) (.cons (.num 0) (.cons (.num 0) (.cons (.num 0) (.cons (.num 0) (.cons (.num 0) (.cons (.num 0) (.cons (.num 0) (.cons (.num 0) (.cons (.wr .u8 (.c2 .rd (.fn 14 (.c2 .drop (.var 4) (.var 0)) .nil .nil) (.num 0))) (.cons (.wr .u32 (.c2 .rd (.fn 14 (.c2 .drop (.var 4) (.var 0)) .nil .nil) (.num 1))) (.cons (.wr .u8 (.c2 .rd (.fn 14 (.c2 .drop (.var 4) (.var 0)) .nil .nil) (.num 2))) (.cons (.wr .u8 (.c2 .rd (.fn 14 (.c2 .drop (.var 4) (.var 0)) .nil .nil) (.num 3))) (.cons (.wr .u8 (.c2 .rd (.fn 14 (.c2 .drop (.var 4) (.var 0)) .nil .nil) (.num 4))) (.cons (.wr .u8 (.c2 .rd (.fn 14 (.c2 .drop (.var 4) (.var 0)) .nil .nil) (.num 5))) (.cons (.wr .u8 (.c2 .rd (.fn 14 (.c2 .drop (.var 4) (.var 0)) .nil .nil) (.num 6))) (.cons (.wr .u8 (.c2 .rd (.fn 14 (.c2 .drop (.var 4) (.var 0)) .nil .nil) (.num 7))) (.cons (.wr .u8 (.c2 .rd (.fn 14 (.c2 .drop (.var 4) (.var 0)) .nil .nil) (.num 8))) (.cons (.wr .u8 (.c2 .rd (.fn 14 (.c2 .drop (.var 4) (.var 0)) .nil .nil) (.num 9))) (.cons (.wr .u8 (.c2 .rd (.fn 14 (.c2 .drop (.var 4) (.var 0)) .nil .nil) (.num 10))) (.cons (.wr .u8 (.c2 .rd (.fn 14 (.c2 .drop (.var 4) (.var 0)) .nil .nil) (.num 11))) (.cons (.wr .u8 (.c2 .rd (.fn 14 (.c2 .drop (.var 4) (.var 0)) .nil .nil) (.num 12))) (.cons (.wr .u8 (.c2 .rd (.fn 14 (.c2 .drop (.var 4) (.var 0)) .nil .nil) (.num 13))) (.cons (.wr .u8 (.c2 .rd (.fn 14 (.c2 .drop (.var 4) (.var 0)) .nil .nil) (.num 14))) (.cons (.wr .u8 (.c2 .rd (.fn 14 (.c2 .drop (.var 4) (.var 0)) .nil .nil) (.num 15))) (.cons (.wr .u8 (.c2 .rd (.fn 14 (.c2 .drop (.var 4) (.var 0)) .nil .nil) (.num 16))) (.cons (.wr .u8 (.c2 .rd (.fn 14 (.c2 .drop (.var 4) (.var 0)) .nil .nil) (.num 17))) (.cons (.wr .u8 (.c2 .rd (.fn 14 (.c2 .drop (.var 4) (.var 0)) .nil .nil) (.num 18))) (.cons (.wr .u8 (.c2 .rd (.fn 14 (.c2 .drop (.var 4) (.var 0)) .nil .nil) (.num 19))) (.cons (.wr .u8 (.c2 .rd (.fn 14 (.c2 .drop (.var 4) (.var 0)) .nil .nil) (.num 20))) (.cons (.wr .u8 (.c2 .rd (.fn 14 (.c2 .drop (.var 4) (.var 0)) .nil .nil) (.num 21))) (.cons (.wr .u8 (.c2 .rd (.fn 14 (.c2 .drop (.var 4) (.var 0)) .nil .nil) (.num 22))) (.cons (.wr .u8 (.c2 .rd (.fn 14 (.c2 .drop (.var 4) (.var 0)) .nil .nil) (.num 23))) (.cons (.wr .u8 (.c2 .rd (.fn 14 (.c2 .drop (.var 4) (.var 0)) .nil .nil) (.num 24))) (.cons (.wr .u8 (.c2 .rd (.fn 14 (.c2 .drop (.var 4) (.var 0)) .nil .nil) (.num 25))) (.cons (.wr .u8 (.c2 .rd (.fn 14 (.c2 .drop (.var 4) (.var 0)) .nil .nil) (.num 26))) (.cons (.wr .u8 (.c2 .rd (.fn 14 (.c2 .drop (.var 4) (.var 0)) .nil .nil) (.num 27))) (.cons (.wr .u8 (.c2 .rd (.fn 14 (.c2 .drop (.var 4) (.var 0)) .nil .nil) (.num 28))) (.cons (.wr .u8 (.c2 .rd (.fn 14 (.c2 .drop (.var 4) (.var 0)) .nil .nil) (.num 29))) (.cons (.wr .u8 (.c2 .rd (.fn 14 (.c2 .drop (.var 4) (.var 0)) .nil .nil) (.num 30))) (.cons (.wr .u8 (.c2 .rd (.fn 14 (.c2 .drop (.var 4) (.var 0)) .nil .nil) (.num 31))) (.cons (.wr .u8 (.c2 .rd (.fn 14 (.c2 .drop (.var 4) (.var 0)) .nil .nil) (.num 32))) (.cons (.wr .u8 (.c2 .rd (.fn 14 (.c2 .drop (.var 4) (.var 0)) .nil .nil) (.num 33))) (.cons (.wr .u8 (.c2 .rd (.fn 14 (.c2 .drop (.var 4) (.var 0)) .nil .nil) (.num 34))) (.cons (.wr .u8 (.c2 .rd (.fn 14 (.c2 .drop (.var 4) (.var 0)) .nil .nil) (.num 35))) (.cons (.num 0) (.cons (.num 0) (.cons (.num 0) (.cons (.num 0) (.cons (.num 0) (.cons (.num 0) (.cons (.num 0) (.cons (.num 0) .nil))))))))))))))))))))))))))))))))))))))))))))))))))))))))))))))))))))))))) .nil .nil)), (.c1 .not (.c2 .eq (.wr .u8 (.fn 54 (.cons (.num 4) (.cons (.num 0) (.cons (.num 0) (.cons (.num 0) (.cons (.num 0) (.cons (.num 0) (.cons (.num 0) (.cons (.num 0) (.cons (.num 0) (.cons (.num 0) (.cons (.num 0) (.cons (.num 0) (.cons (.num 0) (.cons (.num 0) (.cons (.num 0) (.cons (.num 0) (.cons (.num 0) (.cons (.num 0) (.cons (.num 0) (.cons (.num 0) (.cons (.num 0) (.cons (.num 0) (.cons (.num 0) (.cons (.num 0) (.cons (.num 0) (.cons (.num 0) (.cons (.num 0) (.cons (.num 0) (.cons (.num 0) (.cons (.wr .u8 (.c2 .rd (.fn 14 (.c2 .drop (.var 4) (.var 0)) .nil .nil) (.num 0))) (.cons (.wr .u32 (.c2 .rd (.fn 14 (.c2 .drop (.var 4) (.var 0)) .nil .nil) (.num 1))) (.cons (.wr .u8 (.c2 .rd (.fn 14 (.c2 .drop (.var 4) (.var 0)) .nil .nil) (.num 2))) (.cons (.wr .u8 (.c2 .rd (.fn 14 (.c2 .drop (.var 4) (.var 0)) .nil .nil) (.num 3))) (.cons (.wr .u8 (.c2 .rd (.fn 14 (.c2 .drop (.var 4) (.var 0)) .nil .nil) (.num 4))) (.cons (.wr .u8 (.c2 .rd (.fn 14 (.c2 .drop (.var 4) (.var 0)) .nil .nil) (.num 5))) (.cons (.wr .u8 (.c2 .rd (.fn 14 (.c2 .drop (.var 4) (.var 0)) .nil .nil) (.num 6))) (.cons (.wr .u8 (.c2 .rd (.fn 14 (.c2 .drop (.var 4) (.var 0)) .nil .nil) (.num 7))) (.cons (.wr .u8 (.c2 .rd (.fn 14 (.c2 .drop (.var 4) (.var 0)) .nil .nil) (.num 8))) (.cons (.wr .u8 (.c2 .rd (.fn 14 (.c2 .drop (.var 4) (.var 0)) .nil .nil) (.num 9))) (.cons (.wr .u8 (.c2 .rd (.fn 14 (.c2 .drop (.var 4) (.var 0)) .nil .nil) (.num 10))) (.cons (.wr .u8 (.c2 .rd (.fn 14 (.c2 .drop (.var 4) (.var 0)) .nil .nil) (.num 11))) (.cons (.wr .u8 (.c2 .rd (.fn 14 (.c2 .drop (.var 4) (.var 0)) .nil .nil) (.num 12))) (.cons (.wr .u8 (.c2 .rd (.fn 14 (.c2 .drop (.var 4) (.var 0)) .nil .nil) (.num 13))) (.cons (.wr .u8 (.c2 .rd (.fn 14 (.c2 .drop (.var 4) (.var 0)) .nil .nil) (.num 14))) (.cons (.wr .u8 (.c2 .rd (.fn 14 (.c2 .drop (.var 4) (.var 0)) .nil .nil) (.num 15))) (.cons (.wr .u8 (.c2 .rd (.fn 14 (.c2 .drop (.var 4) (.var 0)) .nil .nil) (.num 16))) (.cons (.wr .u8 (.c2 .rd (.fn 14 (.c2 .drop (.var 4) (.var 0)) .nil .nil) (.num 17))) (.cons (.wr .u8 (.c2 .rd (.fn 14 (.c2 .drop (.var 4) (.var 0)) .nil .nil) (.num 18))) (.cons (.wr .u8 (.c2 .rd (.fn 14 (.c2 .drop (.var 4) (.var 0)) .nil .nil) (.num 19))) (.cons (.wr .u8 (.c2 .rd (.fn 14 (.c2 .drop (.var 4) (.var 0)) .nil .nil) (.num 20))) (.cons (.wr .u8 (.c2 .rd (.fn 14 (.c2 .drop (.var 4) (.var 0)) .nil .nil) (.num 21))) (.cons (.wr .u8 (.c2 .rd (.fn 14 (.c2 .drop (.var 4) (.var 0)) .nil .nil) (.num 22))) (.cons (.wr .u8 (.c2 .rd (.fn 14 (.c2 .drop (.var 4) (.var 0)) .nil .nil) (.num 23))) (.cons (.wr .u8 (.c2 .rd (.fn 14 (.c2 .drop (.var 4) (.var 0)) .nil .nil) (.num 24))) (.cons (.wr .u8 (.c2 .rd (.fn 14 (.c2 .drop (.var 4) (.var 0)) .nil .nil) (.num 25))) (.cons (.wr .u8 (.c2 .rd (.fn 14 (.c2 .drop (.var 4) (.var 0)) .nil .nil) (.num 26))) (.cons (.wr .u8 (.c2 .rd (.fn 14 (.c2 .drop (.var 4) (.var 0)) .nil .nil) (.num 27))) (.cons (.wr .u8 (.c2 .rd (.fn 14 (.c2 .drop (.var 4) (.var 0)) .nil .nil) (.num 28))) (.cons (.wr .u8 (.c2 .rd (.fn 14 (.c2 .drop (.var 4) (.var 0)) .nil .nil) (.num 29))) (.cons (.wr .u8 (.c2 .rd (.fn 14 (.c2 .drop (.var 4) (.var 0)) .nil .nil) (.num 30))) (.cons (.wr .u8 (.c2 .rd (.fn 14 (.c2 .drop (.var 4) (.var 0)) .nil .nil) (.num 31))) (.cons (.wr .u8 (.c2 .rd (.fn 14 (.c2 .drop (.var 4) (.var 0)) .nil .nil) (.num 32))) (.cons (.wr .u8 (.c2 .rd (.fn 14 (.c2 .drop (.var 4) (.var 0)) .nil .nil) (.num 33))) (.cons (.wr .u8 (.c2 .rd (.fn 14 (.c2 .drop (.var 4) (.var 0)) .nil .nil) (.num 34))) (.cons (.wr .u8 (.c2 .rd (.fn 14 (.c2 .drop (.var 4) (.var 0)) .nil .nil) (.num 35))) (.cons (.num 0) (.cons (.num 0) (.cons (.num 0) (.cons (.num 0) (.cons (.num 0) (.cons (.num 0) (.cons (.num 0) (.cons (.num 0) .nil))))))))))))))))))))))))))))))))))))))))))))))))))))))))))))))))))))))))) .nil .nil)) (.num 0))), (.wr .i64 (.c2 .add (.var 4) (.c2 .rd (.cons (.num 0) (.cons (.num 14) (.cons (.num 4) (.cons (.num 20) (.cons (.num 40) (.cons (.num 20) (.cons (.num 8) .nil))))))) (.var 2)))), (.c2 .app (.c2 .take (.c2 .mul (.var 1) (.num 73)) (.var 5)) (.cons (.num 4) (.cons (.num 0) (.cons (.num 0) (.cons (.num 0) (.cons (.num 0) (.cons (.num 0) (.cons (.num 0) (.cons (.num 0) (.cons (.num 0) (.cons (.num 0) (.cons (.num 0) (.cons (.num 0) (.cons (.num 0) (.cons (.num 0) (.cons (.num 0) (.cons (.num 0) (.cons (.num 0) (.cons (.num 0) (.cons (.num 0) (.cons (.num 0) (.cons (.num 0) (.cons (.num 0) (.cons (.num 0) (.cons (.num 0) (.cons (.num 0) (.cons (.num 0) (.cons (.num 0) (.cons (.num 0) (.cons (.num 0) (.cons (.wr .u8 (.c2 .rd (.fn 14 (.c2 .drop (.var 4) (.var 0)) .nil .nil) (.num 0))) (.cons (.wr .u32 (.c2 .rd (.fn 14 (.c2 .drop (.var 4) (.var 0)) .nil .nil) (.num 1))) (.cons (.wr .u8 (.c2 .rd (.fn 14 (.c2 .drop (.var 4) (.var 0)) .nil .nil) (.num 2))) (.cons (.wr .u8 (.c2 .rd (.fn 14 (.c2 .drop (.var 4) (.var 0)) .nil .nil) (.num 3))) (.cons (.wr .u8 (.c2 .rd (.fn 14 (.c2 .drop (.var 4) (.var 0)) .nil .nil) (.num 4))) (.cons (.wr .u8 (.c2 .rd (.fn 14 (.c2 .drop (.var 4) (.var 0)) .nil .nil) (.num 5))) (.cons (.wr .u8 (.c2 .rd (.fn 14 (.c2 .drop (.var 4) (.var 0)) .nil .nil) (.num 6))) (.cons (.wr .u8 (.c2 .rd (.fn 14 (.c2 .drop (.var 4) (.var 0)) .nil .nil) (.num 7))) (.cons (.wr .u8 (.c2 .rd (.fn 14 (.c2 .drop (.var 4) (.var 0)) .nil .nil) (.num 8))) (.cons (.wr .u8 (.c2 .rd (.fn 14 (.c2 .drop (.var 4) (.var 0)) .nil .nil) (.num 9))) (.cons (.wr .u8 (.c2 .rd (.fn 14 (.c2 .drop (.var 4) (.var 0)) .nil .nil) (.num 10))) (.cons (.wr .u8 (.c2 .rd (.fn 14 (.c2 .drop (.var 4) (.var 0)) .nil .nil) (.num 11))) (.cons (.wr .u8 (.c2 .rd (.fn 14 (.c2 .drop (.var 4) (.var 0)) .nil .nil) (.num 12))) (.cons (.wr .u8 (.c2 .rd (.fn 14 (.c2 .drop (.var 4) (.var 0)) .nil .nil) (.num 13))) (.cons (.wr .u8 (.c2 .rd (.fn 14 (.c2 .drop (.var 4) (.var 0)) .nil .nil) (.num 14))) (.cons (.wr .u8 (.c2 .rd (.fn 14 (.c2 .drop (.var 4) (.var 0)) .nil .nil) (.num 15))) (.cons (.wr .u8 (.c2 .rd (.fn 14 (.c2 .drop (.var 4) (.var 0)) .nil .nil) (.num 16))) (.cons (.wr .u8 (.c2 .rd (.fn 14 (.c2 .drop (.var 4) (.var 0)) .nil .nil) (.num 17))) (.cons (.wr .u8 (.c2 .rd (.fn 14 (.c2 .drop (.var 4) (.var 0)) .nil .nil) (.num 18))) (.cons (.wr .u8 (.c2 .rd (.fn 14 (.c2 .drop (.var 4) (.var 0)) .nil .nil) (.num 19))) (.cons (.wr .u8 (.c2 .rd (.fn 14 (.c2 .drop (.var 4) (.var 0)) .nil .nil) (.num 20))) (.cons (.wr .u8 (.c2 .rd (.fn 14 (.c2 .drop (.var 4) (.var 0)) .nil .nil) (.num 21))) (.cons (.wr .u8 (.c2 .rd (.fn 14 (.c2 .drop (.var 4) (.var 0)) .nil .nil) (.num 22))) (.cons (.wr .u8 (.c2 .rd (.fn 14 (.c2 .drop (.var 4) (.var 0)) .nil .nil) (.num 23))) (.cons (.wr .u8 (.c2 .rd (.fn 14 (.c2 .drop (.var 4) (.var 0)) .nil .nil) (.num 24))) (.cons (.wr .u8 (.c2 .rd (.fn 14 (.c2 .drop (.var 4) (.var 0)) .nil .nil) (.num 25))) (.cons (.wr .u8 (.c2 .rd (.fn 14 (.c2 .drop (.var 4) (.var 0)) .nil .nil) (.num 26))) (.cons (.wr .u8 (.c2 .rd (.fn 14 (.c2 .drop (.var 4) (.var 0)) .nil .nil) (.num 27))) (.cons (.wr .u8 (.c2 .rd (.fn 14 (.c2 .drop (.var 4) (.var 0)) .nil .nil) (.num 28))) (.cons (.wr .u8 (.c2 .rd (.fn 14 (.c2 .drop (.var 4) (.var 0)) .nil .nil) (.num 29))) (.cons (.wr .u8 (.c2 .rd (.fn 14 (.c2 .drop (.var 4) (.var 0)) .nil .nil) (.num 30))) (.cons (.wr .u8 (.c2 .rd (.fn 14 (.c2 .drop (.var 4) (.var 0)) .nil .nil) (.num 31))) (.cons (.wr .u8 (.c2 .rd (.fn 14 (.c2 .drop (.var 4) (.var 0)) .nil .nil) (.num 32))) (.cons (.wr .u8 (.c2 .rd (.fn 14 (.c2 .drop (.var 4) (.var 0)) .nil .nil) (.num 33))) (.cons (.wr .u8 (.c2 .rd (.fn 14 (.c2 .drop (.var 4) (.var 0)) .nil .nil) (.num 34))) (.cons (.wr .u8 (.c2 .rd (.fn 14 (.c2 .drop (.var 4) (.var 0)) .nil .nil) (.num 35))) (.cons (.num 0) (.cons (.num 0) (.cons (.num 0) (.cons (.num 0) (.cons (.num 0) (.cons (.num 0) (.cons (.num 0) (.cons (.num 0) .nil))))))))))))))))))))))))))))))))))))))))))))))))))))))))))))))))))))))))))])))
       (.split (.c2 .eq (.var 2) (.num 5))
        (.chk (.c1 (.kin [.u8]) (.c2 .drop (.var 4) (.var 0)))
        (.split (.c1 .not (.c2 .eq (.fn 25 (.c2 .drop (.var 4) (.var 0)) .nil .nil) (.num 0)))
         (.ret (.t [.c (.sn), .c (.sn), .c (.i .i64 (.fn 25 (.c2 .drop (.var 4) (.var 0)) .nil .nil))], ⟨[], [], 67, 6, []⟩))
         (.back 0 1 [(.c2 .add (.var 1) (.num 1)), (.wr .u8 (.fn 54 (.cons (.num 5) (.cons (.num 0) (.cons (.num 0) (.cons (.num 0) (.cons (.num 0) (.cons (.num 0) (.cons (.num 0) (.cons (.num 0) (.cons (.num 0) (.cons (.num 0) (.cons (.num 0) (.cons (.num 0) (.cons (.num 0) (.cons (.num 0) (.cons (.num 0) (.cons (.num 0) (.cons (.num 0) (.cons (.num 0) (.cons (.num 0) (.cons (.num 0) (.cons (.num 0) (.cons (.num 0) (.cons (.num 0) (.cons (.num 0) (.cons (.num 0) (.cons (.num 0) (.cons (.num 0) (.cons (.num 0) (.cons (.num 0) (.cons (.num 0) (.cons (.num 0) (.cons (.num 0) (.cons (.num 0) (.cons (.num 0) (.cons (.num 0) (.cons (.num 0) (.cons (.num 0) (.cons (.num 0) (.cons (.num 0) (.cons (.num 0) (.cons (.num 0) (.cons (.num 0) (.cons (.num 0) (.cons (.num 0) (.cons (.num 0) (.cons (.num 0) (.cons (.num 0) (.cons (.num 0) (.cons (.num 0) (.cons (.num 0) (.cons (.num 0) (.cons (.num 0) (.cons (.num 0) (.cons (.num 0) (.cons (.num 0) (.cons (.num 0) (.cons (.num 0) (.cons (.num 0) (.cons (.num 0) (.cons (.num 0) (.cons (.num 0) (.cons (.num 0) (.cons (.num 0) (.cons (.num 0) (.cons (.num 0) (.cons (.wr .u16 (.c2 .rd (.fn 15 (.c2 .drop (.var 4) (.var 0)) .nil .nil) (.num 0))) (.cons (.wr .u16 (.c2 .rd (.fn 15 (.c2 .drop (.var 4) (.var 0)) .nil .nil) (.num 1))) (.cons (.wr .u32 (.c2 .rd (.fn 15 (.c2 .drop (.var 4) (.var 0)) .nil .nil) (.num 2))) (.cons (.wr .u32 (.c2 .rd (.fn 15 (.c2 .drop (.var 4) (.var 0)) .nil .nil) (.num 3))) (.cons (.wr .u8 (.c2 .rd (.fn 15 (.c2 .drop (.var 4) (.var 0)) .nil .nil) (.num 4))) (.cons (.wr .u16 (.c2 .rd (.fn 15 (.c2 .drop (.var 4) (.var 0)) .nil .nil) (.num 5))) (.cons (.num 0) (.cons (.num 0) .nil))))))))))))))))))))))))))))))))))))))))))))))))))))))))))))))))))))))))) .nil .nil)), (.c1 .not (.c2 .eq (.wr .u8 (.fn 54 (.cons (.num 5) (.cons (.num 0) (.cons (.num 0) (.cons (.num 0) (.cons (.num 0) (.cons (.num 0) (.cons (.num 0) (.cons (.num 0) (.cons (.num 0) (.cons (.num 0) (.cons (.num 0) (.cons (.num 0) (.cons (.num 0) (.cons (.num 0) (.cons (.num 0) (.cons (.num 0) (.cons (.num 0) (.cons (.num 0) (.cons (.num 0) (.cons (.num 0) (.cons (.num 0) (.cons (.num 0) (.cons (.num 0) (.cons (.num 0) (.cons (.num 0) (.cons (.num 0) (.cons (.num 0) (.cons (.num 0) (.cons (.num 0) (.cons (.num 0) (.cons (.num 0) (.cons (.num 0) (.cons (.num 0) (.cons (.num 0) (.cons (.num 0) (.cons (.num 0) (.cons (.num 0) (.cons (.num 0) (.cons (.num 0) (.cons (.num 0) (.cons (.num 0) (.cons (.num 0) (.cons (.num 0) (.cons (.num 0) (.cons (.num 0) (.cons (.num 0) (.cons (.num 0) (.cons (.num 0) (.cons (.num 0) (.cons (.num 0) (.cons (.num 0) (.cons (.num 0) (.cons (.num 0) (.cons (.num 0) (.cons (.num 0) (.cons (.num 0) (.cons (.num 0) (.cons (.num 0) (.cons (.num 0) (.cons (.num 0) (.cons (.num 0) (.cons (.num 0) (.cons (.num 0) (.cons (.num 0) (.cons (.num 0) (.cons (.wr .u16 (.c2 .rd (.fn 15 (.c2 .drop (.var 4) (.var 0)) .nil .nil) (.num 0))) (.cons (.wr .u16 (.c2 .rd (.fn 15 (.c2 .drop (.var 4) (.var 0)) .nil .nil) (.num 1))) (.cons (.wr .u32 (.c2 .rd (.fn 15 (.c2 .drop (.var 4) (.var 0)) .nil .nil) (.num 2))) (.cons (.wr .u32 (.c2 .rd (.fn 15 (.c2 .drop (.var 4) (.var 0)) .nil .nil) (.num 3))) (.cons (.wr .u8 (.c2 .rd (.fn 15 (.c2 .drop (.var 4) (.var 0)) .nil .nil) (.num 4))) (.cons (.wr .u16 (.c2 .rd (.fn 15 (.c2 .drop (.var 4) (.var 0)) .nil .nil) (.num 5))) (.cons (.num 0) (.cons (.num 0) .nil))))))))))))))))))))))))))))))))))))))))))))))))))))))))))))))))))))))))) .nil .nil)) (.num 0))), (.wr .i64 (.c2 .add (.var 4) (.c2 .rd (.cons (.num 0) (.cons (.num 14) (.cons (.num 4) (.cons (.num 20) (.cons (.num 40) (.cons (.num 20) (.cons (.num 8) .nil))))))) (.var 2)))), (.c2 .app (.c2 .take (.c2 .mul (.var 1) (.num 73)) (.var 5)) (.cons (.num 5) (.cons (.num 0) (.cons (.num 0) (.cons (.num 0) (.cons (.num 0) (.cons (.num 0) (.cons (.num 0) (.cons (.num 0) (.cons (.num 0) (.cons (.num 0) (.cons (.num 0) (.cons (.num 0) (.cons (.num 0) (.cons (.num 0) (.cons (.num 0) (.cons (.num 0) (.cons (.num 0) (.cons (.num 0) (.cons (.num 0) (.cons (.num 0) (.cons (.num 0) (.cons (.num 0) (.cons (.num 0) (.cons (.num 0) (.cons (.num 0) (.cons (.num 0) (.cons (.num 0) (.cons (.num 0) (.cons (.num 0) (.cons (.num 0) (.cons (.num 0) (.cons (.num 0) (.cons (.num 0) (.cons (.num 0) (.cons (.num 0) (.cons (.num 0) (.cons (.num 0) (.cons (.num 0) (.cons (.num 0) (.cons (.num 0) (.cons (.num 0) (.cons (.num 0) (.cons (.num 0) (.cons (.num 0) (.cons (.num 0) (.cons (.num 0) (.cons (.num 0) (.cons (.num 0) (.cons (.num 0) (.cons (.num 0) (.cons (.num 0) (.cons (.num 0) (.cons (.num 0) (.cons (.num 0) (.cons (.num 0) (.cons (.num 0) (.cons (.num 0) (.cons (.num 0) (.cons (.num 0) (.cons (.num 0) (.cons (.num 0) (.cons (.num 0) (.cons (.num 0) (.cons (.num 0) (.cons (.num 0) (.cons (.wr .u16 (.c2 .rd (.fn 15 (.c2 .drop (.var 4) (.var 0)) .nil .nil) (.num 0))) (.cons (.wr .u16 (.c2 .rd (.fn 15 (.c2 .drop (.var 4) (.var 0)) .nil .nil) (.num 1))) (.cons (.wr .u32 (.c2 .rd (.fn 15 (.c2 .drop (.var 4) (.var 0)) .nil .nil) (.num 2))) (.cons (.wr .u32 (.c2 .rd (.fn 15 (.c2 .drop (.var 4) (.var 0)) .nil .nil) (.num 3))) (.cons (.wr .u8 (.c2 .rd (.fn 15 (.c2 .drop (.var 4) (.var 0)) .nil .nil) (.num 4))) (.cons (.wr .u16 (.c2 .rd (.fn 15 (.c2 .drop (.var 4) (.var 0)) .nil .nil) (.num 5))) (.cons (.num 0) (.cons (.num 0) .nil))))))))))))))))))))))))))))))))))))))))))))))))))))))))))))))))))))))))))])))
        (.chk (.c1 (.kin [.u8]) (.c2 .drop (.var 4) (.var 0)))
        (.split (.c1 .not (.c2 .eq (.fn 26 (.c2 .drop (.var 4) (.var 0)) .nil .nil) (.num 0)))
         (.ret (.t [.c (.sn), .c (.sn), .c (.i .i64 (.fn 26 (.c2 .drop (.var 4) (.var 0)) .nil .nil))], ⟨[], [], 67, 6, []⟩))
         (.back 0 1 [(.c2 .add (.var 1) (.num 1)), (.wr .u8 (.fn 54 (.cons (.num 6) (.cons (.num 0) (.cons (.num 0) (.cons (.num 0) (.cons (.num 0) (.cons (.num 0) (.cons (.num 0) (.cons (.num 0) (.cons (.num 0) (.cons (.num 0) (.cons (.num 0) (.cons (.num 0) (.cons (.num 0) (.cons (.num 0) (.cons (.num 0) (.cons (.num 0) (.cons (.num 0) (.cons (.num 0) (.cons (.num 0) (.cons (.num 0) (.cons (.num 0) (.cons (.num 0) (.cons (.num 0) (.cons (.num 0) (.cons (.num 0) (.cons (.num 0) (.cons (.num 0) (.cons (.num 0) (.cons (.num 0) (.cons (.num 0) (.cons (.num 0) (.cons (.num 0) (.cons (.num 0) (.cons (.num 0) (.cons (.num 0) (.cons (.num 0) (.cons (.num 0) (.cons (.num 0) (.cons (.num 0) (.cons (.num 0) (.cons (.num 0) (.cons (.num 0) (.cons (.num 0) (.cons (.num 0) (.cons (.num 0) (.cons (.num 0) (.cons (.num 0) (.cons (.num 0) (.cons (.num 0) (.cons (.num 0) (.cons (.num 0) (.cons (.num 0) (.cons (.num 0) (.cons (.num 0) (.cons (.num 0) (.cons (.num 0) (.cons (.num 0) (.cons (.num 0) (.cons (.num 0) (.cons (.num 0) (.cons (.num 0) (.cons (.num 0) (.cons (.num 0) (.cons (.num 0) (.cons (.num 0) (.cons (.num 0) (.cons (.num 0) (.cons (.num 0) (.cons (.num 0) (.cons (.num 0) (.cons (.num 0) (.cons (.wr .u16 (.c2 .rd (.fn 16 (.c2 .drop (.var 4) (.var 0)) .nil .nil) (.num 0))) (.cons (.wr .u16 (.c2 .rd (.fn 16 (.c2 .drop (.var 4) (.var 0)) .nil .nil) (.num 1))) .nil))))))))))))))))))))))))))))))))))))))))))))))))))))))))))))))))))))))))) .nil .nil)), (.c1 .not (.c2 .eq (.wr .u8 (.fn 54 (.cons (.num 6) (.cons (.num 0) (.cons (.num 0) (.cons (.num 0) (.cons (.num 0) (.cons (.num 0) (.cons (.num 0) (.cons (.num 0) (.cons (.num 0) (.cons (.num 0) (.cons (.num 0) (.cons (.num 0) (.cons (.num 0) (.cons (.num 0) (.cons (.num 0) (.cons (.num 0) (.cons (.num 0) (.cons (.num 0) (.cons (.num 0) (.cons (.num 0) (.cons (.num 0) (.cons (.num 0) (.cons (.num 0) (.cons (.num 0) (.cons (.num 0) (.cons (.num 0) (.cons (.num 0) (.cons (.num 0) (.cons (.num 0) (.cons (.num 0) (.cons (.num 0) (.cons (.num 0) (.cons (.num 0) (.cons (.num 0) (.cons (.num 0) (.cons (.num 0) (.cons (.num 0) (.cons (.num 0) (.cons (.num 0) (.cons (.num 0) (.cons (.num 0) (.cons (.num 0) (.cons (.num 0) (.cons (.num 0) (.cons (.num 0) (.cons (.num 0) (.cons (.num 0) (.cons (.num 0) (.cons (.num 0) (.cons (.num 0) (.cons (.num 0) (.cons (.num 0) (.cons (.num 0) (.cons (.num 0) (.cons (.num 0) (.cons (.num 0) (.cons (.num 0) (.cons (.num 0) (.cons (.num 0) (.cons (.num 0) (.cons (.num 0) (.cons (.num 0) (.cons (.num 0) (.cons (.num 0) (.cons (.num 0) (.cons (.num 0) (.cons (.num 0) (.cons (.num 0) (.cons (.num 0) (.cons (.num 0) (.cons (.num 0) (.cons (.wr .u16 (.c2 .rd (.fn 16 (.c2 .drop (.var 4) (.var 0)) .nil .nil) (.num 0))) (.cons (.wr .u16 (.c2 .rd (.fn 16 (.c2 .drop (.var 4) (.var 0)) .nil .nil) (.num 1))) .nil))))))))))))))))))))))))))))))))))))))))))))))))))))))))))))))))))))))))) .nil .nil)) (.num 0))), (.wr .i64 (.c2 .add (.var 4) (.c2 .rd (.cons (.num 0) (.cons (.num 14) (.cons (.num 4) (.cons (.num 20) (.cons (.num 40) (.cons (.num 20) (.cons (.num 8) .nil))))))) (.var 2)))), (.c2 .app (.c2 .take (.c2 .mul (.var 1) (.num 73)) (.var 5)) (.cons (.num 6) (.cons (.num 0) (.cons (.num 0) (.cons (.num 0) (.cons (.num 0) (.cons (.num 0) (.cons (.num 0) (.cons (.num 0) (.cons (.num 0) (.cons (.num 0) (.cons (.num 0) (.cons (.num 0) (.cons (.num 0) (.cons (.num 0) (.cons (.num 0) (.cons (.num 0) (.cons (.num 0) (.cons (.num 0) (.cons (.num 0) (.cons (.num 0) (.cons (.num 0) (.cons (.num 0) (.cons (.num 0) (.cons (.num 0) (.cons (.num 0) (.cons (.num 0) (.cons (.num 0) (.cons (.num 0) (.cons (.num 0) (.cons (.num 0) (.cons (.num 0) (.cons (.num 0) (.cons (.num 0) (.cons (.num 0) (.cons (.num 0) (.cons (.num 0) (.cons (.num 0) (.cons (.num 0) (.cons (.num 0) (.cons (.num 0) (.cons (.num 0) (.cons (.num 0) (.cons (.num 0) (.cons (.num 0) (.cons (.num 0) (.cons (.num 0) (.cons (.num 0) (.cons (.num 0) (.cons (.num 0) (.cons (.num 0) (.cons (.num 0) (.cons (.num 0) (.cons (.num 0) (.cons (.num 0) (.cons (.num 0) (.cons (.num 0) (.cons (.num 0) (.cons (.num 0) (.cons (.num 0) (.cons (.num 0) (.cons (.num 0) (.cons (.num 0) (.cons (.num 0) (.cons (.num 0) (.cons (.num 0) (.cons (.num 0) (.cons (.num 0) (.cons (.num 0) (.cons (.num 0) (.cons (.num 0) (.cons (.num 0) (.cons (.wr .u16 (.c2 .rd (.fn 16 (.c2 .drop (.var 4) (.var 0)) .nil .nil) (.num 0))) (.cons (.wr .u16 (.c2 .rd (.fn 16 (.c2 .drop (.var 4) (.var 0)) .nil .nil) (.num 1))) .nil))))))))))))))))))))))))))))))))))))))))))))))))))))))))))))))))))))))))))])))))))))
  (.ret (.t [.c (.s 1 73 0 (.num 0) (.var 1)), .c (.s 2 1 0 (.num 0) (.c2 .sub (.c1 .len (.var 0)) (.var 4))), .c (.i .i64 (.num 0))], ⟨[], [(2, some ⟨true, .row [.u8] (.c2 .take (.c2 .sub (.c1 .len (.var 0)) (.var 4)) (.c2 .drop (.var 4) (.var 0)))⟩), (1, some ⟨true, .row [.u8, .u8, .u8, .u8, .u8, .u8, .u8, .u8, .u8, .u8, .u8, .u8, .u8, .u16, .u8, .u16, .u16, .u8, .u8, .u8, .u16, .u8, .u8, .u8, .u8, .u8, .u8, .u8, .u8, .u8, .u32, .u8, .u8, .u8, .u8, .u8, .u8, .u8, .u8, .u8, .u8, .u8, .u8, .u8, .u8, .u8, .u8, .u8, .u8, .u8, .u8, .u8, .u8, .u8, .u8, .u8, .u8, .u8, .u8, .u8, .u8, .u8, .u8, .u8, .u8, .u16, .u16, .u32, .u32, .u8, .u16, .u16, .u16] (.var 5)⟩)], 3, 6, []⟩))))
theorem treePePeelR_is : funTree (ctxN Go.Proofs.Try.prog annsPe consPe 8) annsPe 12 (tPeel 1 2).vs (tPeel 1 2).bs (tPeel 1 2).n (preF (tPeel 1 2).res) = treePePeelR := by kernel_rfl
end Go.Proofs.Ytbiodlomlendkaa.Sx
/- Sx laws of peeling: the contracts of Next and Peel, the program's and the document's. Conditions: none. -/
set_option linter.unusedVariables false
set_option linter.unusedSimpArgs false
namespace Go.Proofs.Ytbiodlomlendkaa.Sx
open Go
theorem next_ok {Φ : Sig} (hΦ : PeSig Φ) : TmplOk Go.Proofs.Try.prog Φ 18 tNext := by
  refine tmpl_of noCons treePeNext_is (fun ρ res hres => ⟨eqJ, ?_⟩)
  obtain ⟨_, hres⟩ := inKs_some hres
  obtain rfl := ret_some hres
  have hN := next_vars Φ ρ
  refine ⟨fun c1 => ?_, fun c1 => ?_⟩
  · refine ⟨fun c2 => ?_, fun c2 => ?_⟩
    · simp at c1 c2
      refine leaf_next hΦ (z := 2) ?_ rfl (by decide)
      rw [hN]
      simp only [byT, byP]
      repeat' split
      all_goals first | rfl | omega
    · refine ⟨fun c3 => ?_, fun c3 => ?_⟩
      · simp at c1 c2 c3
        refine leaf_next hΦ (z := 3) ?_ rfl (by decide)
        rw [hN]
        simp only [byT, byP]
        repeat' split
        all_goals first | rfl | omega
      · refine ⟨fun c4 => ?_, fun c4 => ?_⟩
        · simp at c1 c2 c3 c4
          refine leaf_next hΦ (z := 4) ?_ rfl (by decide)
          rw [hN]
          simp only [byT, byP]
          repeat' split
          all_goals first | rfl | omega
        · simp at c1 c2 c3 c4
          refine leaf_next hΦ (z := 0) ?_ rfl (by decide)
          rw [hN]
          simp only [byT, byP]
          repeat' split
          all_goals first | rfl | omega
  · refine ⟨fun c5 => ?_, fun c5 => ?_⟩
    · refine ⟨fun c6 => ?_, fun c6 => ?_⟩
      · simp at c1 c5 c6
        refine leaf_next hΦ (z := 2) ?_ rfl (by decide)
        rw [hN]
        simp only [byT, byP]
        repeat' split
        all_goals first | rfl | omega
      · refine ⟨fun c7 => ?_, fun c7 => ?_⟩
        · simp at c1 c5 c6 c7
          refine leaf_next hΦ (z := 3) ?_ rfl (by decide)
          rw [hN]
          simp only [byT, byP]
          repeat' split
          all_goals first | rfl | omega
        · refine ⟨fun c8 => ?_, fun c8 => ?_⟩
          · simp at c1 c5 c6 c7 c8
            refine leaf_next hΦ (z := 4) ?_ rfl (by decide)
            rw [hN]
            simp only [byT, byP]
            repeat' split
            all_goals first | rfl | omega
          · simp at c1 c5 c6 c7 c8
            refine leaf_next hΦ (z := 0) ?_ rfl (by decide)
            rw [hN]
            simp only [byT, byP]
            repeat' split
            all_goals first | rfl | omega
    · refine ⟨fun c9 => ?_, fun c9 => ?_⟩
      · refine ⟨fun c10 => ?_, fun c10 => ?_⟩
        · simp at c1 c5 c9 c10
          refine leaf_next hΦ (z := 5) ?_ rfl (by decide)
          rw [hN]
          simp only [byT, byP]
          repeat' split
          all_goals first | rfl | omega
        · refine ⟨fun c11 => ?_, fun c11 => ?_⟩
          · simp at c1 c5 c9 c10 c11
            refine leaf_next hΦ (z := 6) ?_ rfl (by decide)
            rw [hN]
            simp only [byT, byP]
            repeat' split
            all_goals first | rfl | omega
          · simp at c1 c5 c9 c10 c11
            refine leaf_next hΦ (z := 0) ?_ rfl (by decide)
            rw [hN]
            simp only [byT, byP]
            repeat' split
            all_goals first | rfl | omega
      · refine ⟨fun c12 => ?_, fun c12 => ?_⟩
        · refine ⟨fun c13 => ?_, fun c13 => ?_⟩
          · simp at c1 c5 c9 c12 c13
            refine leaf_next hΦ (z := 5) ?_ rfl (by decide)
            rw [hN]
            simp only [byT, byP]
            repeat' split
            all_goals first | rfl | omega
          · refine ⟨fun c14 => ?_, fun c14 => ?_⟩
            · simp at c1 c5 c9 c12 c13 c14
              refine leaf_next hΦ (z := 6) ?_ rfl (by decide)
              rw [hN]
              simp only [byT, byP]
              repeat' split
              all_goals first | rfl | omega
            · simp at c1 c5 c9 c12 c13 c14
              refine leaf_next hΦ (z := 0) ?_ rfl (by decide)
              rw [hN]
              simp only [byT, byP]
              repeat' split
              all_goals first | rfl | omega
        · simp at c1 c5 c9 c12
          refine leaf_next hΦ (z := 0) ?_ rfl (by decide)
          rw [hN]
          simp only [byT, byP]
          repeat' split
          all_goals first | rfl | omega
theorem nextR_ok {Φ : Sig} (hΦ : PeSig Φ) : TmplOk Go.Proofs.Try.prog Φ 19 tNext := by
  refine tmpl_of noCons treePeNextR_is (fun ρ res hres => ⟨eqJ, ?_⟩)
  obtain ⟨_, hres⟩ := inKs_some hres
  obtain rfl := ret_some hres
  have hN := next_vars Φ ρ
  refine ⟨fun c1 => ?_, fun c1 => ?_⟩
  · refine ⟨fun c2 => ?_, fun c2 => ?_⟩
    · simp at c1 c2
      refine leaf_next hΦ (z := 2) ?_ rfl (by decide)
      rw [hN]
      simp only [byT, byP]
      repeat' split
      all_goals first | rfl | omega
    · refine ⟨fun c3 => ?_, fun c3 => ?_⟩
      · simp at c1 c2 c3
        refine leaf_next hΦ (z := 3) ?_ rfl (by decide)
        rw [hN]
        simp only [byT, byP]
        repeat' split
        all_goals first | rfl | omega
      · refine ⟨fun c4 => ?_, fun c4 => ?_⟩
        · simp at c1 c2 c3 c4
          refine leaf_next hΦ (z := 4) ?_ rfl (by decide)
          rw [hN]
          simp only [byT, byP]
          repeat' split
          all_goals first | rfl | omega
        · simp at c1 c2 c3 c4
          refine leaf_next hΦ (z := 0) ?_ rfl (by decide)
          rw [hN]
          simp only [byT, byP]
          repeat' split
          all_goals first | rfl | omega
  · refine ⟨fun c5 => ?_, fun c5 => ?_⟩
    · refine ⟨fun c6 => ?_, fun c6 => ?_⟩
      · simp at c1 c5 c6
        refine leaf_next hΦ (z := 2) ?_ rfl (by decide)
        rw [hN]
        simp only [byT, byP]
        repeat' split
        all_goals first | rfl | omega
      · refine ⟨fun c7 => ?_, fun c7 => ?_⟩
        · simp at c1 c5 c6 c7
          refine leaf_next hΦ (z := 3) ?_ rfl (by decide)
          rw [hN]
          simp only [byT, byP]
          repeat' split
          all_goals first | rfl | omega
        · refine ⟨fun c8 => ?_, fun c8 => ?_⟩
          · simp at c1 c5 c6 c7 c8
            refine leaf_next hΦ (z := 4) ?_ rfl (by decide)
            rw [hN]
            simp only [byT, byP]
            repeat' split
            all_goals first | rfl | omega
          · simp at c1 c5 c6 c7 c8
            refine leaf_next hΦ (z := 0) ?_ rfl (by decide)
            rw [hN]
            simp only [byT, byP]
            repeat' split
            all_goals first | rfl | omega
    · refine ⟨fun c9 => ?_, fun c9 => ?_⟩
      · refine ⟨fun c10 => ?_, fun c10 => ?_⟩
        · simp at c1 c5 c9 c10
          refine leaf_next hΦ (z := 5) ?_ rfl (by decide)
          rw [hN]
          simp only [byT, byP]
          repeat' split
          all_goals first | rfl | omega
        · refine ⟨fun c11 => ?_, fun c11 => ?_⟩
          · simp at c1 c5 c9 c10 c11
            refine leaf_next hΦ (z := 6) ?_ rfl (by decide)
            rw [hN]
            simp only [byT, byP]
            repeat' split
            all_goals first | rfl | omega
          · simp at c1 c5 c9 c10 c11
            refine leaf_next hΦ (z := 0) ?_ rfl (by decide)
            rw [hN]
            simp only [byT, byP]
            repeat' split
            all_goals first | rfl | omega
      · refine ⟨fun c12 => ?_, fun c12 => ?_⟩
        · refine ⟨fun c13 => ?_, fun c13 => ?_⟩
          · simp at c1 c5 c9 c12 c13
            refine leaf_next hΦ (z := 5) ?_ rfl (by decide)
            rw [hN]
            simp only [byT, byP]
            repeat' split
            all_goals first | rfl | omega
          · refine ⟨fun c14 => ?_, fun c14 => ?_⟩
            · simp at c1 c5 c9 c12 c13 c14
              refine leaf_next hΦ (z := 6) ?_ rfl (by decide)
              rw [hN]
              simp only [byT, byP]
              repeat' split
              all_goals first | rfl | omega
            · simp at c1 c5 c9 c12 c13 c14
              refine leaf_next hΦ (z := 0) ?_ rfl (by decide)
              rw [hN]
              simp only [byT, byP]
              repeat' split
              all_goals first | rfl | omega
        · simp at c1 c5 c9 c12
          refine leaf_next hΦ (z := 0) ?_ rfl (by decide)
          rw [hN]
          simp only [byT, byP]
          repeat' split
          all_goals first | rfl | omega
theorem consPe_ok {Φ : Sig} (hΦ : PeSig Φ) : ConsOk Go.Proofs.Try.prog Φ consPe := moreCons (con_ok clone_ok) (moreCons (con_ok (next_ok hΦ)) (moreCons (con_ok (nextR_ok hΦ)) (consRd_ok hΦ.toHdSig)))
set_option maxRecDepth 100000 in
theorem peel_ok {Φ : Sig} (hΦ : PeSig Φ) : TmplOk Go.Proofs.Try.prog Φ 11 (tPeel 3 5) := by
  refine tmpl_of (consPe_ok hΦ) treePePeel_is (fun ρ res hres => ⟨peJ, ?_⟩)
  obtain ⟨h0, hres⟩ := short_some hres
  obtain ⟨hb, hres⟩ := bytes_some hres
  have hr := pe_res hΦ hres
  refine ⟨⟨0, 1, 0, rfl, rfl, rfl, by show (T.den Φ ρ (.c1 .len (.var 0))).int = _; simp, pe_start⟩, ?_⟩
  rintro ds hlen ⟨c, k, a, i0, i1, i3, i4, hst⟩
  have e0 : upd ρ 1 ds 0 = ρ 0 := upd_lo ds (by decide)
  have e1 : upd ρ 1 ds 1 = nthD ds 0 := upd_at (i := 0) (by omega)
  have e2 : upd ρ 1 ds 2 = nthD ds 1 := upd_at (i := 1) (by omega)
  have e3 : upd ρ 1 ds 3 = nthD ds 2 := upd_at (i := 2) (by omega)
  have e4 : upd ρ 1 ds 4 = nthD ds 3 := upd_at (i := 3) (by omega)
  have e5 : upd ρ 1 ds 5 = nthD ds 4 := upd_at (i := 4) (by omega)
  have e6 : upd ρ 1 ds 6 = nthD ds 5 := upd_at (i := 5) (by omega)
  generalize upd ρ 1 ds = ρ' at *
  have v1 : (ρ' 1).int = c := by rw [e1]; exact i0
  have v2 : (ρ' 2).int = k := by rw [e2]; exact i1
  have v4 : (ρ' 4).int = a := by rw [e4]; exact i3
  have v5 : (ρ' 5).int = (ρ 0).list.length - a := by rw [e5]; exact i4
  rw [← e6, ← e3] at hst
  have st := hst
  obtain ⟨s1, s2, s3, s4, s5, s6, s7⟩ := hst
  have hD : (T.den Φ ρ' (.c2 .drop (.var 4) (.var 0))).list = (ρ 0).list.drop a := by rw [list_drop, den_var, den_var, v4, e0, Int.toNat_natCast]
  refine ⟨?_, fun m1 => ⟨fun m2 => ?_, fun m2 => ?_⟩, fun m1 => ?_⟩
  · intro t p hm
    simp only [List.mem_cons, Prod.mk.injEq, List.not_mem_nil, or_false] at hm
    rcases hm with ⟨rfl, rfl⟩ | ⟨rfl, rfl⟩ | ⟨rfl, rfl⟩ | ⟨rfl, rfl⟩ | ⟨rfl, rfl⟩ | ⟨rfl, rfl⟩ | ⟨rfl, rfl⟩ | ⟨rfl, rfl⟩ | ⟨rfl, rfl⟩
    · rw [le_t, den_var, v1]; exact Int.natCast_nonneg _
    · rw [le_t, den_var, v1]; show (c : Int) ≤ 8; omega
    · rw [le_t, den_var, v2]; exact Int.natCast_nonneg _
    · rw [le_t, den_var, v2]; show (k : Int) ≤ 6; omega
    · rw [le_t, den_var, v4]; exact Int.natCast_nonneg _
    · rw [le_t, den_var, v5]; show (0 : Int) ≤ _; omega
    · rw [eq_t, int_add, int_len, den_var, den_var, den_var, v4, v5, e0]; omega
    · rw [eq_t, int_len, int_mul, den_var, den_var, v1, s4]; show ((73 * c : Nat) : Int) = c * 73; omega
    · show inKinds _ 0 (ρ' 6).list = true; exact s5
  · rw [eq_t, den_var, v1] at m2
    have hc : c = 8 := by have : (c : Int) = 8 := m2; omega
    exact leaf_pe_err hr (pe_many st m1 hc) rfl (by decide) (by decide)
  · rw [eq_f, den_var, v1] at m2
    have hc : c < 8 := by have : ¬ (c : Int) = 8 := m2; omega
    have hk1 := (s6 m1).1
    refine ⟨fun q => ?_, fun n0 => ?_⟩
    · exfalso; rw [eq_t, den_var, v2] at q; have : (k : Int) = 0 := q; omega
    refine ⟨fun q => ?_, fun n1 => ?_⟩
    · rw [eq_t, den_var, v2] at q
      have hj : k = 1 := by have : (k : Int) = 1 := q; omega
      subst hj
      have hE : (T.den Φ ρ' (.fn 21 (.c2 .drop (.var 4) (.var 0)) .nil .nil)).int = rdErr 1 ((ρ 0).list.drop a) := by rw [den_fn, hΦ.rdErr 1 _ _ _ (by decide) (by decide), hD]; rfl
      have hF : (T.den Φ ρ' (fn1 11 (.c2 .drop (.var 4) (.var 0)))).list = rdRow 1 ((ρ 0).list.drop a) := by show (Φ (10 + 1) (T.den Φ ρ' (.c2 .drop (.var 4) (.var 0))) _ _).list = _; rw [hΦ.rdRow 1 _ _ _ (by decide) (by decide), hD]; rfl
      have hH := den_hdT (k := 1) (x := (.var 2)) ⟨by decide, by decide⟩ v2 hF
      refine ⟨by rw [bytes_t, hD]; exact bytes_drop hb a, fun er => ?_, fun er => ?_⟩
      · rw [not_t, eq_f, hE] at er
        exact leaf_pe_err hr (pe_err st m1 hc er) hE er (by decide)
      · rw [not_f, eq_t, hE] at er
        obtain ⟨hsz, hnx⟩ := pe_step st m1 hc er
        refine ⟨by rw [le_t, den_var, v5]; show (14 : Int) ≤ _; have : 14 + a ≤ (ρ 0).list.length := hsz; omega, ?_⟩
        refine ok_back ⟨⟨c + 1, _, a + 14, ?_, next_toNat hΦ hH, ?_, ?_, pe_same ?_ (next_bool hΦ hH) hnx⟩, ?_⟩
        · show (T.den Φ ρ' (.c2 .add (.var 1) (.num 1))).int = _; rw [int_add, den_var, v1]; rfl
        · show (T.den Φ ρ' (.c2 .add (.var 4) (.num 14))).int = _; rw [int_add, den_var, v4]; rfl
        · show (T.den Φ ρ' (.c2 .sub (.var 5) (.num 14))).int = _; rw [int_sub, den_var, v5]; show _ - (14 : Int) = _; omega
        · exact app_heads v1 s4 hH
        · show 9 - (T.den Φ ρ' (.c2 .add (.var 1) (.num 1))).int.toNat < 9 - (nthD ds 0).int.toNat; rw [int_add, den_var, v1, i0]; show 9 - ((c : Int) + 1).toNat < 9 - (c : Int).toNat; omega
    · refine ⟨fun q => ?_, fun n2 => ?_⟩
      · rw [eq_t, den_var, v2] at q
        have hj : k = 2 := by have : (k : Int) = 2 := q; omega
        subst hj
        have hE : (T.den Φ ρ' (.fn 22 (.c2 .drop (.var 4) (.var 0)) .nil .nil)).int = rdErr 2 ((ρ 0).list.drop a) := by rw [den_fn, hΦ.rdErr 2 _ _ _ (by decide) (by decide), hD]; rfl
        have hF : (T.den Φ ρ' (fn1 12 (.c2 .drop (.var 4) (.var 0)))).list = rdRow 2 ((ρ 0).list.drop a) := by show (Φ (10 + 2) (T.den Φ ρ' (.c2 .drop (.var 4) (.var 0))) _ _).list = _; rw [hΦ.rdRow 2 _ _ _ (by decide) (by decide), hD]; rfl
        have hH := den_hdT (k := 2) (x := (.var 2)) ⟨by decide, by decide⟩ v2 hF
        refine ⟨by rw [bytes_t, hD]; exact bytes_drop hb a, fun er => ?_, fun er => ?_⟩
        · rw [not_t, eq_f, hE] at er
          exact leaf_pe_err hr (pe_err st m1 hc er) hE er (by decide)
        · rw [not_f, eq_t, hE] at er
          obtain ⟨hsz, hnx⟩ := pe_step st m1 hc er
          refine ⟨by rw [le_t, den_var, v5]; show (4 : Int) ≤ _; have : 4 + a ≤ (ρ 0).list.length := hsz; omega, ?_⟩
          refine ok_back ⟨⟨c + 1, _, a + 4, ?_, next_toNat hΦ hH, ?_, ?_, pe_same ?_ (next_bool hΦ hH) hnx⟩, ?_⟩
          · show (T.den Φ ρ' (.c2 .add (.var 1) (.num 1))).int = _; rw [int_add, den_var, v1]; rfl
          · show (T.den Φ ρ' (.c2 .add (.var 4) (.num 4))).int = _; rw [int_add, den_var, v4]; rfl
          · show (T.den Φ ρ' (.c2 .sub (.var 5) (.num 4))).int = _; rw [int_sub, den_var, v5]; show _ - (4 : Int) = _; omega
          · exact app_heads v1 s4 hH
          · show 9 - (T.den Φ ρ' (.c2 .add (.var 1) (.num 1))).int.toNat < 9 - (nthD ds 0).int.toNat; rw [int_add, den_var, v1, i0]; show 9 - ((c : Int) + 1).toNat < 9 - (c : Int).toNat; omega
      · refine ⟨fun q => ?_, fun n3 => ?_⟩
        · rw [eq_t, den_var, v2] at q
          have hj : k = 3 := by have : (k : Int) = 3 := q; omega
          subst hj
          have hE : (T.den Φ ρ' (.fn 23 (.c2 .drop (.var 4) (.var 0)) .nil .nil)).int = rdErr 3 ((ρ 0).list.drop a) := by rw [den_fn, hΦ.rdErr 3 _ _ _ (by decide) (by decide), hD]; rfl
          have hF : (T.den Φ ρ' (fn1 13 (.c2 .drop (.var 4) (.var 0)))).list = rdRow 3 ((ρ 0).list.drop a) := by show (Φ (10 + 3) (T.den Φ ρ' (.c2 .drop (.var 4) (.var 0))) _ _).list = _; rw [hΦ.rdRow 3 _ _ _ (by decide) (by decide), hD]; rfl
          have hH := den_hdT (k := 3) (x := (.var 2)) ⟨by decide, by decide⟩ v2 hF
          refine ⟨by rw [bytes_t, hD]; exact bytes_drop hb a, fun er => ?_, fun er => ?_⟩
          · rw [not_t, eq_f, hE] at er
            exact leaf_pe_err hr (pe_err st m1 hc er) hE er (by decide)
          · rw [not_f, eq_t, hE] at er
            obtain ⟨hsz, hnx⟩ := pe_step st m1 hc er
            refine ⟨by rw [le_t, den_var, v5]; show (20 : Int) ≤ _; have : 20 + a ≤ (ρ 0).list.length := hsz; omega, ?_⟩
            refine ok_back ⟨⟨c + 1, _, a + 20, ?_, next_toNat hΦ hH, ?_, ?_, pe_same ?_ (next_bool hΦ hH) hnx⟩, ?_⟩
            · show (T.den Φ ρ' (.c2 .add (.var 1) (.num 1))).int = _; rw [int_add, den_var, v1]; rfl
            · show (T.den Φ ρ' (.c2 .add (.var 4) (.num 20))).int = _; rw [int_add, den_var, v4]; rfl
            · show (T.den Φ ρ' (.c2 .sub (.var 5) (.num 20))).int = _; rw [int_sub, den_var, v5]; show _ - (20 : Int) = _; omega
            · exact app_heads v1 s4 hH
            · show 9 - (T.den Φ ρ' (.c2 .add (.var 1) (.num 1))).int.toNat < 9 - (nthD ds 0).int.toNat; rw [int_add, den_var, v1, i0]; show 9 - ((c : Int) + 1).toNat < 9 - (c : Int).toNat; omega
        · refine ⟨fun q => ?_, fun n4 => ?_⟩
          · rw [eq_t, den_var, v2] at q
            have hj : k = 4 := by have : (k : Int) = 4 := q; omega
            subst hj
            have hE : (T.den Φ ρ' (.fn 24 (.c2 .drop (.var 4) (.var 0)) .nil .nil)).int = rdErr 4 ((ρ 0).list.drop a) := by rw [den_fn, hΦ.rdErr 4 _ _ _ (by decide) (by decide), hD]; rfl
            have hF : (T.den Φ ρ' (fn1 14 (.c2 .drop (.var 4) (.var 0)))).list = rdRow 4 ((ρ 0).list.drop a) := by show (Φ (10 + 4) (T.den Φ ρ' (.c2 .drop (.var 4) (.var 0))) _ _).list = _; rw [hΦ.rdRow 4 _ _ _ (by decide) (by decide), hD]; rfl
            have hH := den_hdT (k := 4) (x := (.var 2)) ⟨by decide, by decide⟩ v2 hF
            refine ⟨by rw [bytes_t, hD]; exact bytes_drop hb a, fun er => ?_, fun er => ?_⟩
            · rw [not_t, eq_f, hE] at er
              exact leaf_pe_err hr (pe_err st m1 hc er) hE er (by decide)
            · rw [not_f, eq_t, hE] at er
              obtain ⟨hsz, hnx⟩ := pe_step st m1 hc er
              refine ⟨by rw [le_t, den_var, v5]; show (40 : Int) ≤ _; have : 40 + a ≤ (ρ 0).list.length := hsz; omega, ?_⟩
              refine ok_back ⟨⟨c + 1, _, a + 40, ?_, next_toNat hΦ hH, ?_, ?_, pe_same ?_ (next_bool hΦ hH) hnx⟩, ?_⟩
              · show (T.den Φ ρ' (.c2 .add (.var 1) (.num 1))).int = _; rw [int_add, den_var, v1]; rfl
              · show (T.den Φ ρ' (.c2 .add (.var 4) (.num 40))).int = _; rw [int_add, den_var, v4]; rfl
              · show (T.den Φ ρ' (.c2 .sub (.var 5) (.num 40))).int = _; rw [int_sub, den_var, v5]; show _ - (40 : Int) = _; omega
              · exact app_heads v1 s4 hH
              · show 9 - (T.den Φ ρ' (.c2 .add (.var 1) (.num 1))).int.toNat < 9 - (nthD ds 0).int.toNat; rw [int_add, den_var, v1, i0]; show 9 - ((c : Int) + 1).toNat < 9 - (c : Int).toNat; omega
          · refine ⟨fun q => ?_, fun n5 => ?_⟩
            · rw [eq_t, den_var, v2] at q
              have hj : k = 5 := by have : (k : Int) = 5 := q; omega
              subst hj
              have hE : (T.den Φ ρ' (.fn 25 (.c2 .drop (.var 4) (.var 0)) .nil .nil)).int = rdErr 5 ((ρ 0).list.drop a) := by rw [den_fn, hΦ.rdErr 5 _ _ _ (by decide) (by decide), hD]; rfl
              have hF : (T.den Φ ρ' (fn1 15 (.c2 .drop (.var 4) (.var 0)))).list = rdRow 5 ((ρ 0).list.drop a) := by show (Φ (10 + 5) (T.den Φ ρ' (.c2 .drop (.var 4) (.var 0))) _ _).list = _; rw [hΦ.rdRow 5 _ _ _ (by decide) (by decide), hD]; rfl
              have hH := den_hdT (k := 5) (x := (.var 2)) ⟨by decide, by decide⟩ v2 hF
              refine ⟨by rw [bytes_t, hD]; exact bytes_drop hb a, fun er => ?_, fun er => ?_⟩
              · rw [not_t, eq_f, hE] at er
                exact leaf_pe_err hr (pe_err st m1 hc er) hE er (by decide)
              · rw [not_f, eq_t, hE] at er
                obtain ⟨hsz, hnx⟩ := pe_step st m1 hc er
                refine ⟨by rw [le_t, den_var, v5]; show (20 : Int) ≤ _; have : 20 + a ≤ (ρ 0).list.length := hsz; omega, ?_⟩
                refine ok_back ⟨⟨c + 1, _, a + 20, ?_, next_toNat hΦ hH, ?_, ?_, pe_same ?_ (next_bool hΦ hH) hnx⟩, ?_⟩
                · show (T.den Φ ρ' (.c2 .add (.var 1) (.num 1))).int = _; rw [int_add, den_var, v1]; rfl
                · show (T.den Φ ρ' (.c2 .add (.var 4) (.num 20))).int = _; rw [int_add, den_var, v4]; rfl
                · show (T.den Φ ρ' (.c2 .sub (.var 5) (.num 20))).int = _; rw [int_sub, den_var, v5]; show _ - (20 : Int) = _; omega
                · exact app_heads v1 s4 hH
                · show 9 - (T.den Φ ρ' (.c2 .add (.var 1) (.num 1))).int.toNat < 9 - (nthD ds 0).int.toNat; rw [int_add, den_var, v1, i0]; show 9 - ((c : Int) + 1).toNat < 9 - (c : Int).toNat; omega
            · refine ⟨fun q => ?_, fun n6 => ?_⟩
              · rw [eq_t, den_var, v2] at q
                have hj : k = 6 := by have : (k : Int) = 6 := q; omega
                subst hj
                have hE : (T.den Φ ρ' (.fn 26 (.c2 .drop (.var 4) (.var 0)) .nil .nil)).int = rdErr 6 ((ρ 0).list.drop a) := by rw [den_fn, hΦ.rdErr 6 _ _ _ (by decide) (by decide), hD]; rfl
                have hF : (T.den Φ ρ' (fn1 16 (.c2 .drop (.var 4) (.var 0)))).list = rdRow 6 ((ρ 0).list.drop a) := by show (Φ (10 + 6) (T.den Φ ρ' (.c2 .drop (.var 4) (.var 0))) _ _).list = _; rw [hΦ.rdRow 6 _ _ _ (by decide) (by decide), hD]; rfl
                have hH := den_hdT (k := 6) (x := (.var 2)) ⟨by decide, by decide⟩ v2 hF
                refine ⟨by rw [bytes_t, hD]; exact bytes_drop hb a, fun er => ?_, fun er => ?_⟩
                · rw [not_t, eq_f, hE] at er
                  exact leaf_pe_err hr (pe_err st m1 hc er) hE er (by decide)
                · rw [not_f, eq_t, hE] at er
                  obtain ⟨hsz, hnx⟩ := pe_step st m1 hc er
                  refine ⟨by rw [le_t, den_var, v5]; show (8 : Int) ≤ _; have : 8 + a ≤ (ρ 0).list.length := hsz; omega, ?_⟩
                  refine ok_back ⟨⟨c + 1, _, a + 8, ?_, next_toNat hΦ hH, ?_, ?_, pe_same ?_ (next_bool hΦ hH) hnx⟩, ?_⟩
                  · show (T.den Φ ρ' (.c2 .add (.var 1) (.num 1))).int = _; rw [int_add, den_var, v1]; rfl
                  · show (T.den Φ ρ' (.c2 .add (.var 4) (.num 8))).int = _; rw [int_add, den_var, v4]; rfl
                  · show (T.den Φ ρ' (.c2 .sub (.var 5) (.num 8))).int = _; rw [int_sub, den_var, v5]; show _ - (8 : Int) = _; omega
                  · exact app_heads v1 s4 hH
                  · show 9 - (T.den Φ ρ' (.c2 .add (.var 1) (.num 1))).int.toNat < 9 - (nthD ds 0).int.toNat; rw [int_add, den_var, v1, i0]; show 9 - ((c : Int) + 1).toNat < 9 - (c : Int).toNat; omega
              · exfalso
                rw [eq_f, den_var, v2] at n1
                rw [eq_f, den_var, v2] at n2
                rw [eq_f, den_var, v2] at n3
                rw [eq_f, den_var, v2] at n4
                rw [eq_f, den_var, v2] at n5
                rw [eq_f, den_var, v2] at n6
                have h6 : ¬ (k : Int) = 1 ∧ ¬ (k : Int) = 2 ∧ ¬ (k : Int) = 3 ∧ ¬ (k : Int) = 4 ∧ ¬ (k : Int) = 5 ∧ ¬ (k : Int) = 6 := ⟨n1, n2, n3, n4, n5, n6⟩
                omega
  · obtain ⟨t1, t2⟩ := s7 m1
    refine leaf_pe_ok hr t2 (c := c) ?_ t1 s4 ?_ (show (T.den Φ ρ' (.var 6)).list = (ρ' 6).list from rfl) ?_ (by decide)
    · exact v1
    · show (T.den Φ ρ' (.c2 .sub (.c1 .len (.var 0)) (.var 4))).int = _; rw [int_sub, int_len, den_var, den_var, v4, e0]; rw [List.length_drop]; omega
    · exact hD
set_option maxRecDepth 100000 in
theorem peelR_ok {Φ : Sig} (hΦ : PeSig Φ) : TmplOk Go.Proofs.Try.prog Φ 12 (tPeel 1 2) := by
  refine tmpl_of (consPe_ok hΦ) treePePeelR_is (fun ρ res hres => ⟨peJR, ?_⟩)
  obtain ⟨h0, hres⟩ := short_some hres
  obtain ⟨hb, hres⟩ := bytes_some hres
  have hr := pe_res hΦ hres
  refine ⟨⟨0, 1, 0, rfl, rfl, rfl, pe_start⟩, ?_⟩
  rintro ds hlen ⟨c, k, a, i0, i1, i3, hst⟩
  have e0 : upd ρ 1 ds 0 = ρ 0 := upd_lo ds (by decide)
  have e1 : upd ρ 1 ds 1 = nthD ds 0 := upd_at (i := 0) (by omega)
  have e2 : upd ρ 1 ds 2 = nthD ds 1 := upd_at (i := 1) (by omega)
  have e3 : upd ρ 1 ds 3 = nthD ds 2 := upd_at (i := 2) (by omega)
  have e4 : upd ρ 1 ds 4 = nthD ds 3 := upd_at (i := 3) (by omega)
  have e5 : upd ρ 1 ds 5 = nthD ds 4 := upd_at (i := 4) (by omega)
  generalize upd ρ 1 ds = ρ' at *
  have v1 : (ρ' 1).int = c := by rw [e1]; exact i0
  have v2 : (ρ' 2).int = k := by rw [e2]; exact i1
  have v4 : (ρ' 4).int = a := by rw [e4]; exact i3
  rw [← e5, ← e3] at hst
  have st := hst
  obtain ⟨s1, s2, s3, s4, s5, s6, s7⟩ := hst
  have hD : (T.den Φ ρ' (.c2 .drop (.var 4) (.var 0))).list = (ρ 0).list.drop a := by rw [list_drop, den_var, den_var, v4, e0, Int.toNat_natCast]
  refine ⟨?_, fun m1 => ⟨fun m2 => ?_, fun m2 => ?_⟩, fun m1 => ?_⟩
  · intro t p hm
    simp only [List.mem_cons, Prod.mk.injEq, List.not_mem_nil, or_false] at hm
    rcases hm with ⟨rfl, rfl⟩ | ⟨rfl, rfl⟩ | ⟨rfl, rfl⟩ | ⟨rfl, rfl⟩ | ⟨rfl, rfl⟩ | ⟨rfl, rfl⟩ | ⟨rfl, rfl⟩ | ⟨rfl, rfl⟩
    · rw [le_t, den_var, v1]; exact Int.natCast_nonneg _
    · rw [le_t, den_var, v1]; show (c : Int) ≤ 8; omega
    · rw [le_t, den_var, v2]; exact Int.natCast_nonneg _
    · rw [le_t, den_var, v2]; show (k : Int) ≤ 6; omega
    · rw [le_t, den_var, v4]; exact Int.natCast_nonneg _
    · rw [le_t, int_len, den_var, den_var, v4, e0]; omega
    · rw [eq_t, int_len, int_mul, den_var, den_var, v1, s4]; show ((73 * c : Nat) : Int) = c * 73; omega
    · show inKinds _ 0 (ρ' 5).list = true; exact s5
  · rw [eq_t, den_var, v1] at m2
    have hc : c = 8 := by have : (c : Int) = 8 := m2; omega
    exact leaf_pe_err hr (pe_many st m1 hc) rfl (by decide) (by decide)
  · rw [eq_f, den_var, v1] at m2
    have hc : c < 8 := by have : ¬ (c : Int) = 8 := m2; omega
    have hk1 := (s6 m1).1
    refine ⟨fun q => ?_, fun n1 => ?_⟩
    · rw [eq_t, den_var, v2] at q
      have hj : k = 1 := by have : (k : Int) = 1 := q; omega
      subst hj
      have hE : (T.den Φ ρ' (.fn 21 (.c2 .drop (.var 4) (.var 0)) .nil .nil)).int = rdErr 1 ((ρ 0).list.drop a) := by rw [den_fn, hΦ.rdErr 1 _ _ _ (by decide) (by decide), hD]; rfl
      have hF : (T.den Φ ρ' (fn1 11 (.c2 .drop (.var 4) (.var 0)))).list = rdRow 1 ((ρ 0).list.drop a) := by show (Φ (10 + 1) (T.den Φ ρ' (.c2 .drop (.var 4) (.var 0))) _ _).list = _; rw [hΦ.rdRow 1 _ _ _ (by decide) (by decide), hD]; rfl
      have hH := den_hdT (k := 1) (x := (.num 1)) ⟨by decide, by decide⟩ rfl hF
      refine ⟨by rw [bytes_t, hD]; exact bytes_drop hb a, fun er => ?_, fun er => ?_⟩
      · rw [not_t, eq_f, hE] at er
        exact leaf_pe_err hr (pe_err st m1 hc er) hE er (by decide)
      · rw [not_f, eq_t, hE] at er
        obtain ⟨hsz, hnx⟩ := pe_step st m1 hc er
        refine ok_back ⟨⟨c + 1, _, a + 14, ?_, next_toNat hΦ hH, ?_, pe_same ?_ (next_bool hΦ hH) hnx⟩, ?_⟩
        · show (T.den Φ ρ' (.c2 .add (.var 1) (.num 1))).int = _; rw [int_add, den_var, v1]; rfl
        · show (T.den Φ ρ' (.wr .i64 (.c2 .add (.var 4) (.c2 .rd (.cons (.num 0) (.cons (.num 14) (.cons (.num 4) (.cons (.num 20) (.cons (.num 40) (.cons (.num 20) (.cons (.num 8) .nil))))))) (.var 2))))).int = _
          rw [int_wr, int_add, int_rd, den_var, den_var, v4, v2]
          show IntKind.i64.wrap ((a : Int) + 14) = _
          have : 14 + a ≤ (ρ 0).list.length := hsz
          rw [wrap_is (by simp only [kmin]; omega) (by simp only [kmax]; omega)]; rfl
        · exact app_heads v1 s4 hH
        · show 9 - (T.den Φ ρ' (.c2 .add (.var 1) (.num 1))).int.toNat < 9 - (nthD ds 0).int.toNat; rw [int_add, den_var, v1, i0]; show 9 - ((c : Int) + 1).toNat < 9 - (c : Int).toNat; omega
    · refine ⟨fun q => ?_, fun n2 => ?_⟩
      · rw [eq_t, den_var, v2] at q
        have hj : k = 2 := by have : (k : Int) = 2 := q; omega
        subst hj
        have hE : (T.den Φ ρ' (.fn 22 (.c2 .drop (.var 4) (.var 0)) .nil .nil)).int = rdErr 2 ((ρ 0).list.drop a) := by rw [den_fn, hΦ.rdErr 2 _ _ _ (by decide) (by decide), hD]; rfl
        have hF : (T.den Φ ρ' (fn1 12 (.c2 .drop (.var 4) (.var 0)))).list = rdRow 2 ((ρ 0).list.drop a) := by show (Φ (10 + 2) (T.den Φ ρ' (.c2 .drop (.var 4) (.var 0))) _ _).list = _; rw [hΦ.rdRow 2 _ _ _ (by decide) (by decide), hD]; rfl
        have hH := den_hdT (k := 2) (x := (.num 2)) ⟨by decide, by decide⟩ rfl hF
        refine ⟨by rw [bytes_t, hD]; exact bytes_drop hb a, fun er => ?_, fun er => ?_⟩
        · rw [not_t, eq_f, hE] at er
          exact leaf_pe_err hr (pe_err st m1 hc er) hE er (by decide)
        · rw [not_f, eq_t, hE] at er
          obtain ⟨hsz, hnx⟩ := pe_step st m1 hc er
          refine ok_back ⟨⟨c + 1, _, a + 4, ?_, next_toNat hΦ hH, ?_, pe_same ?_ (next_bool hΦ hH) hnx⟩, ?_⟩
          · show (T.den Φ ρ' (.c2 .add (.var 1) (.num 1))).int = _; rw [int_add, den_var, v1]; rfl
          · show (T.den Φ ρ' (.wr .i64 (.c2 .add (.var 4) (.c2 .rd (.cons (.num 0) (.cons (.num 14) (.cons (.num 4) (.cons (.num 20) (.cons (.num 40) (.cons (.num 20) (.cons (.num 8) .nil))))))) (.var 2))))).int = _
            rw [int_wr, int_add, int_rd, den_var, den_var, v4, v2]
            show IntKind.i64.wrap ((a : Int) + 4) = _
            have : 4 + a ≤ (ρ 0).list.length := hsz
            rw [wrap_is (by simp only [kmin]; omega) (by simp only [kmax]; omega)]; rfl
          · exact app_heads v1 s4 hH
          · show 9 - (T.den Φ ρ' (.c2 .add (.var 1) (.num 1))).int.toNat < 9 - (nthD ds 0).int.toNat; rw [int_add, den_var, v1, i0]; show 9 - ((c : Int) + 1).toNat < 9 - (c : Int).toNat; omega
      · refine ⟨fun q => ?_, fun n3 => ?_⟩
        · rw [eq_t, den_var, v2] at q
          have hj : k = 3 := by have : (k : Int) = 3 := q; omega
          subst hj
          have hE : (T.den Φ ρ' (.fn 23 (.c2 .drop (.var 4) (.var 0)) .nil .nil)).int = rdErr 3 ((ρ 0).list.drop a) := by rw [den_fn, hΦ.rdErr 3 _ _ _ (by decide) (by decide), hD]; rfl
          have hF : (T.den Φ ρ' (fn1 13 (.c2 .drop (.var 4) (.var 0)))).list = rdRow 3 ((ρ 0).list.drop a) := by show (Φ (10 + 3) (T.den Φ ρ' (.c2 .drop (.var 4) (.var 0))) _ _).list = _; rw [hΦ.rdRow 3 _ _ _ (by decide) (by decide), hD]; rfl
          have hH := den_hdT (k := 3) (x := (.num 3)) ⟨by decide, by decide⟩ rfl hF
          refine ⟨by rw [bytes_t, hD]; exact bytes_drop hb a, fun er => ?_, fun er => ?_⟩
          · rw [not_t, eq_f, hE] at er
            exact leaf_pe_err hr (pe_err st m1 hc er) hE er (by decide)
          · rw [not_f, eq_t, hE] at er
            obtain ⟨hsz, hnx⟩ := pe_step st m1 hc er
            refine ok_back ⟨⟨c + 1, _, a + 20, ?_, next_toNat hΦ hH, ?_, pe_same ?_ (next_bool hΦ hH) hnx⟩, ?_⟩
            · show (T.den Φ ρ' (.c2 .add (.var 1) (.num 1))).int = _; rw [int_add, den_var, v1]; rfl
            · show (T.den Φ ρ' (.wr .i64 (.c2 .add (.var 4) (.c2 .rd (.cons (.num 0) (.cons (.num 14) (.cons (.num 4) (.cons (.num 20) (.cons (.num 40) (.cons (.num 20) (.cons (.num 8) .nil))))))) (.var 2))))).int = _
              rw [int_wr, int_add, int_rd, den_var, den_var, v4, v2]
              show IntKind.i64.wrap ((a : Int) + 20) = _
              have : 20 + a ≤ (ρ 0).list.length := hsz
              rw [wrap_is (by simp only [kmin]; omega) (by simp only [kmax]; omega)]; rfl
            · exact app_heads v1 s4 hH
            · show 9 - (T.den Φ ρ' (.c2 .add (.var 1) (.num 1))).int.toNat < 9 - (nthD ds 0).int.toNat; rw [int_add, den_var, v1, i0]; show 9 - ((c : Int) + 1).toNat < 9 - (c : Int).toNat; omega
        · refine ⟨fun q => ?_, fun n4 => ?_⟩
          · rw [eq_t, den_var, v2] at q
            have hj : k = 4 := by have : (k : Int) = 4 := q; omega
            subst hj
            have hE : (T.den Φ ρ' (.fn 24 (.c2 .drop (.var 4) (.var 0)) .nil .nil)).int = rdErr 4 ((ρ 0).list.drop a) := by rw [den_fn, hΦ.rdErr 4 _ _ _ (by decide) (by decide), hD]; rfl
            have hF : (T.den Φ ρ' (fn1 14 (.c2 .drop (.var 4) (.var 0)))).list = rdRow 4 ((ρ 0).list.drop a) := by show (Φ (10 + 4) (T.den Φ ρ' (.c2 .drop (.var 4) (.var 0))) _ _).list = _; rw [hΦ.rdRow 4 _ _ _ (by decide) (by decide), hD]; rfl
            have hH := den_hdT (k := 4) (x := (.num 4)) ⟨by decide, by decide⟩ rfl hF
            refine ⟨by rw [bytes_t, hD]; exact bytes_drop hb a, fun er => ?_, fun er => ?_⟩
            · rw [not_t, eq_f, hE] at er
              exact leaf_pe_err hr (pe_err st m1 hc er) hE er (by decide)
            · rw [not_f, eq_t, hE] at er
              obtain ⟨hsz, hnx⟩ := pe_step st m1 hc er
              refine ok_back ⟨⟨c + 1, _, a + 40, ?_, next_toNat hΦ hH, ?_, pe_same ?_ (next_bool hΦ hH) hnx⟩, ?_⟩
              · show (T.den Φ ρ' (.c2 .add (.var 1) (.num 1))).int = _; rw [int_add, den_var, v1]; rfl
              · show (T.den Φ ρ' (.wr .i64 (.c2 .add (.var 4) (.c2 .rd (.cons (.num 0) (.cons (.num 14) (.cons (.num 4) (.cons (.num 20) (.cons (.num 40) (.cons (.num 20) (.cons (.num 8) .nil))))))) (.var 2))))).int = _
                rw [int_wr, int_add, int_rd, den_var, den_var, v4, v2]
                show IntKind.i64.wrap ((a : Int) + 40) = _
                have : 40 + a ≤ (ρ 0).list.length := hsz
                rw [wrap_is (by simp only [kmin]; omega) (by simp only [kmax]; omega)]; rfl
              · exact app_heads v1 s4 hH
              · show 9 - (T.den Φ ρ' (.c2 .add (.var 1) (.num 1))).int.toNat < 9 - (nthD ds 0).int.toNat; rw [int_add, den_var, v1, i0]; show 9 - ((c : Int) + 1).toNat < 9 - (c : Int).toNat; omega
          · refine ⟨fun q => ?_, fun n5 => ?_⟩
            · rw [eq_t, den_var, v2] at q
              have hj : k = 5 := by have : (k : Int) = 5 := q; omega
              subst hj
              have hE : (T.den Φ ρ' (.fn 25 (.c2 .drop (.var 4) (.var 0)) .nil .nil)).int = rdErr 5 ((ρ 0).list.drop a) := by rw [den_fn, hΦ.rdErr 5 _ _ _ (by decide) (by decide), hD]; rfl
              have hF : (T.den Φ ρ' (fn1 15 (.c2 .drop (.var 4) (.var 0)))).list = rdRow 5 ((ρ 0).list.drop a) := by show (Φ (10 + 5) (T.den Φ ρ' (.c2 .drop (.var 4) (.var 0))) _ _).list = _; rw [hΦ.rdRow 5 _ _ _ (by decide) (by decide), hD]; rfl
              have hH := den_hdT (k := 5) (x := (.num 5)) ⟨by decide, by decide⟩ rfl hF
              refine ⟨by rw [bytes_t, hD]; exact bytes_drop hb a, fun er => ?_, fun er => ?_⟩
              · rw [not_t, eq_f, hE] at er
                exact leaf_pe_err hr (pe_err st m1 hc er) hE er (by decide)
              · rw [not_f, eq_t, hE] at er
                obtain ⟨hsz, hnx⟩ := pe_step st m1 hc er
                refine ok_back ⟨⟨c + 1, _, a + 20, ?_, next_toNat hΦ hH, ?_, pe_same ?_ (next_bool hΦ hH) hnx⟩, ?_⟩
                · show (T.den Φ ρ' (.c2 .add (.var 1) (.num 1))).int = _; rw [int_add, den_var, v1]; rfl
                · show (T.den Φ ρ' (.wr .i64 (.c2 .add (.var 4) (.c2 .rd (.cons (.num 0) (.cons (.num 14) (.cons (.num 4) (.cons (.num 20) (.cons (.num 40) (.cons (.num 20) (.cons (.num 8) .nil))))))) (.var 2))))).int = _
                  rw [int_wr, int_add, int_rd, den_var, den_var, v4, v2]
                  show IntKind.i64.wrap ((a : Int) + 20) = _
                  have : 20 + a ≤ (ρ 0).list.length := hsz
                  rw [wrap_is (by simp only [kmin]; omega) (by simp only [kmax]; omega)]; rfl
                · exact app_heads v1 s4 hH
                · show 9 - (T.den Φ ρ' (.c2 .add (.var 1) (.num 1))).int.toNat < 9 - (nthD ds 0).int.toNat; rw [int_add, den_var, v1, i0]; show 9 - ((c : Int) + 1).toNat < 9 - (c : Int).toNat; omega
            · have hj : k = 6 := by
                rw [eq_f, den_var, v2] at n1
                rw [eq_f, den_var, v2] at n2
                rw [eq_f, den_var, v2] at n3
                rw [eq_f, den_var, v2] at n4
                rw [eq_f, den_var, v2] at n5
                have h6 : ¬ (k : Int) = 1 ∧ ¬ (k : Int) = 2 ∧ ¬ (k : Int) = 3 ∧ ¬ (k : Int) = 4 ∧ ¬ (k : Int) = 5 := ⟨n1, n2, n3, n4, n5⟩
                omega
              subst hj
              have hE : (T.den Φ ρ' (.fn 26 (.c2 .drop (.var 4) (.var 0)) .nil .nil)).int = rdErr 6 ((ρ 0).list.drop a) := by rw [den_fn, hΦ.rdErr 6 _ _ _ (by decide) (by decide), hD]; rfl
              have hF : (T.den Φ ρ' (fn1 16 (.c2 .drop (.var 4) (.var 0)))).list = rdRow 6 ((ρ 0).list.drop a) := by show (Φ (10 + 6) (T.den Φ ρ' (.c2 .drop (.var 4) (.var 0))) _ _).list = _; rw [hΦ.rdRow 6 _ _ _ (by decide) (by decide), hD]; rfl
              have hH := den_hdT (k := 6) (x := (.num 6)) ⟨by decide, by decide⟩ rfl hF
              refine ⟨by rw [bytes_t, hD]; exact bytes_drop hb a, fun er => ?_, fun er => ?_⟩
              · rw [not_t, eq_f, hE] at er
                exact leaf_pe_err hr (pe_err st m1 hc er) hE er (by decide)
              · rw [not_f, eq_t, hE] at er
                obtain ⟨hsz, hnx⟩ := pe_step st m1 hc er
                refine ok_back ⟨⟨c + 1, _, a + 8, ?_, next_toNat hΦ hH, ?_, pe_same ?_ (next_bool hΦ hH) hnx⟩, ?_⟩
                · show (T.den Φ ρ' (.c2 .add (.var 1) (.num 1))).int = _; rw [int_add, den_var, v1]; rfl
                · show (T.den Φ ρ' (.wr .i64 (.c2 .add (.var 4) (.c2 .rd (.cons (.num 0) (.cons (.num 14) (.cons (.num 4) (.cons (.num 20) (.cons (.num 40) (.cons (.num 20) (.cons (.num 8) .nil))))))) (.var 2))))).int = _
                  rw [int_wr, int_add, int_rd, den_var, den_var, v4, v2]
                  show IntKind.i64.wrap ((a : Int) + 8) = _
                  have : 8 + a ≤ (ρ 0).list.length := hsz
                  rw [wrap_is (by simp only [kmin]; omega) (by simp only [kmax]; omega)]; rfl
                · exact app_heads v1 s4 hH
                · show 9 - (T.den Φ ρ' (.c2 .add (.var 1) (.num 1))).int.toNat < 9 - (nthD ds 0).int.toNat; rw [int_add, den_var, v1, i0]; show 9 - ((c : Int) + 1).toNat < 9 - (c : Int).toNat; omega
  · obtain ⟨t1, t2⟩ := s7 m1
    refine leaf_pe_ok hr t2 (c := c) ?_ t1 s4 ?_ (show (T.den Φ ρ' (.var 5)).list = (ρ' 5).list from rfl) ?_ (by decide)
    · exact v1
    · show (T.den Φ ρ' (.c2 .sub (.c1 .len (.var 0)) (.var 4))).int = _; rw [int_sub, int_len, den_var, den_var, v4, e0]; rw [List.length_drop]; omega
    · show (T.den Φ ρ' (.c2 .take (.c2 .sub (.c1 .len (.var 0)) (.var 4)) (.c2 .drop (.var 4) (.var 0)))).list = _; rw [list_take, hD]; apply List.take_of_length_le; rw [int_sub, int_len, den_var, den_var, v4, e0, List.length_drop]; omega
end Go.Proofs.Ytbiodlomlendkaa.Sx
/- Sx: what Go function 13 does, as a tree of conditions (printed by a tool of this claim, proved by the kernel). Conditions: none. -/
set_option maxRecDepth 100000
namespace Go.Proofs.Ytbiodlomlendkaa.Sx
open Go
def treePeSame : M (V × St) :=
(.split (.c1 .not (.c2 .eq (.var 0) (.var 2)))
 (.ret (.w (.c (.b (.bol false))), ⟨[], [], 2, 4, []⟩))
 (.loop 0 4 1 [(.num 0)] [((.c2 .le (.num 0) (.var 4)), true)]
  (.split (.c2 .lt (.var 4) (.var 0))
   (.chk (.c2 .le (.c2 .add (.c2 .mul (.var 4) (.num 73)) (.num 73)) (.c1 .len (.var 1)))
   (.chk (.c2 .lt (.var 4) (.var 2))
   (.chk (.c2 .le (.c2 .add (.c2 .mul (.var 4) (.num 73)) (.num 73)) (.c1 .len (.var 3)))
   (.split (.c1 .not (.c2 .and (.c2 .eq (.c2 .rd (.var 1) (.c2 .mul (.var 4) (.num 73))) (.c2 .rd (.var 3) (.c2 .mul (.var 4) (.num 73)))) (.c2 .and (.c2 .eq (.c2 .rd (.var 1) (.c2 .add (.c2 .mul (.var 4) (.num 73)) (.num 1))) (.c2 .rd (.var 3) (.c2 .add (.c2 .mul (.var 4) (.num 73)) (.num 1)))) (.c2 .and (.c2 .eq (.c2 .rd (.var 1) (.c2 .add (.c2 .mul (.var 4) (.num 73)) (.num 2))) (.c2 .rd (.var 3) (.c2 .add (.c2 .mul (.var 4) (.num 73)) (.num 2)))) (.c2 .and (.c2 .eq (.c2 .rd (.var 1) (.c2 .add (.c2 .mul (.var 4) (.num 73)) (.num 3))) (.c2 .rd (.var 3) (.c2 .add (.c2 .mul (.var 4) (.num 73)) (.num 3)))) (.c2 .and (.c2 .eq (.c2 .rd (.var 1) (.c2 .add (.c2 .mul (.var 4) (.num 73)) (.num 4))) (.c2 .rd (.var 3) (.c2 .add (.c2 .mul (.var 4) (.num 73)) (.num 4)))) (.c2 .and (.c2 .eq (.c2 .rd (.var 1) (.c2 .add (.c2 .mul (.var 4) (.num 73)) (.num 5))) (.c2 .rd (.var 3) (.c2 .add (.c2 .mul (.var 4) (.num 73)) (.num 5)))) (.c2 .and (.c2 .eq (.c2 .rd (.var 1) (.c2 .add (.c2 .mul (.var 4) (.num 73)) (.num 6))) (.c2 .rd (.var 3) (.c2 .add (.c2 .mul (.var 4) (.num 73)) (.num 6)))) (.c2 .and (.c2 .eq (.c2 .rd (.var 1) (.c2 .add (.c2 .mul (.var 4) (.num 73)) (.num 7))) (.c2 .rd (.var 3) (.c2 .add (.c2 .mul (.var 4) (.num 73)) (.num 7)))) (.c2 .and (.c2 .eq (.c2 .rd (.var 1) (.c2 .add (.c2 .mul (.var 4) (.num 73)) (.num 8))) (.c2 .rd (.var 3) (.c2 .add (.c2 .mul (.var 4) (.num 73)) (.num 8)))) (.c2 .and (.c2 .eq (.c2 .rd (.var 1) (.c2 .add (.c2 .mul (.var 4) (.num 73)) (.num 9))) (.c2 .rd (.var 3) (.c2 .add (.c2 .mul (.var 4) (.num 73)) (.num 9)))) (.c2 .and (.c2 .eq (.c2 .rd (.var 1) (.c2 .add (.c2 .mul (.var 4) (.num 73)) (.num 10))) (.c2 .rd (.var 3) (.c2 .add (.c2 .mul (.var 4) (.num 73)) (.num 10)))) (.c2 .and (.c2 .eq (.c2 .rd (.var 1) (.c2 .add (.c2 .mul (.var 4) (.num 73)) (.num 11))) (.c2 .rd (.var 3) (.c2 .add (.c2 .mul (.var 4) (.num 73)) (.num 11)))) (.c2 .and (.c2 .eq (.c2 .rd (.var 1) (.c2 .add (.c2 .mul (.var 4) (.num 73)) (.num 12))) (.c2 .rd (.var 3) (.c2 .add (.c2 .mul (.var 4) (.num 73)) (.num 12)))) (.c2 .and (.c2 .eq (.c2 .rd (.var 1) (.c2 .add (.c2 .mul (.var 4) (.num 73)) (.num 13))) (.c2 .rd (.var 3) (.c2 .add (.c2 .mul (.var 4) (.num 73)) (.num 13)))) (.c2 .and (.c2 .eq (.c2 .rd (.var 1) (.c2 .add (.c2 .mul (.var 4) (.num 73)) (.num 14))) (.c2 .rd (.var 3) (.c2 .add (.c2 .mul (.var 4) (.num 73)) (.num 14)))) (.c2 .and (.c2 .eq (.c2 .rd (.var 1) (.c2 .add (.c2 .mul (.var 4) (.num 73)) (.num 15))) (.c2 .rd (.var 3) (.c2 .add (.c2 .mul (.var 4) (.num 73)) (.num 15)))) (.c2 .and (.c2 .eq (.c2 .rd (.var 1) (.c2 .add (.c2 .mul (.var 4) (.num 73)) (.num 16))) (.c2 .rd (.var 3) (.c2 .add (.c2 .mul (.var 4) (.num 73)) (.num 16)))) (.c2 .and (.c2 .eq (.c2 .rd (.var 1) (.c2 .add (.c2 .mul (.var 4) (.num 73)) (.num 17))) (.c2 .rd (.var 3) (.c2 .add (.c2 .mul (.var 4) (.num 73)) (.num 17)))) (.c2 .and (.c2 .eq (.c2 .rd (.var 1) (.c2 .add (.c2 .mul (.var 4) (.num 73)) (.num 18))) (.c2 .rd (.var 3) (.c2 .add (.c2 .mul (.var 4) (.num 73)) (.num 18)))) (.c2 .and (.c2 .eq (.c2 .rd (.var 1) (.c2 .add (.c2 .mul (.var 4) (.num 73)) (.num 19))) (.c2 .rd (.var 3) (.c2 .add (.c2 .mul (.var 4) (.num 73)) (.num 19)))) (.c2 .and (.c2 .eq (.c2 .rd (.var 1) (.c2 .add (.c2 .mul (.var 4) (.num 73)) (.num 20))) (.c2 .rd (.var 3) (.c2 .add (.c2 .mul (.var 4) (.num 73)) (.num 20)))) (.c2 .and (.c2 .eq (.c2 .rd (.var 1) (.c2 .add (.c2 .mul (.var 4) (.num 73)) (.num 21))) (.c2 .rd (.var 3) (.c2 .add (.c2 .mul (.var 4) (.num 73)) (.num 21)))) (.c2 .and (.c2 .eq (.c2 .rd (.var 1) (.c2 .add (.c2 .mul (.var 4) (.num 73)) (.num 22))) (.c2 .rd (.var 3) (.c2 .add (.c2 .mul (.var 4) (.num 73)) (.num 22)))) (.c2 .and (.c2 .eq (.c2 .rd (.var 1) (.c2 .add (.c2 .mul (.var 4) (.num 73)) (.num 23))) (.c2 .rd (.var 3) (.c2 .add (.c2 .mul (.var 4) (.num 73)) (.num 23)))) (.c2 .and (.c2 .eq (.c2 .rd (.var 1) (.c2 .add (.c2 .mul (.var 4) (.num 73)) (.num 24))) (.c2 .rd (.var 3) (.c2 .add (.c2 .mul (.var 4) (.num 73)) (.num 24)))) (.c2 .and (.c2 .eq (.c2 .rd (.var 1) (.c2 .add (.c2 .mul (.var 4) (.num 73)) (.num 25))) (.c2 .rd (.var 3) (.c2 .add (.c2 .mul (.var 4) (.num 73)) (.num 25)))) (.c2 .and (.c2 .eq (.c2 .rd (.var 1) (.c2 .add (.c2 .mul (.var 4) (.num 73)) (.num 26))) (.c2 .rd (.var 3) (.c2 .add (.c2 .mul (.var 4) (.num 73)) (.num 26)))) (.c2 .and (.c2 .eq (.c2 .rd (.var 1) (.c2 .add (.c2 .mul (.var 4) (.num 73)) (.num 27))) (.c2 .rd (.var 3) (.c2 .add (.c2 .mul (.var 4) (.num 73)) (.num 27)))) (.c2 .and (.c2 .eq (.c2 .rd (.var 1) (.c2 .add (.c2 .mul (.var 4) (.num 73)) (.num 28))) (.c2 .rd (.var 3) (.c2 .add (.c2 .mul (.var 4) (.num 73)) (.num 28)))) (.c2 .and (.c2 .eq (.c2 .rd (.var 1) (.c2 .add (.c2 .mul (.var 4) (.num 73)) (.num 29))) (.c2 .rd (.var 3) (.c2 .add (.c2 .mul (.var 4) (.num 73)) (.num 29)))) (.c2 .and (.c2 .eq (.c2 .rd (.var 1) (.c2 .add (.c2 .mul (.var 4) (.num 73)) (.num 30))) (.c2 .rd (.var 3) (.c2 .add (.c2 .mul (.var 4) (.num 73)) (.num 30)))) (.c2 .and (.c2 .eq (.c2 .rd (.var 1) (.c2 .add (.c2 .mul (.var 4) (.num 73)) (.num 31))) (.c2 .rd (.var 3) (.c2 .add (.c2 .mul (.var 4) (.num 73)) (.num 31)))) (.c2 .and (.c2 .eq (.c2 .rd (.var 1) (.c2 .add (.c2 .mul (.var 4) (.num 73)) (.num 32))) (.c2 .rd (.var 3) (.c2 .add (.c2 .mul (.var 4) (.num 73)) (.num 32)))) (.c2 .and (.c2 .eq (.c2 .rd (.var 1) (.c2 .add (.c2 .mul (.var 4) (.num 73)) (.num 33))) (.c2 .rd (.var 3) (.c2 .add (.c2 .mul (.var 4) (.num 73)) (.num 33)))) (.c2 .and (.c2 .eq (.c2 .rd (.var 1) (.c2 .add (.c2 .mul (.var 4) (.num 73)) (.num 34))) (.c2 .rd (.var 3) (.c2 .add (.c2 .mul (.var 4) (.num 73)) (.num 34)))) (.c2 .and (.c2 .eq (.c2 .rd (.var 1) (.c2 .add (.c2 .mul (.var 4) (.num 73)) (.num 35))) (.c2 .rd (.var 3) (.c2 .add (.c2 .mul (.var 4) (.num 73)) (.num 35)))) (.c2 .and (.c2 .eq (.c2 .rd (.var 1) (.c2 .add (.c2 .mul (.var 4) (.num 73)) (.num 36))) (.c2 .rd (.var 3) (.c2 .add (.c2 .mul (.var 4) (.num 73)) (.num 36)))) (.c2 .and (.c2 .eq (.c2 .rd (.var 1) (.c2 .add (.c2 .mul (.var 4) (.num 73)) (.num 37))) (.c2 .rd (.var 3) (.c2 .add (.c2 .mul (.var 4) (.num 73)) (.num 37)))) (.c2 .and (.c2 .eq (.c2 .rd (.var 1) (.c2 .add (.c2 .mul (.var 4) (.num 73)) (.num 38))) (.c2 .rd (.var 3) (.c2 .add (.c2 .mul (.var 4) (.num 73)) (.num 38)))) (.c2 .and (.c2 .eq (.c2 .rd (.var 1) (.c2 .add (.c2 .mul (.var 4) (.num 73)) (.num 39))) (.c2 .rd (.var 3) (.c2 .add (.c2 .mul (.var 4) (.num 73)) (.num 39)))) (.c2 .and (.c2 .eq (.c2 .rd (.var 1) (.c2 .add (.c2 .mul (.var 4) (.num 73)) (.num 40))) (.c2 .rd (.var 3) (.c2 .add (.c2 .mul (.var 4) (.num 73)) (.num 40)))) (.c2 .and (.c2 .eq (.c2 .rd (.var 1) (.c2 .add (.c2 .mul (.var 4) (.num 73)) (.num 41))) (.c2 .rd (.var 3) (.c2 .add (.c2 .mul (.var 4) (.num 73)) (.num 41)))) (.c2 .and (.c2 .eq (.c2 .rd (.var 1) (.c2 .add (.c2 .mul (.var 4) (.num 73)) (.num 42))) (.c2 .rd (.var 3) (.c2 .add (.c2 .mul (.var 4) (.num 73)) (.num 42)))) (.c2 .and (.c2 .eq (.c2 .rd (.var 1) (.c2 .add (.c2 .mul (.var 4) (.num 73)) (.num 43))) (.c2 .rd (.var 3) (.c2 .add (.c2 .mul (.var 4) (.num 73)) (.num 43)))) (.c2 .and (.c2 .eq (.c2 .rd (.var 1) (.c2 .add (.c2 .mul (.var 4) (.num 73)) (.num 44))) (.c2 .rd (.var 3) (.c2 .add (.c2 .mul (.var 4) (.num 73)) (.num 44)))) (.c2 .and (.c2 .eq (.c2 .rd (.var 1) (.c2 .add (.c2 .mul (.var 4) (.num 73)) (.num 45))) (.c2 .rd (.var 3) (.c2 .add (.c2 .mul (.var 4) (.num 73)) (.num 45)))) (.c2 .and (.c2 .eq (.c2 .rd (.var 1) (.c2 .add (.c2 .mul (.var 4) (.num 73)) (.num 46))) (.c2 .rd (.var 3) (.c2 .add (.c2 .mul (.var 4) (.num 73)) (.num 46)))) (.c2 .and (.c2 .eq (.c2 .rd (.var 1) (.c2 .add (.c2 .mul (.var 4) (.num 73)) (.num 47))) (.c2 .rd (.var 3) (.c2 .add (.c2 .mul (.var 4) (.num 73)) (.num 47)))) (.c2 .and (.c2 .eq (.c2 .rd (.var 1) (.c2 .add (.c2 .mul (.var 4) (.num 73)) (.num 48))) (.c2 .rd (.var 3) (.c2 .add (.c2 .mul (.var 4) (.num 73)) (.num 48)))) (.c2 .and (.c2 .eq (.c2 .rd (.var 1) (.c2 .add (.c2 .mul (.var 4) (.num 73)) (.num 49))) (.c2 .rd (.var 3) (.c2 .add (.c2 .mul (.var 4) (.num 73)) (.num 49)))) (.c2 .and (.c2 .eq (.c2 .rd (.var 1) (.c2 .add (.c2 .mul (.var 4) (.num 73)) (.num 50))) (.c2 .rd (.var 3) (.c2 .add (.c2 .mul (.var 4) (.num 73)) (.num 50)))) (.c2 .and (.c2 .eq (.c2 .rd (.var 1) (.c2 .add (.c2 .mul (.var 4) (.num 73)) (.num 51))) (.c2 .rd (.var 3) (.c2 .add (.c2 .mul (.var 4) (.num 73)) (.num 51)))) (.c2 .and (.c2 .eq (.c2 .rd (.var 1) (.c2 .add (.c2 .mul (.var 4) (.num 73)) (.num 52))) (.c2 .rd (.var 3) (.c2 .add (.c2 .mul (.var 4) (.num 73)) (.num 52)))) (.c2 .and (.c2 .eq (.c2 .rd (.var 1) (.c2 .add (.c2 .mul (.var 4) (.num 73)) (.num 53))) (.c2 .rd (.var 3) (.c2 .add (.c2 .mul (.var 4) (.num 73)) (.num 53)))) (.c2 .and (.c2 .eq (.c2 .rd (.var 1) (.c2 .add (.c2 .mul (.var 4) (.num 73)) (.num 54))) (.c2 .rd (.var 3) (.c2 .add (.c2 .mul (.var 4) (.num 73)) (.num 54)))) (.c2 .and (.c2 .eq (.c2 .rd (.var 1) (.c2 .add (.c2 .mul (.var 4) (.num 73)) (.num 55))) (.c2 .rd (.var 3) (.c2 .add (.c2 .mul (.var 4) (.num 73)) (.num 55)))) (.c2 .and (.c2 .eq (.c2 .rd (.var 1) (.c2 .add (.c2 .mul (.var 4) (.num 73)) (.num 56))) (.c2 .rd (.var 3) (.c2 .add (.c2 .mul (.var 4) (.num 73)) (.num 56)))) (.c2 .and (.c2 .eq (.c2 .rd (.var 1) (.c2 .add (.c2 .mul (.var 4) (.num 73)) (.num 57))) (.c2 .rd (.var 3) (.c2 .add (.c2 .mul (.var 4) (.num 73)) (.num 57)))) (.c2 .and (.c2 .eq (.c2 .rd (.var 1) (.c2 .add (.c2 .mul (.var 4) (.num 73)) (.num 58))) (.c2 .rd (.var 3) (.c2 .add (.c2 .mul (.var 4) (.num 73)) (.num 58)))) (.c2 .and (.c2 .eq (.c2 .rd (.var 1) (.c2 .add (.c2 .mul (.var 4) (.num 73)) (.num 59))) (.c2 .rd (.var 3) (.c2 .add (.c2 .mul (.var 4) (.num 73)) (.num 59)))) (.c2 .and (.c2 .eq (.c2 .rd (.var 1) (.c2 .add (.c2 .mul (.var 4) (.num 73)) (.num 60))) (.c2 .rd (.var 3) (.c2 .add (.c2 .mul (.var 4) (.num 73)) (.num 60)))) (.c2 .and (.c2 .eq (.c2 .rd (.var 1) (.c2 .add (.c2 .mul (.var 4) (.num 73)) (.num 61))) (.c2 .rd (.var 3) (.c2 .add (.c2 .mul (.var 4) (.num 73)) (.num 61)))) (.c2 .and (.c2 .eq (.c2 .rd (.var 1) (.c2 .add (.c2 .mul (.var 4) (.num 73)) (.num 62))) (.c2 .rd (.var 3) (.c2 .add (.c2 .mul (.var 4) (.num 73)) (.num 62)))) (.c2 .and (.c2 .eq (.c2 .rd (.var 1) (.c2 .add (.c2 .mul (.var 4) (.num 73)) (.num 63))) (.c2 .rd (.var 3) (.c2 .add (.c2 .mul (.var 4) (.num 73)) (.num 63)))) (.c2 .and (.c2 .eq (.c2 .rd (.var 1) (.c2 .add (.c2 .mul (.var 4) (.num 73)) (.num 64))) (.c2 .rd (.var 3) (.c2 .add (.c2 .mul (.var 4) (.num 73)) (.num 64)))) (.c2 .and (.c2 .eq (.c2 .rd (.var 1) (.c2 .add (.c2 .mul (.var 4) (.num 73)) (.num 65))) (.c2 .rd (.var 3) (.c2 .add (.c2 .mul (.var 4) (.num 73)) (.num 65)))) (.c2 .and (.c2 .eq (.c2 .rd (.var 1) (.c2 .add (.c2 .mul (.var 4) (.num 73)) (.num 66))) (.c2 .rd (.var 3) (.c2 .add (.c2 .mul (.var 4) (.num 73)) (.num 66)))) (.c2 .and (.c2 .eq (.c2 .rd (.var 1) (.c2 .add (.c2 .mul (.var 4) (.num 73)) (.num 67))) (.c2 .rd (.var 3) (.c2 .add (.c2 .mul (.var 4) (.num 73)) (.num 67)))) (.c2 .and (.c2 .eq (.c2 .rd (.var 1) (.c2 .add (.c2 .mul (.var 4) (.num 73)) (.num 68))) (.c2 .rd (.var 3) (.c2 .add (.c2 .mul (.var 4) (.num 73)) (.num 68)))) (.c2 .and (.c2 .eq (.c2 .rd (.var 1) (.c2 .add (.c2 .mul (.var 4) (.num 73)) (.num 69))) (.c2 .rd (.var 3) (.c2 .add (.c2 .mul (.var 4) (.num 73)) (.num 69)))) (.c2 .and (.c2 .eq (.c2 .rd (.var 1) (.c2 .add (.c2 .mul (.var 4) (.num 73)) (.num 70))) (.c2 .rd (.var 3) (.c2 .add (.c2 .mul (.var 4) (.num 73)) (.num 70)))) (.c2 .and (.c2 .eq (.c2 .rd (.var 1) (.c2 .add (.c2 .mul (.var 4) (.num 73)) (.num 71))) (.c2 .rd (.var 3) (.c2 .add (.c2 .mul (.var 4) (.num 73)) (.num 71)))) (.c2 .eq (.c2 .rd (.var 1) (.c2 .add (.c2 .mul (.var 4) (.num 73)) (.num 72))) (.c2 .rd (.var 3) (.c2 .add (.c2 .mul (.var 4) (.num 73)) (.num 72)))))))))))))))))))))))))))))))))))))))))))))))))))))))))))))))))))))))))))))
    (.ret (.w (.c (.b (.bol false))), ⟨[], [], 2, 5, []⟩))
    (.back 0 4 [(.wr .i64 (.c2 .add (.var 4) (.num 1)))])))))
   (.ret (.w (.c (.b (.bol true))), ⟨[], [], 2, 5, []⟩)))))
theorem treePeSame_is : funTree (ctxN Go.Proofs.Try.prog annsPe [] 8) annsPe 13 tSameH.vs tSameH.bs tSameH.n (preF tSameH.res) = treePeSame := by kernel_rfl
end Go.Proofs.Ytbiodlomlendkaa.Sx
/- Sx laws of peeling: two lists of heads are the same: a contract. Conditions: none. -/
set_option linter.unusedVariables false
set_option linter.unusedSimpArgs false
namespace Go.Proofs.Ytbiodlomlendkaa.Sx
open Go
def idxT (m : T) : Nat → T
  | 0 => m
  | j + 1 => .c2 .add m (.num (.ofNat (j + 1)))
def eqAt (a b m : T) (j : Nat) : T := .c2 .eq (.c2 .rd a (idxT m j)) (.c2 .rd b (idxT m j))
/-- The elements from j on, n + 1 of them. -/
def eqsT (a b m : T) : Nat → Nat → T
  | j, 0 => eqAt a b m j
  | j, n + 1 => .c2 .and (eqAt a b m j) (eqsT a b m (j + 1) n)
section
variable {Φ : Sig} {ρ : Env} {a b m : T} {M : Nat}
theorem den_idx (hM : (T.den Φ ρ m).int = M) : ∀ j, (T.den Φ ρ (idxT m j)).int = ((M + j : Nat) : Int)
  | 0 => hM
  | j + 1 => by show (T.den Φ ρ m).int + (Int.ofNat (j + 1)) = _; rw [hM]; simp only [Int.ofNat_eq_natCast]; omega
theorem eqAt_iff (hM : (T.den Φ ρ m).int = M) (j : Nat) : (T.den Φ ρ (eqAt a b m j)).bool = true ↔ (T.den Φ ρ a).list[M + j]?.getD 0 = (T.den Φ ρ b).list[M + j]?.getD 0 := by
  rw [eqAt, eq_t, int_rd, int_rd, den_idx hM, Int.toNat_natCast]
theorem eqs_iff (hM : (T.den Φ ρ m).int = M) : ∀ (n j : Nat), (T.den Φ ρ (eqsT a b m j n)).bool = true ↔ ∀ i, j ≤ i → i ≤ j + n → (T.den Φ ρ a).list[M + i]?.getD 0 = (T.den Φ ρ b).list[M + i]?.getD 0
  | 0, j => by
    rw [eqsT, eqAt_iff hM]
    exact ⟨fun h i h1 h2 => by rw [show i = j from by omega]; exact h, fun h => h j (Nat.le_refl _) (by omega)⟩
  | n + 1, j => by
    rw [eqsT, and_t, eqAt_iff hM, eqs_iff hM n (j + 1)]
    constructor
    · rintro ⟨h1, h2⟩ i a1 a2
      rcases Nat.eq_or_lt_of_le a1 with e | e
      · rw [← e]; exact h1
      · exact h2 i e (by omega)
    · exact fun h => ⟨h j (Nat.le_refl _) (by omega), fun i a1 a2 => h i (by omega) (by omega)⟩
end
theorem take_many {a b : List Int} {i n : Nat} (h : a.take i = b.take i) (ha : i + n ≤ a.length) (hb : i + n ≤ b.length) (e : ∀ j, j < n → a[i + j]?.getD 0 = b[i + j]?.getD 0) : a.take (i + n) = b.take (i + n) := by
  apply List.ext_getElem?
  intro j
  rw [List.getElem?_take, List.getElem?_take]
  split
  · rename_i hj
    by_cases hji : j < i
    · have := congrArg (fun l => l[j]?) h
      simp only [List.getElem?_take, if_pos hji] at this
      exact this
    · have := e (j - i) (by omega)
      rw [show i + (j - i) = j from by omega, List.getElem?_eq_getElem (by omega), List.getElem?_eq_getElem (by omega)] at this
      rw [List.getElem?_eq_getElem (by omega), List.getElem?_eq_getElem (by omega)]
      simpa using this
  · rfl
def sameJ : Inv := ⟨fun _ ρ ds => ∃ i : Nat, (nthD ds 0).int = i ∧ (i : Int) ≤ (ρ 0).int ∧ (ρ 1).list.take (73 * i) = (ρ 3).list.take (73 * i), fun _ ρ ds => (ρ 0).int.toNat - (nthD ds 0).int.toNat⟩
set_option maxRecDepth 100000 in
theorem sameH_ok {Φ : Sig} : TmplOk Go.Proofs.Try.prog Φ 13 tSameH := by
  refine tmpl_of noCons treePeSame_is (fun ρ res hres => ⟨sameJ, ?_⟩)
  obtain ⟨a0, a1, hres⟩ := inR_some hres
  obtain ⟨b0, b1, hres⟩ := inR_some hres
  obtain ⟨_, hres⟩ := chk_some hres
  obtain ⟨_, hres⟩ := chk_some hres
  obtain ⟨l1, hres⟩ := chk_some hres
  obtain ⟨l2, hres⟩ := chk_some hres
  obtain rfl := ret_some hres
  simp at l1 l2
  obtain ⟨n, hn⟩ := Int.eq_ofNat_of_zero_le a0
  obtain ⟨n2, hn2⟩ := Int.eq_ofNat_of_zero_le b0
  rw [hn] at l1 a1
  rw [hn2] at l2 b1
  have hv : (T.den Φ ρ (.c2 .leq (.var 1) (.var 3))).bool = decide ((ρ 1).list = (ρ 3).list) := rfl
  refine ⟨fun c => ?_, fun c => ⟨⟨0, rfl, a0, by simp⟩, ?_⟩⟩
  · refine ⟨?_, trivial, Nat.le_refl _⟩
    show false = _
    rw [hv, eq_comm, decide_eq_false_iff_not]
    intro e
    simp [hn, hn2] at c
    rw [e] at l1; omega
  · simp [hn, hn2] at c
    rintro ds hlen ⟨i, i0, i1, i2⟩
    have e0 : upd ρ 4 ds 0 = ρ 0 := upd_lo ds (by decide)
    have e1 : upd ρ 4 ds 1 = ρ 1 := upd_lo ds (by decide)
    have e2 : upd ρ 4 ds 2 = ρ 2 := upd_lo ds (by decide)
    have e3 : upd ρ 4 ds 3 = ρ 3 := upd_lo ds (by decide)
    have e4 : upd ρ 4 ds 4 = nthD ds 0 := upd_at (i := 0) (by omega)
    generalize upd ρ 4 ds = ρ' at *
    have v4 : (ρ' 4).int = i := by rw [e4]; exact i0
    rw [hn] at i1
    have hM : (T.den Φ ρ' (.c2 .mul (.var 4) (.num 73))).int = ((73 * i : Nat) : Int) := by rw [int_mul, den_var, v4]; show (i : Int) * 73 = _; omega
    refine ⟨?_, fun d => ⟨?_, ?_, ?_, fun f => ?_, fun f => ?_⟩, fun d => ?_⟩
    · intro t p hm
      simp only [List.mem_cons, Prod.mk.injEq, List.not_mem_nil, or_false] at hm
      obtain ⟨rfl, rfl⟩ := hm
      rw [le_t, den_var, v4]; exact Int.natCast_nonneg _
    · rw [lt_t, den_var, den_var, v4, e0, hn] at d
      rw [le_t, int_add, hM, int_len, den_var, e1]; show ((73 * i : Nat) : Int) + 73 ≤ _; omega
    · rw [lt_t, den_var, den_var, v4, e0, hn] at d
      rw [lt_t, den_var, den_var, v4, e2, hn2]; omega
    · rw [lt_t, den_var, den_var, v4, e0, hn] at d
      rw [le_t, int_add, hM, int_len, den_var, e3]; show ((73 * i : Nat) : Int) + 73 ≤ _; omega
    · refine ⟨?_, trivial, Nat.le_refl _⟩
      show false = _
      rw [hv, eq_comm, decide_eq_false_iff_not]
      intro e
      rw [not_t] at f
      have : (T.den Φ ρ' (eqsT (.var 1) (.var 3) (.c2 .mul (.var 4) (.num 73)) 0 72)).bool = true := by
        rw [eqs_iff hM]
        intro j _ _
        rw [den_var, den_var, e1, e3, e]
      have f3 : (T.den Φ ρ' (eqsT (.var 1) (.var 3) (.c2 .mul (.var 4) (.num 73)) 0 72)).bool = false := f
      rw [this] at f3; cases f3
    · rw [lt_t, den_var, den_var, v4, e0, hn] at d
      rw [not_f] at f
      have f2 : (T.den Φ ρ' (eqsT (.var 1) (.var 3) (.c2 .mul (.var 4) (.num 73)) 0 72)).bool = true := f
      rw [eqs_iff hM] at f2
      have w : IntKind.i64.wrap ((i : Int) + 1) = ((i + 1 : Nat) : Int) := by rw [wrap_is (by simp only [kmin]; omega) (by simp only [kmax]; omega)]; rfl
      have w2 : (T.den Φ ρ' (.wr .i64 (.c2 .add (.var 4) (.num 1)))).int = ((i + 1 : Nat) : Int) := by rw [int_wr, int_add, den_var, v4]; exact w
      refine ok_back ⟨⟨i + 1, w2, by rw [hn]; omega, ?_⟩, ?_⟩
      · rw [show 73 * (i + 1) = 73 * i + 73 from by omega]
        refine take_many i2 (by omega) (by omega) (fun j hj => ?_)
        have := f2 j (Nat.zero_le _) (by omega)
        rw [den_var, den_var, e1, e3] at this
        exact this
      · show (ρ 0).int.toNat - (T.den Φ ρ' (.wr .i64 (.c2 .add (.var 4) (.num 1)))).int.toNat < (ρ 0).int.toNat - (nthD ds 0).int.toNat
        rw [w2, hn, i0]; omega
    · rw [lt_f, den_var, den_var, v4, e0, hn] at d
      refine ⟨?_, trivial, Nat.le_refl _⟩
      show true = _
      rw [hv, eq_comm, decide_eq_true_iff]
      have hi : i = n := by omega
      rw [hi, List.take_of_length_le (by omega), List.take_of_length_le (by omega)] at i2
      exact i2
end Go.Proofs.Ytbiodlomlendkaa.Sx
/- Sx laws of peeling: patterns of the statements. Conditions: none. -/
set_option linter.unusedVariables false
namespace Go.Proofs.Ytbiodlomlendkaa.Sx
open Go
def tTrue : Tmpl := ⟨[], [], 0, truth 5000⟩
/-- A loop that turns each byte of a slice, or each head's kind: what is left does not matter. -/
def turnHeads (id ti ta : Nat) (S : St) : Ann := match look S.tm ta with
  | some (.w (.c (.s j 73 0 (.num 0) n))) => .inv id ⟨[(ti, .c (.i .i64 (.var S.nv)))], [(j, some ⟨true, .row kHead (.var (S.nv + 1))⟩)], [], 2, [(.c2 .le (.num 0) (.var S.nv), true), (.c2 .eq (.c1 .len (.var (S.nv + 1))) (.c2 .mul n (.num 73)), true), (.c1 (.kin kHead) (.var (S.nv + 1)), true)]⟩
  | _ => .unroll 1
def consPl0 : List (Nat × Con) := (14, tEq.con) :: (13, tSameH.con) :: (11, (tPeel 3 5).con) :: (12, (tPeel 1 2).con) :: consPe
def consPl : List (Nat × Con) := (15, tTrue.con) :: consPl0
def annsAw : Anns := fun _ _ _ => .unroll 40
def consAw : List (Nat × Con) := [(14, tEq.con), (34, tClone.con)]
def annsPl : Anns := fun f i S => match f, i with
  | 3, 8 => turnAll 0 13 5 S
  | 3, 12 => turnHeads 1 14 4 S
  | 6, 9 => .inv 0 ⟨[(7, .c (.i .i64 (.var S.nv))), (8, .c (.i .i64 (.var (S.nv + 1))))], [], [], 2, [(.c2 .le (.num 0) (.var S.nv), true), (.c2 .le (.var S.nv) (.num 320), true), (.c2 .le (.num 0) (.var (S.nv + 1)), true)]⟩
  | _, _ => .unroll 40
def annsEq : Anns := fun f i S => match f, i with
  | 14, 4 => .inv 0 ⟨[(5, .c (.i .i64 (.var S.nv)))], [], [], 1, [(.c2 .le (.num 0) (.var S.nv), true)]⟩
  | _, _ => .unroll 40
def tPeels : Tmpl := ⟨[slc 0 0], [(0, rowB 0)], 1, short 0 (bytes 0 (truth 100000))⟩
end Go.Proofs.Ytbiodlomlendkaa.Sx
/- Sx: what Go function 14 does, as a tree of conditions (printed by a tool of this claim, proved by the kernel). Conditions: none. -/
set_option maxRecDepth 100000
namespace Go.Proofs.Ytbiodlomlendkaa.Sx
open Go
def treePlEq : M (V × St) :=
(.split (.c1 .not (.c2 .eq (.c1 .len (.var 0)) (.c1 .len (.var 1))))
 (.ret (.w (.c (.b (.bol false))), ⟨[], [], 2, 2, []⟩))
 (.loop 0 2 1 [(.num 0)] [((.c2 .le (.num 0) (.var 2)), true)]
  (.split (.c2 .lt (.var 2) (.c1 .len (.var 0)))
   (.chk (.c2 .lt (.var 2) (.c1 .len (.var 1)))
   (.split (.c1 .not (.c2 .eq (.c2 .rd (.var 0) (.var 2)) (.c2 .rd (.var 1) (.var 2))))
    (.ret (.w (.c (.b (.bol false))), ⟨[], [], 2, 3, []⟩))
    (.back 0 2 [(.wr .i64 (.c2 .add (.var 2) (.num 1)))])))
   (.ret (.w (.c (.b (.bol true))), ⟨[], [], 2, 3, []⟩)))))
theorem treePlEq_is : funTree (ctxN Go.Proofs.Try.prog annsEq [] 8) annsEq 14 tEq.vs tEq.bs tEq.n (preF tEq.res) = treePlEq := by kernel_rfl
end Go.Proofs.Ytbiodlomlendkaa.Sx
/- Sx: what Go function 15 does, as a tree of conditions (printed by a tool of this claim, proved by the kernel). Conditions: none. -/
set_option maxRecDepth 100000
namespace Go.Proofs.Ytbiodlomlendkaa.Sx
open Go
def treePlAwake : M (V × St) :=
(.ret (.w (.c (.b (.bol true))), ⟨[], [], 60, 0, []⟩))
theorem treePlAwake_is : funTree (ctxN Go.Proofs.Try.prog annsAw consAw 8) annsAw 15 tTrue.vs tTrue.bs tTrue.n (preF tTrue.res) = treePlAwake := by kernel_rfl
end Go.Proofs.Ytbiodlomlendkaa.Sx
/- Sx: what Go function 3 does, as a tree of conditions (printed by a tool of this claim, proved by the kernel). Conditions: none. -/
set_option maxRecDepth 100000
namespace Go.Proofs.Ytbiodlomlendkaa.Sx
open Go
def treePlPeels : M (V × St) :=
(.split (.c2 .eq (.fn 51 (.var 0) .nil .nil) (.num 0))
 (.chk (.c2 .le (.num 1) (.fn 52 (.var 0) .nil .nil))
 (.chk (.c2 .le (.fn 52 (.var 0) .nil .nil) (.num 8))
 (.chk (.c2 .eq (.c1 .len (.fn 50 (.var 0) .nil .nil)) (.c2 .mul (.fn 52 (.var 0) .nil .nil) (.num 73)))
 (.chk (.c1 (.kin [.u8, .u8, .u8, .u8, .u8, .u8, .u8, .u8, .u8, .u8, .u8, .u8, .u8, .u16, .u8, .u16, .u16, .u8, .u8, .u8, .u16, .u8, .u8, .u8, .u8, .u8, .u8, .u8, .u8, .u8, .u32, .u8, .u8, .u8, .u8, .u8, .u8, .u8, .u8, .u8, .u8, .u8, .u8, .u8, .u8, .u8, .u8, .u8, .u8, .u8, .u8, .u8, .u8, .u8, .u8, .u8, .u8, .u8, .u8, .u8, .u8, .u8, .u8, .u8, .u8, .u16, .u16, .u32, .u32, .u8, .u16, .u16, .u16]) (.fn 50 (.var 0) .nil .nil))
 (.chk (.c1 (.kin [.u8]) (.fn 53 (.var 0) .nil .nil))
 (.chk (.c2 .le (.c1 .len (.fn 53 (.var 0) .nil .nil)) (.c1 .len (.var 0)))
 (.loop 0 1 2 [(.num 0), (.fn 53 (.var 0) .nil .nil)] [((.c2 .le (.num 0) (.var 1)), true), ((.c2 .eq (.c1 .len (.var 2)) (.c1 .len (.fn 53 (.var 0) .nil .nil))), true), ((.c1 (.kin [.u8]) (.var 2)), true)]
  (.split (.c2 .lt (.var 1) (.c1 .len (.fn 53 (.var 0) .nil .nil)))
   (.chk (.c2 .le (.c2 .add (.var 1) (.num 1)) (.c1 .len (.var 2)))
   (.back 0 1 [(.wr .i64 (.c2 .add (.var 1) (.num 1))), (.set (.var 2) (.var 1) (.bits .xor .u8 (.c2 .rd (.var 2) (.var 1)) (.num 90)))]))
   (.loop 1 3 2 [(.num 0), (.fn 50 (.var 0) .nil .nil)] [((.c2 .le (.num 0) (.var 3)), true), ((.c2 .eq (.c1 .len (.var 4)) (.c2 .mul (.fn 52 (.var 0) .nil .nil) (.num 73))), true), ((.c1 (.kin [.u8, .u8, .u8, .u8, .u8, .u8, .u8, .u8, .u8, .u8, .u8, .u8, .u8, .u16, .u8, .u16, .u16, .u8, .u8, .u8, .u16, .u8, .u8, .u8, .u8, .u8, .u8, .u8, .u8, .u8, .u32, .u8, .u8, .u8, .u8, .u8, .u8, .u8, .u8, .u8, .u8, .u8, .u8, .u8, .u8, .u8, .u8, .u8, .u8, .u8, .u8, .u8, .u8, .u8, .u8, .u8, .u8, .u8, .u8, .u8, .u8, .u8, .u8, .u8, .u8, .u16, .u16, .u32, .u32, .u8, .u16, .u16, .u16]) (.var 4)), true)]
    (.split (.c2 .lt (.var 3) (.fn 52 (.var 0) .nil .nil))
     (.chk (.c2 .le (.c2 .add (.c2 .mul (.var 3) (.num 73)) (.num 1)) (.c1 .len (.var 4)))
     (.back 1 3 [(.wr .i64 (.c2 .add (.var 3) (.num 1))), (.set (.var 4) (.c2 .mul (.var 3) (.num 73)) (.num 99))]))
     (.ret (.w (.c (.b (.bol true))), ⟨[], [], 5614, 5, []⟩))))))))))))
 (.ret (.w (.c (.b (.bol true))), ⟨[], [], 5606, 1, []⟩)))
theorem treePlPeels_is : funTree (ctxN Go.Proofs.Try.prog annsPl consPl 8) annsPl 3 tPeels.vs tPeels.bs tPeels.n (preF tPeels.res) = treePlPeels := by kernel_rfl
end Go.Proofs.Ytbiodlomlendkaa.Sx
/- Sx: what Go function 6 does, as a tree of conditions (printed by a tool of this claim, proved by the kernel). Conditions: none. -/
set_option maxRecDepth 100000
namespace Go.Proofs.Ytbiodlomlendkaa.Sx
open Go
def treePlAll : M (V × St) :=
(.split (.c2 .eq (.fn 51 (.var 0) .nil .nil) (.num 0))
 (.chk (.c2 .le (.num 1) (.fn 52 (.var 0) .nil .nil))
 (.chk (.c2 .le (.fn 52 (.var 0) .nil .nil) (.num 8))
 (.chk (.c2 .eq (.c1 .len (.fn 50 (.var 0) .nil .nil)) (.c2 .mul (.fn 52 (.var 0) .nil .nil) (.num 73)))
 (.chk (.c1 (.kin [.u8, .u8, .u8, .u8, .u8, .u8, .u8, .u8, .u8, .u8, .u8, .u8, .u8, .u16, .u8, .u16, .u16, .u8, .u8, .u8, .u16, .u8, .u8, .u8, .u8, .u8, .u8, .u8, .u8, .u8, .u32, .u8, .u8, .u8, .u8, .u8, .u8, .u8, .u8, .u8, .u8, .u8, .u8, .u8, .u8, .u8, .u8, .u8, .u8, .u8, .u8, .u8, .u8, .u8, .u8, .u8, .u8, .u8, .u8, .u8, .u8, .u8, .u8, .u8, .u8, .u16, .u16, .u32, .u32, .u8, .u16, .u16, .u16]) (.fn 50 (.var 0) .nil .nil))
 (.chk (.c1 (.kin [.u8]) (.fn 53 (.var 0) .nil .nil))
 (.chk (.c2 .le (.c1 .len (.fn 53 (.var 0) .nil .nil)) (.c1 .len (.var 0)))
 (.loop 0 1 2 [(.num 0), (.num 0)] [((.c2 .le (.num 0) (.var 1)), true), ((.c2 .le (.var 1) (.num 320)), true), ((.c2 .le (.num 0) (.var 2)), true)]
  (.split (.c2 .lt (.var 2) (.fn 52 (.var 0) .nil .nil))
   (.chk (.c2 .le (.c2 .add (.c2 .mul (.var 2) (.num 73)) (.num 1)) (.c1 .len (.fn 50 (.var 0) .nil .nil)))
   (.split (.c2 .lt (.c2 .rd (.fn 50 (.var 0) .nil .nil) (.c2 .mul (.var 2) (.num 73))) (.num 1))
    (.ret (.w (.c (.b (.bol false))), ⟨[], [], 5202, 3, []⟩))
    (.split (.c2 .lt (.num 6) (.c2 .rd (.fn 50 (.var 0) .nil .nil) (.c2 .mul (.var 2) (.num 73))))
     (.ret (.w (.c (.b (.bol false))), ⟨[], [], 5202, 3, []⟩))
     (.back 0 1 [(.c2 .add (.var 1) (.c2 .rd (.cons (.num 0) (.cons (.num 14) (.cons (.num 4) (.cons (.num 20) (.cons (.num 40) (.cons (.num 20) (.cons (.num 8) .nil))))))) (.c2 .rd (.fn 50 (.var 0) .nil .nil) (.c2 .mul (.var 2) (.num 73))))), (.wr .i64 (.c2 .add (.var 2) (.num 1)))]))))
   (.split (.c2 .eq (.wr .i64 (.c2 .add (.var 1) (.c1 .len (.fn 53 (.var 0) .nil .nil)))) (.c1 .len (.var 0)))
    (.chk (.c2 .le (.var 1) (.c1 .len (.var 0)))
    (.ret (.w (.c (.b (.c2 .leq (.fn 53 (.var 0) .nil .nil) (.c2 .drop (.var 1) (.var 0))))), ⟨[], [], 5204, 3, []⟩)))
    (.ret (.w (.c (.b (.bol false))), ⟨[], [], 5202, 3, []⟩)))))))))))
 (.ret (.w (.c (.b (.bol true))), ⟨[], [], 5201, 1, []⟩)))
theorem treePlAll_is : funTree (ctxN Go.Proofs.Try.prog annsPl consPl 8) annsPl 6 tPeels.vs tPeels.bs tPeels.n (preF tPeels.res) = treePlAll := by kernel_rfl
end Go.Proofs.Ytbiodlomlendkaa.Sx
/- Sx laws of peeling: what is peeled is the document's; sizes add up: the trees' leaves are true. Conditions: none. -/
set_option linter.unusedVariables false
set_option linter.unusedSimpArgs false
namespace Go.Proofs.Ytbiodlomlendkaa.Sx
open Go
/-- The headers' sizes, as far as told. -/
def szSum (rows : List Int) : Nat → Nat
  | 0 => 0
  | i + 1 => szSum rows i + hdSize (rows[73 * i]?.getD 0).toNat
theorem szSum_app {a b : List Int} {c : Nat} (h : 73 * c ≤ a.length) : ∀ i, i ≤ c → szSum (a ++ b) i = szSum a i
  | 0, _ => rfl
  | i + 1, hi => by
    rw [szSum, szSum, szSum_app h i (by omega), List.getElem?_append_left (by omega)]
theorem head_kind {k : Nat} (r : List Int) (hk : 1 ≤ k ∧ k ≤ 6) : (headOf k r)[0]? = some (k : Int) := by
  have : k = 1 ∨ k = 2 ∨ k = 3 ∨ k = 4 ∨ k = 5 ∨ k = 6 := by omega
  rcases this with rfl | rfl | rfl | rfl | rfl | rfl <;> rfl
structure Peeled (p rows : List Int) (a m : Nat) : Prop where
  len : rows.length = 73 * m
  kin : inKinds kHead 0 rows = true
  at_ : a ≤ p.length
  sum : szSum rows m = a
  kind : ∀ i, i < m → 1 ≤ rows[73 * i]?.getD 0 ∧ rows[73 * i]?.getD 0 ≤ 6
theorem peeled_more {p acc : List Int} {a c k : Nat} (h : Peeled p acc a c) (hk : 1 ≤ k ∧ k ≤ 6) (he : rdErr k (p.drop a) = 0) : Peeled p (acc ++ headOf k (rdRow k (p.drop a))) (a + hdSize k) (c + 1) := by
  have hl := head_len k (rdRow k (p.drop a)) hk
  have hs := rd_size he
  rw [List.length_drop] at hs
  have hg : (acc ++ headOf k (rdRow k (p.drop a)))[73 * c]? = some (k : Int) := by
    rw [List.getElem?_append_right (by rw [h.len]; omega), h.len, show 73 * c - 73 * c = 0 from by omega, head_kind _ hk]
  refine ⟨by rw [List.length_append, h.len, hl]; omega, heads_more h.kin h.len hk, ?_, ?_, fun i hi => ?_⟩
  · have := h.at_
    have : 0 < hdSize k := by
      have : k = 1 ∨ k = 2 ∨ k = 3 ∨ k = 4 ∨ k = 5 ∨ k = 6 := by omega
      rcases this with rfl | rfl | rfl | rfl | rfl | rfl <;> decide
    omega
  · rw [szSum, szSum_app (c := c) (by rw [h.len]; omega) c (Nat.le_refl _), h.sum, hg]; rfl
  · by_cases e : i = c
    · subst e; rw [hg]; show 1 ≤ (k : Int) ∧ (k : Int) ≤ 6; omega
    · rw [List.getElem?_append_left (by rw [h.len]; omega)]; exact h.kind i (by omega)
theorem peelGo_spec : ∀ (n : Nat) {p acc : List Int} {a c k : Nat}, Peeled p acc a c → 1 ≤ k ∧ k ≤ 6 → (peelGo n p a k acc).2.2 = 0 → ∃ m, c < m ∧ m ≤ c + n ∧ Peeled p (peelGo n p a k acc).1 (peelGo n p a k acc).2.1 m
  | 0, p, acc, a, c, k, _, _, h => by cases h
  | n + 1, p, acc, a, c, k, hp, hk, h => by
    unfold peelGo at h ⊢
    split at h
    · rename_i he
      have hm := peeled_more hp hk he
      rw [if_pos he]
      split at h
      · rename_i hn
        rw [if_pos hn]
        exact ⟨c + 1, by omega, by omega, hm⟩
      · rename_i hn
        rw [if_neg hn]
        have hr := nextK_range (headOf k (rdRow k (p.drop a)))
        obtain ⟨m, h1, h2, h3⟩ := peelGo_spec n hm (k := (nextK (headOf k (rdRow k (p.drop a)))).toNat) ⟨by omega, by omega⟩ h
        exact ⟨m, by omega, by omega, h3⟩
    · rename_i he; exact absurd h he
theorem peelOf_spec {p : List Int} (h : (peelOf p).2.2 = 0) : ∃ m, 1 ≤ m ∧ m ≤ 8 ∧ Peeled p (peelOf p).1 (peelOf p).2.1 m := by
  have h0 : Peeled p [] 0 0 := ⟨rfl, rfl, by omega, rfl, fun i hi => by omega⟩
  obtain ⟨m, h1, h2, h3⟩ := peelGo_spec 8 h0 (k := 1) ⟨by decide, by decide⟩ h
  exact ⟨m, by omega, by omega, h3⟩
/-- Where the first head of a kind stands, from the i-th on. -/
def whGo (rows : List Int) (k : Int) : Nat → Nat → Nat → Bool × Nat
  | 0, _, _ => (false, 0)
  | n + 1, i, a => if rows[73 * i]?.getD 0 = k then (true, a) else whGo rows k n (i + 1) (a + hdSize (rows[73 * i]?.getD 0).toNat)
structure WhR where
  a : Int
  n : Int
  b : Bool
  e : Int
def whOf (p : List Int) (k : Int) : WhR :=
  if k < 1 ∨ 6 < k then ⟨0, 0, false, 120⟩ else if (peelOf p).2.2 = 0 then
    (if (whGo (peelOf p).1 k ((peelOf p).1.length / 73) 0 0).1 = true then ⟨(whGo (peelOf p).1 k ((peelOf p).1.length / 73) 0 0).2, hdSize k.toNat, true, 0⟩ else ⟨0, 0, false, 0⟩)
  else ⟨0, 0, false, (peelOf p).2.2⟩
/-- What the symbols stand for here. -/
def ΦP : Sig := fun f x y z => match f with
  | 1 => .i (ocs (wsum x.list))
  | 2 => .i (ocs x.int)
  | 11 => .l (rdRow 1 x.list) | 12 => .l (rdRow 2 x.list) | 13 => .l (rdRow 3 x.list) | 14 => .l (rdRow 4 x.list) | 15 => .l (rdRow 5 x.list) | 16 => .l (rdRow 6 x.list)
  | 21 => .i (rdErr 1 x.list) | 22 => .i (rdErr 2 x.list) | 23 => .i (rdErr 3 x.list) | 24 => .i (rdErr 4 x.list) | 25 => .i (rdErr 5 x.list) | 26 => .i (rdErr 6 x.list)
  | 31 => .l (wrGood 1 x.list y.list) | 32 => .l (wrGood 2 x.list y.list) | 33 => .l (wrGood 3 x.list y.list) | 34 => .l (wrGood 4 x.list y.list) | 35 => .l (wrGood 5 x.list y.list) | 36 => .l (wrGood 6 x.list y.list)
  | 41 => .i (wrFail 1 x.list y.list) | 42 => .i (wrFail 2 x.list y.list) | 43 => .i (wrFail 3 x.list y.list) | 44 => .i (wrFail 4 x.list y.list) | 45 => .i (wrFail 5 x.list y.list) | 46 => .i (wrFail 6 x.list y.list)
  | 50 => .l (peelOf x.list).1
  | 51 => .i (peelOf x.list).2.2
  | 52 => .i ((peelOf x.list).1.length / 73 : Nat)
  | 53 => .l (x.list.drop (peelOf x.list).2.1)
  | 54 => .i (nextK x.list)
  | 55 => .i (whOf x.list y.int).a
  | 56 => .b (whOf x.list y.int).b
  | 57 => .i (whOf x.list y.int).e
  | 58 => .i (whOf x.list y.int).n
  | _ => .i 0
theorem six {P : Nat → Prop} (h1 : P 1) (h2 : P 2) (h3 : P 3) (h4 : P 4) (h5 : P 5) (h6 : P 6) : ∀ k, 1 ≤ k → k ≤ 6 → P k := by
  intro k a b
  have : k = 1 ∨ k = 2 ∨ k = 3 ∨ k = 4 ∨ k = 5 ∨ k = 6 := by omega
  rcases this with rfl | rfl | rfl | rfl | rfl | rfl <;> assumption
theorem sigP : PeSig ΦP where
  sum := fun _ _ _ => rfl
  ocs := fun _ _ _ => rfl
  rdRow := fun k x y z h1 h2 => six (P := fun k => ΦP (10 + k) x y z = .l (rdRow k x.list)) rfl rfl rfl rfl rfl rfl k h1 h2
  rdErr := fun k x y z h1 h2 => six (P := fun k => ΦP (20 + k) x y z = .i (rdErr k x.list)) rfl rfl rfl rfl rfl rfl k h1 h2
  wrRow := fun k x y z h1 h2 => six (P := fun k => ΦP (30 + k) x y z = .l (wrGood k x.list y.list)) rfl rfl rfl rfl rfl rfl k h1 h2
  wrErr := fun k x y z h1 h2 => six (P := fun k => ΦP (40 + k) x y z = .i (wrFail k x.list y.list)) rfl rfl rfl rfl rfl rfl k h1 h2
  row := fun _ _ _ => rfl
  err := fun _ _ _ => rfl
  num := fun _ _ _ => rfl
  rest := fun _ _ _ => rfl
  next := fun _ _ _ => rfl
section
variable {ρ : Env}
theorem pl50 : (T.den ΦP ρ (.fn 50 (.var 0) .nil .nil)).list = (peelOf (ρ 0).list).1 := rfl
theorem pl51 : (T.den ΦP ρ (.fn 51 (.var 0) .nil .nil)).int = (peelOf (ρ 0).list).2.2 := rfl
theorem pl53 : (T.den ΦP ρ (.fn 53 (.var 0) .nil .nil)).list = (ρ 0).list.drop (peelOf (ρ 0).list).2.1 := rfl
theorem pl52 {m : Nat} (h : (peelOf (ρ 0).list).1.length = 73 * m) : (T.den ΦP ρ (.fn 52 (.var 0) .nil .nil)).int = m := by
  show (((peelOf (ρ 0).list).1.length / 73 : Nat) : Int) = m
  rw [h]; omega
end
theorem consPl0_ok : ConsOk Go.Proofs.Try.prog ΦP consPl0 := moreCons (con_ok (eq_ok treePlEq_is)) (moreCons (con_ok sameH_ok) (moreCons (con_ok (peel_ok sigP)) (moreCons (con_ok (peelR_ok sigP)) (consPe_ok sigP))))
theorem plAwake_ok : TmplOk Go.Proofs.Try.prog ΦP 15 tTrue := by
  refine tmpl_of (moreCons (con_ok (eq_ok treePlEq_is)) (moreCons (con_ok clone_ok) noCons)) treePlAwake_is (fun ρ res hres => ⟨eqJ, ?_⟩)
  obtain rfl := ret_some hres
  exact leaf_true rfl (by decide)
theorem consPl_ok : ConsOk Go.Proofs.Try.prog ΦP consPl := moreCons (con_ok plAwake_ok) consPl0_ok
/-- What is known of a packet that is peeled. -/
structure PlOk (ρ : Env) (m : Nat) : Prop where
  one : 1 ≤ m
  most : m ≤ 8
  peeled : Peeled (ρ 0).list (peelOf (ρ 0).list).1 (peelOf (ρ 0).list).2.1 m
  num : (T.den ΦP ρ (.fn 52 (.var 0) .nil .nil)).int = m
  rest : Bytes ((ρ 0).list.drop (peelOf (ρ 0).list).2.1)
theorem pl_ok {ρ : Env} (hb : Bytes (ρ 0).list) (h : (peelOf (ρ 0).list).2.2 = 0) : ∃ m, PlOk ρ m := by
  obtain ⟨m, h1, h2, h3⟩ := peelOf_spec h
  exact ⟨m, h1, h2, h3, pl52 h3.len, bytes_drop hb _⟩
def peelsJ : Inv := ⟨fun id ρ ds => if id = 0 then (∃ (i : Nat) (l : List Int), (nthD ds 0).int = i ∧ (nthD ds 1).list = l ∧ l.length = ((ρ 0).list.drop (peelOf (ρ 0).list).2.1).length ∧ Bytes l ∧ i ≤ l.length)
    else (∃ (i : Nat) (l : List Int), (nthD ds 0).int = i ∧ (nthD ds 1).list = l ∧ l.length = (peelOf (ρ 0).list).1.length ∧ inKinds kHead 0 l = true ∧ 73 * i ≤ l.length),
  fun id ρ ds => if id = 0 then ((ρ 0).list.drop (peelOf (ρ 0).list).2.1).length - (nthD ds 0).int.toNat else (peelOf (ρ 0).list).1.length - (nthD ds 0).int.toNat⟩
theorem set_kin {ks : List IntKind} {l : List Int} {i : Nat} {z : Int} (h : inKinds ks 0 l = true) (hz : kmin (kAt ks i) ≤ z ∧ z ≤ kmax (kAt ks i)) : inKinds ks 0 (l.set i z) = true := by
  rw [inKinds_iff] at h ⊢
  intro j y hj
  rw [List.getElem?_set] at hj
  split at hj
  · rename_i e
    subst e
    split at hj
    · injection hj with hj; subst hj; rw [Nat.zero_add]; exact hz
    · cases hj
  · exact h j y hj
set_option maxRecDepth 100000 in
theorem plPeels_ok : TmplOk Go.Proofs.Try.prog ΦP 3 tPeels := by
  refine tmpl_of consPl_ok treePlPeels_is (fun ρ res hres => ⟨peelsJ, ?_⟩)
  obtain ⟨h0, hres⟩ := short_some hres
  obtain ⟨hb, hres⟩ := bytes_some hres
  obtain rfl := ret_some hres
  refine ⟨fun c => ?_, fun c => leaf_true rfl (by decide)⟩
  rw [eq_t, pl51] at c
  obtain ⟨m, hm⟩ := pl_ok hb c
  have hn := hm.num
  have hlen := hm.peeled.len
  refine ⟨?_, ?_, ?_, ?_, ?_, ?_, ⟨0, _, rfl, rfl, rfl, hm.rest, Nat.zero_le _⟩, ?_⟩
  · rw [le_t, hn]; show (1 : Int) ≤ m; have := hm.one; omega
  · rw [le_t, hn]; show (m : Int) ≤ 8; have := hm.most; omega
  · rw [eq_t, int_len, pl50, int_mul, hn, hlen]; show ((73 * m : Nat) : Int) = m * 73; omega
  · exact hm.peeled.kin
  · rw [bytes_t, pl53]; exact hm.rest
  · rw [le_t, int_len, int_len, pl53, List.length_drop, den_var]; omega
  rintro ds hds ⟨i, l, hi, hl, hll, hbl, hil⟩
  have e0 : upd ρ 1 ds 0 = ρ 0 := upd_lo ds (by decide)
  have e1 : upd ρ 1 ds 1 = nthD ds 0 := upd_at (i := 0) (by omega)
  have e2 : upd ρ 1 ds 2 = nthD ds 1 := upd_at (i := 1) (by omega)
  generalize hρ1 : upd ρ 1 ds = ρ1 at *
  have v1 : (ρ1 1).int = i := by rw [e1]; exact hi
  have v2 : (ρ1 2).list = l := by rw [e2]; exact hl
  have w53 : (T.den ΦP ρ1 (.fn 53 (.var 0) .nil .nil)).list = (ρ 0).list.drop (peelOf (ρ 0).list).2.1 := by rw [pl53, e0]
  have h0' : (ρ 0).list.length ≤ 140737488351232 := h0
  have hrl : ((ρ 0).list.drop (peelOf (ρ 0).list).2.1).length ≤ (ρ 0).list.length := by rw [List.length_drop]; omega
  refine ⟨?_, fun d => ⟨?_, ?_⟩, fun d => ⟨⟨0, _, rfl, rfl, ?_, ?_, Nat.zero_le _⟩, ?_⟩⟩
  · intro t p hm'
    simp only [List.mem_cons, Prod.mk.injEq, List.not_mem_nil, or_false] at hm'
    rcases hm' with ⟨rfl, rfl⟩ | ⟨rfl, rfl⟩ | ⟨rfl, rfl⟩
    · rw [le_t, den_var, v1]; exact Int.natCast_nonneg _
    · rw [eq_t, int_len, int_len, w53, den_var, v2, hll]
    · rw [bytes_t, den_var, v2]; exact hbl
  · rw [lt_t, den_var, v1, int_len, w53] at d
    rw [le_t, int_add, int_len, den_var, den_var, v1, v2, hll]; show (i : Int) + 1 ≤ _; omega
  · rw [lt_t, den_var, v1, int_len, w53] at d
    have w : (T.den ΦP ρ1 (.wr .i64 (.c2 .add (.var 1) (.num 1)))).int = ((i + 1 : Nat) : Int) := by
      rw [int_wr, int_add, den_var, v1]
      show IntKind.i64.wrap ((i : Int) + 1) = _
      rw [wrap_is (by simp only [kmin]; omega) (by simp only [kmax]; omega)]; rfl
    have hx := bits_range .xor .u8 (l.getD i 0) 90
    refine ok_back ⟨⟨i + 1, l.set i (Go.bits .xor .u8 (l.getD i 0) 90), w, ?_, by simpa using hll, set_bytes hbl ⟨hx.1, by have := hx.2; simp only [kmax, Bo.op] at this; omega⟩, by rw [List.length_set]; omega⟩, ?_⟩
    · show (T.den ΦP ρ1 (.set (.var 2) (.var 1) (.bits .xor .u8 (.c2 .rd (.var 2) (.var 1)) (.num 90)))).list = _
      rw [list_set, int_bits, int_rd, den_var, den_var, v1, v2, Int.toNat_natCast]; rfl
    · show ((ρ 0).list.drop _).length - (T.den ΦP ρ1 (.wr .i64 (.c2 .add (.var 1) (.num 1)))).int.toNat < ((ρ 0).list.drop _).length - (nthD ds 0).int.toNat
      rw [w, hi]; omega
  · show (peelOf (ρ1 0).list).1.length = _; rfl
  · show inKinds kHead 0 (peelOf (ρ1 0).list).1 = true
    rw [e0]; exact hm.peeled.kin
  rintro ds2 hds2 ⟨i2, l2, hi2, hl2, hll2, hk2, hil2⟩
  have f0 : upd ρ1 3 ds2 0 = ρ 0 := (upd_lo ds2 (by decide)).trans e0
  have f3 : upd ρ1 3 ds2 3 = nthD ds2 0 := upd_at (i := 0) (by omega)
  have f4 : upd ρ1 3 ds2 4 = nthD ds2 1 := upd_at (i := 1) (by omega)
  generalize upd ρ1 3 ds2 = ρ2 at *
  rw [e0, hlen] at hll2
  have v3 : (ρ2 3).int = i2 := by rw [f3]; exact hi2
  have v4 : (ρ2 4).list = l2 := by rw [f4]; exact hl2
  have w52 : (T.den ΦP ρ2 (.fn 52 (.var 0) .nil .nil)).int = m := pl52 (by rw [f0]; exact hlen)
  have hmost := hm.most
  refine ⟨?_, fun d2 => ⟨?_, ?_⟩, fun d2 => leaf_true rfl (by decide)⟩
  · intro t p hm'
    simp only [List.mem_cons, Prod.mk.injEq, List.not_mem_nil, or_false] at hm'
    rcases hm' with ⟨rfl, rfl⟩ | ⟨rfl, rfl⟩ | ⟨rfl, rfl⟩
    · rw [le_t, den_var, v3]; exact Int.natCast_nonneg _
    · rw [eq_t, int_len, int_mul, w52, den_var, v4, hll2]; show ((73 * m : Nat) : Int) = m * 73; omega
    · show inKinds kHead 0 (ρ2 4).list = true; rw [v4]; exact hk2
  · rw [lt_t, den_var, v3, w52] at d2
    rw [le_t, int_add, int_mul, int_len, den_var, den_var, v3, v4, hll2]; show (i2 : Int) * 73 + 1 ≤ _; omega
  · rw [lt_t, den_var, v3, w52] at d2
    have w : (T.den ΦP ρ2 (.wr .i64 (.c2 .add (.var 3) (.num 1)))).int = ((i2 + 1 : Nat) : Int) := by
      rw [int_wr, int_add, den_var, v3]
      show IntKind.i64.wrap ((i2 : Int) + 1) = _
      rw [wrap_is (by simp only [kmin]; omega) (by simp only [kmax]; omega)]; rfl
    refine ok_back ⟨⟨i2 + 1, l2.set (73 * i2) 99, w, ?_, ?_, set_kin hk2 ?_, ?_⟩, ?_⟩
    · show (T.den ΦP ρ2 (.set (.var 4) (.c2 .mul (.var 3) (.num 73)) (.num 99))).list = _
      rw [list_set, int_mul, den_var, den_var, v3, v4]
      show l2.set ((i2 : Int) * 73).toNat 99 = _
      rw [show ((i2 : Int) * 73).toNat = 73 * i2 from by omega]
    · rw [List.length_set, e0, hll2, hlen]
    · have : kAt kHead (73 * i2) = .u8 := by
        rw [kAt, kHead_len, Nat.mul_mod_right]; rfl
      rw [this]; decide
    · rw [List.length_set, hll2]; omega
    · show (peelOf (ρ1 0).list).1.length - (T.den ΦP ρ2 (.wr .i64 (.c2 .add (.var 3) (.num 1)))).int.toNat < (peelOf (ρ1 0).list).1.length - (nthD ds2 0).int.toNat
      rw [w, hi2, e0, hlen]; omega
end Go.Proofs.Ytbiodlomlendkaa.Sx
/- Sx laws of peeling: the sizes and what is behind are together the packet: the tree's leaves are true. Conditions: none. -/
set_option linter.unusedVariables false
set_option linter.unusedSimpArgs false
namespace Go.Proofs.Ytbiodlomlendkaa.Sx
open Go
theorem hdSize_le (k : Nat) : hdSize k ≤ 40 := by unfold hdSize; split <;> decide
theorem szSum_le (rows : List Int) : ∀ i, szSum rows i ≤ 40 * i
  | 0 => Nat.le_refl _
  | i + 1 => by have := szSum_le rows i; have := hdSize_le (rows[73 * i]?.getD 0).toNat; rw [szSum]; omega
def allJ : Inv := ⟨fun _ ρ ds => ∃ i : Nat, (nthD ds 1).int = i ∧ 73 * i ≤ (peelOf (ρ 0).list).1.length ∧ (nthD ds 0).int = szSum (peelOf (ρ 0).list).1 i, fun _ ρ ds => (peelOf (ρ 0).list).1.length - (nthD ds 1).int.toNat⟩
theorem sizes_rd {k : Nat} (hk : 1 ≤ k ∧ k ≤ 6) : ([0, 14, 4, 20, 40, 20, 8] : List Int)[k]?.getD 0 = hdSize k := by
  have : k = 1 ∨ k = 2 ∨ k = 3 ∨ k = 4 ∨ k = 5 ∨ k = 6 := by omega
  rcases this with rfl | rfl | rfl | rfl | rfl | rfl <;> rfl
set_option maxRecDepth 100000 in
theorem plAll_ok : TmplOk Go.Proofs.Try.prog ΦP 6 tPeels := by
  refine tmpl_of consPl_ok treePlAll_is (fun ρ res hres => ⟨allJ, ?_⟩)
  obtain ⟨h0, hres⟩ := short_some hres
  obtain ⟨hb, hres⟩ := bytes_some hres
  obtain rfl := ret_some hres
  refine ⟨fun c => ?_, fun c => leaf_true rfl (by decide)⟩
  rw [eq_t, pl51] at c
  obtain ⟨m, hm⟩ := pl_ok hb c
  have hn := hm.num
  have hlen := hm.peeled.len
  have hmost := hm.most
  have h0' : (ρ 0).list.length ≤ 140737488351232 := h0
  refine ⟨?_, ?_, ?_, ?_, ?_, ?_, ⟨0, rfl, Nat.zero_le _, rfl⟩, ?_⟩
  · rw [le_t, hn]; show (1 : Int) ≤ m; have := hm.one; omega
  · rw [le_t, hn]; show (m : Int) ≤ 8; omega
  · rw [eq_t, int_len, pl50, int_mul, hn, hlen]; show ((73 * m : Nat) : Int) = m * 73; omega
  · exact hm.peeled.kin
  · rw [bytes_t, pl53]; exact hm.rest
  · rw [le_t, int_len, int_len, pl53, List.length_drop, den_var]; omega
  rintro ds hds ⟨i, hi, hil, hs⟩
  have e0 : upd ρ 1 ds 0 = ρ 0 := upd_lo ds (by decide)
  have e1 : upd ρ 1 ds 1 = nthD ds 0 := upd_at (i := 0) (by omega)
  have e2 : upd ρ 1 ds 2 = nthD ds 1 := upd_at (i := 1) (by omega)
  generalize upd ρ 1 ds = ρ1 at *
  have v1 : (ρ1 1).int = szSum (peelOf (ρ 0).list).1 i := by rw [e1]; exact hs
  have v2 : (ρ1 2).int = i := by rw [e2]; exact hi
  rw [hlen] at hil
  have w52 : (T.den ΦP ρ1 (.fn 52 (.var 0) .nil .nil)).int = m := pl52 (by rw [e0]; exact hlen)
  have w50 : (T.den ΦP ρ1 (.fn 50 (.var 0) .nil .nil)).list = (peelOf (ρ 0).list).1 := by rw [pl50, e0]
  have w53 : (T.den ΦP ρ1 (.fn 53 (.var 0) .nil .nil)).list = (ρ 0).list.drop (peelOf (ρ 0).list).2.1 := by rw [pl53, e0]
  have hx : (T.den ΦP ρ1 (.c2 .mul (.var 2) (.num 73))).int = ((73 * i : Nat) : Int) := by rw [int_mul, den_var, v2]; show (i : Int) * 73 = _; omega
  have hrd : (T.den ΦP ρ1 (.c2 .rd (.fn 50 (.var 0) .nil .nil) (.c2 .mul (.var 2) (.num 73)))).int = (peelOf (ρ 0).list).1[73 * i]?.getD 0 := by rw [int_rd, w50, hx, Int.toNat_natCast]
  have hle := szSum_le (peelOf (ρ 0).list).1 i
  refine ⟨?_, fun d => ⟨?_, fun f => ?_, fun f => ⟨fun q => ?_, fun q => ?_⟩⟩, fun d => ⟨fun f => ⟨?_, ?_⟩, fun f => ?_⟩⟩
  · intro t p hm'
    simp only [List.mem_cons, Prod.mk.injEq, List.not_mem_nil, or_false] at hm'
    rcases hm' with ⟨rfl, rfl⟩ | ⟨rfl, rfl⟩ | ⟨rfl, rfl⟩
    · rw [le_t, den_var, v1]; exact Int.natCast_nonneg _
    · rw [le_t, den_var, v1]; show ((szSum _ i : Nat) : Int) ≤ 320; omega
    · rw [le_t, den_var, v2]; exact Int.natCast_nonneg _
  · rw [lt_t, den_var, v2, w52] at d
    rw [le_t, int_add, hx, int_len, w50, hlen]; show ((73 * i : Nat) : Int) + 1 ≤ _; omega
  · exfalso
    rw [lt_t, den_var, v2, w52] at d
    rw [lt_t, hrd] at f
    have := (hm.peeled.kind i (by omega)).1
    have f : (peelOf (ρ 0).list).1[73 * i]?.getD 0 < 1 := f
    omega
  · exfalso
    rw [lt_t, den_var, v2, w52] at d
    rw [lt_t, hrd] at q
    have := (hm.peeled.kind i (by omega)).2
    have q : 6 < (peelOf (ρ 0).list).1[73 * i]?.getD 0 := q
    omega
  · rw [lt_t, den_var, v2, w52] at d
    have hk := hm.peeled.kind i (by omega)
    obtain ⟨k, hk'⟩ := Int.eq_ofNat_of_zero_le (show 0 ≤ (peelOf (ρ 0).list).1[73 * i]?.getD 0 by omega)
    have w : (T.den ΦP ρ1 (.wr .i64 (.c2 .add (.var 2) (.num 1)))).int = ((i + 1 : Nat) : Int) := by
      rw [int_wr, int_add, den_var, v2]
      show IntKind.i64.wrap ((i : Int) + 1) = _
      rw [wrap_is (by simp only [kmin]; omega) (by simp only [kmax]; omega)]; rfl
    refine ok_back ⟨⟨i + 1, w, by rw [hlen]; omega, ?_⟩, ?_⟩
    · show (T.den ΦP ρ1 (.c2 .add (.var 1) (.c2 .rd (.cons (.num 0) (.cons (.num 14) (.cons (.num 4) (.cons (.num 20) (.cons (.num 40) (.cons (.num 20) (.cons (.num 8) .nil))))))) (.c2 .rd (.fn 50 (.var 0) .nil .nil) (.c2 .mul (.var 2) (.num 73)))))).int = _
      rw [int_add, int_rd, hrd, den_var, v1, hk']
      show (szSum (peelOf (ρ 0).list).1 i : Int) + ([0, 14, 4, 20, 40, 20, 8] : List Int)[k]?.getD 0 = _
      rw [sizes_rd (k := k) (by omega), szSum, hk']
      simp only [Int.toNat_natCast]
      omega
    · show (peelOf (ρ 0).list).1.length - (T.den ΦP ρ1 (.wr .i64 (.c2 .add (.var 2) (.num 1)))).int.toNat < (peelOf (ρ 0).list).1.length - (nthD ds 1).int.toNat
      rw [w, hi, hlen]; omega
  all_goals
    rw [lt_f, den_var, v2, w52] at d
    have him : i = m := by omega
    subst him
    rw [hm.peeled.sum] at v1
    have hat := hm.peeled.at_
  · rw [le_t, den_var, v1, int_len, den_var, e0]; omega
  · refine leaf_true ?_ (by decide)
    rw [leq_t, w53, list_drop, den_var, v1, den_var, e0, Int.toNat_natCast]
  · exfalso
    rw [eq_f, int_wr, int_add, den_var, v1, int_len, w53, int_len, den_var, e0, List.length_drop] at f
    apply f
    rw [wrap_is (by simp only [kmin]; omega) (by simp only [kmax]; omega)]
    omega
end Go.Proofs.Ytbiodlomlendkaa.Sx
/- Sx laws of peeling: where a header stands: patterns. Conditions: none. -/
set_option linter.unusedVariables false
namespace Go.Proofs.Ytbiodlomlendkaa.Sx
open Go
/-- Where a header of a kind stands: at (symbol 55), of how many bytes (58), is it there (56), error (57). -/
def whT (f : Nat) (p k : T) : T := .fn f p k .nil
def tWhere : Tmpl := ⟨[slc 0 0, .c (.i .u8 (.var 1))], [(0, rowB 0)], 2, short 0 (bytes 0 (inR 1 0 255 (.ret ⟨.t [.g [.i .i64 (whT 55 (.var 0) (.var 1)), .i .i64 (whT 58 (.var 0) (.var 1))], .c (.b (whT 56 (.var 0) (.var 1))), .c (.i .i64 (whT 57 (.var 0) (.var 1)))], [], 400⟩)))⟩
def annsWh : Anns := fun f i S => match f, i with
  | 16, 8 => .inv 0 ⟨[(11, .c (.i .i64 (.var S.nv))), (34, .c (.i .i64 (.var (S.nv + 1))))], [], [], 2, [(.c2 .le (.num 0) (.var S.nv), true), (.c2 .le (.var S.nv) (.num 320), true), (.c2 .le (.num 0) (.var (S.nv + 1)), true)]⟩
  | 17, 8 => .inv 0 ⟨[(10, .c (.i .i64 (.var S.nv))), (11, .c (.i .i64 (.var (S.nv + 1))))], [], [], 2, [(.c2 .le (.num 0) (.var S.nv), true), (.c2 .le (.var S.nv) (.num 320), true), (.c2 .le (.num 0) (.var (S.nv + 1)), true)]⟩
  | _, _ => .unroll 40
def consWh : List (Nat × Con) := (16, tWhere.con) :: (17, tWhere.con) :: consPl
def tWheres : Tmpl := ⟨[slc 0 0, headV 1], [(0, rowB 0)], 74, short 0 (bytes 0 (inKs 1 kHead (truth 100000)))⟩
end Go.Proofs.Ytbiodlomlendkaa.Sx
/- Sx: what Go function 16 does, as a tree of conditions (printed by a tool of this claim, proved by the kernel). Conditions: none. -/
set_option maxRecDepth 100000
namespace Go.Proofs.Ytbiodlomlendkaa.Sx
open Go
def treePwWhere : M (V × St) :=
(.split (.c2 .lt (.var 1) (.num 1))
 (.ret (.t [.g [.i .i64 (.num 0), .i .i64 (.num 0)], .c (.b (.bol false)), .c (.i .i64 (.num 120))], ⟨[], [], 2, 2, []⟩))
 (.split (.c2 .lt (.num 6) (.var 1))
  (.ret (.t [.g [.i .i64 (.num 0), .i .i64 (.num 0)], .c (.b (.bol false)), .c (.i .i64 (.num 120))], ⟨[], [], 2, 2, []⟩))
  (.split (.c2 .eq (.fn 51 (.var 0) .nil .nil) (.num 0))
   (.chk (.c2 .le (.num 1) (.fn 52 (.var 0) .nil .nil))
   (.chk (.c2 .le (.fn 52 (.var 0) .nil .nil) (.num 8))
   (.chk (.c2 .eq (.c1 .len (.fn 50 (.var 0) .nil .nil)) (.c2 .mul (.fn 52 (.var 0) .nil .nil) (.num 73)))
   (.chk (.c1 (.kin [.u8, .u8, .u8, .u8, .u8, .u8, .u8, .u8, .u8, .u8, .u8, .u8, .u8, .u16, .u8, .u16, .u16, .u8, .u8, .u8, .u16, .u8, .u8, .u8, .u8, .u8, .u8, .u8, .u8, .u8, .u32, .u8, .u8, .u8, .u8, .u8, .u8, .u8, .u8, .u8, .u8, .u8, .u8, .u8, .u8, .u8, .u8, .u8, .u8, .u8, .u8, .u8, .u8, .u8, .u8, .u8, .u8, .u8, .u8, .u8, .u8, .u8, .u8, .u8, .u8, .u16, .u16, .u32, .u32, .u8, .u16, .u16, .u16]) (.fn 50 (.var 0) .nil .nil))
   (.chk (.c1 (.kin [.u8]) (.fn 53 (.var 0) .nil .nil))
   (.chk (.c2 .le (.c1 .len (.fn 53 (.var 0) .nil .nil)) (.c1 .len (.var 0)))
   (.loop 0 2 2 [(.num 0), (.num 0)] [((.c2 .le (.num 0) (.var 2)), true), ((.c2 .le (.var 2) (.num 320)), true), ((.c2 .le (.num 0) (.var 3)), true)]
    (.split (.c2 .lt (.var 3) (.fn 52 (.var 0) .nil .nil))
     (.chk (.c2 .le (.c2 .add (.c2 .mul (.var 3) (.num 73)) (.num 73)) (.c1 .len (.fn 50 (.var 0) .nil .nil)))
     (.split (.c2 .eq (.c2 .rd (.fn 50 (.var 0) .nil .nil) (.c2 .mul (.var 3) (.num 73))) (.var 1))
      (.split (.c2 .eq (.var 1) (.num 1))
       (.ret (.t [.g [.i .i64 (.var 2), .i .i64 (.num 14)], .c (.b (.bol true)), .c (.i .i64 (.num 0))], ⟨[], [], 205, 4, []⟩))
       (.split (.c2 .eq (.var 1) (.num 2))
        (.ret (.t [.g [.i .i64 (.var 2), .i .i64 (.num 4)], .c (.b (.bol true)), .c (.i .i64 (.num 0))], ⟨[], [], 205, 4, []⟩))
        (.split (.c2 .eq (.var 1) (.num 3))
         (.ret (.t [.g [.i .i64 (.var 2), .i .i64 (.num 20)], .c (.b (.bol true)), .c (.i .i64 (.num 0))], ⟨[], [], 205, 4, []⟩))
         (.split (.c2 .eq (.var 1) (.num 4))
          (.ret (.t [.g [.i .i64 (.var 2), .i .i64 (.num 40)], .c (.b (.bol true)), .c (.i .i64 (.num 0))], ⟨[], [], 205, 4, []⟩))
          (.split (.c2 .eq (.var 1) (.num 5))
           (.ret (.t [.g [.i .i64 (.var 2), .i .i64 (.num 20)], .c (.b (.bol true)), .c (.i .i64 (.num 0))], ⟨[], [], 205, 4, []⟩))
           (.split (.c2 .eq (.var 1) (.num 6))
            (.ret (.t [.g [.i .i64 (.var 2), .i .i64 (.num 8)], .c (.b (.bol true)), .c (.i .i64 (.num 0))], ⟨[], [], 205, 4, []⟩))
            (.fail 11)))))))
      (.chk (.c2 .lt (.c2 .rd (.fn 50 (.var 0) .nil .nil) (.c2 .mul (.var 3) (.num 73))) (.num 7))
      (.split (.c2 .eq (.c2 .rd (.fn 50 (.var 0) .nil .nil) (.c2 .mul (.var 3) (.num 73))) (.num 0))
       (.back 0 2 [(.var 2), (.wr .i64 (.c2 .add (.var 3) (.num 1)))])
       (.split (.c2 .eq (.c2 .rd (.fn 50 (.var 0) .nil .nil) (.c2 .mul (.var 3) (.num 73))) (.num 1))
        (.back 0 2 [(.c2 .add (.var 2) (.num 14)), (.wr .i64 (.c2 .add (.var 3) (.num 1)))])
        (.split (.c2 .eq (.c2 .rd (.fn 50 (.var 0) .nil .nil) (.c2 .mul (.var 3) (.num 73))) (.num 2))
         (.back 0 2 [(.c2 .add (.var 2) (.num 4)), (.wr .i64 (.c2 .add (.var 3) (.num 1)))])
         (.split (.c2 .eq (.c2 .rd (.fn 50 (.var 0) .nil .nil) (.c2 .mul (.var 3) (.num 73))) (.num 3))
          (.back 0 2 [(.c2 .add (.var 2) (.num 20)), (.wr .i64 (.c2 .add (.var 3) (.num 1)))])
          (.split (.c2 .eq (.c2 .rd (.fn 50 (.var 0) .nil .nil) (.c2 .mul (.var 3) (.num 73))) (.num 4))
           (.back 0 2 [(.c2 .add (.var 2) (.num 40)), (.wr .i64 (.c2 .add (.var 3) (.num 1)))])
           (.split (.c2 .eq (.c2 .rd (.fn 50 (.var 0) .nil .nil) (.c2 .mul (.var 3) (.num 73))) (.num 5))
            (.back 0 2 [(.c2 .add (.var 2) (.num 20)), (.wr .i64 (.c2 .add (.var 3) (.num 1)))])
            (.split (.c2 .eq (.c2 .rd (.fn 50 (.var 0) .nil .nil) (.c2 .mul (.var 3) (.num 73))) (.num 6))
             (.back 0 2 [(.c2 .add (.var 2) (.num 8)), (.wr .i64 (.c2 .add (.var 3) (.num 1)))])
             (.fail 11)))))))))))
     (.ret (.t [.g [.i .i64 (.num 0), .i .i64 (.num 0)], .c (.b (.bol false)), .c (.i .i64 (.num 0))], ⟨[], [], 204, 4, []⟩))))))))))
   (.ret (.t [.g [.i .i64 (.num 0), .i .i64 (.num 0)], .c (.b (.bol false)), .c (.i .i64 (.fn 51 (.var 0) .nil .nil))], ⟨[], [], 202, 2, []⟩)))))
theorem treePwWhere_is : funTree (ctxN Go.Proofs.Try.prog annsWh consPl0 8) annsWh 16 tWhere.vs tWhere.bs tWhere.n (preF tWhere.res) = treePwWhere := by kernel_rfl
end Go.Proofs.Ytbiodlomlendkaa.Sx
/- Sx: what Go function 17 does, as a tree of conditions (printed by a tool of this claim, proved by the kernel). Conditions: none. -/
set_option maxRecDepth 100000
namespace Go.Proofs.Ytbiodlomlendkaa.Sx
open Go
def treePwWhereR : M (V × St) :=
(.split (.c2 .lt (.num 6) (.var 1))
 (.ret (.t [.g [.i .i64 (.num 0), .i .i64 (.num 0)], .c (.b (.bol false)), .c (.i .i64 (.num 120))], ⟨[], [], 3, 2, []⟩))
 (.split (.c2 .eq (.c2 .rd (.cons (.num 0) (.cons (.num 14) (.cons (.num 4) (.cons (.num 20) (.cons (.num 40) (.cons (.num 20) (.cons (.num 8) .nil))))))) (.var 1)) (.num 0))
  (.ret (.t [.g [.i .i64 (.num 0), .i .i64 (.num 0)], .c (.b (.bol false)), .c (.i .i64 (.num 120))], ⟨[], [], 3, 2, []⟩))
  (.split (.c2 .eq (.fn 51 (.var 0) .nil .nil) (.num 0))
   (.chk (.c2 .le (.num 1) (.fn 52 (.var 0) .nil .nil))
   (.chk (.c2 .le (.fn 52 (.var 0) .nil .nil) (.num 8))
   (.chk (.c2 .eq (.c1 .len (.fn 50 (.var 0) .nil .nil)) (.c2 .mul (.fn 52 (.var 0) .nil .nil) (.num 73)))
   (.chk (.c1 (.kin [.u8, .u8, .u8, .u8, .u8, .u8, .u8, .u8, .u8, .u8, .u8, .u8, .u8, .u16, .u8, .u16, .u16, .u8, .u8, .u8, .u16, .u8, .u8, .u8, .u8, .u8, .u8, .u8, .u8, .u8, .u32, .u8, .u8, .u8, .u8, .u8, .u8, .u8, .u8, .u8, .u8, .u8, .u8, .u8, .u8, .u8, .u8, .u8, .u8, .u8, .u8, .u8, .u8, .u8, .u8, .u8, .u8, .u8, .u8, .u8, .u8, .u8, .u8, .u8, .u8, .u16, .u16, .u32, .u32, .u8, .u16, .u16, .u16]) (.fn 50 (.var 0) .nil .nil))
   (.chk (.c1 (.kin [.u8]) (.fn 53 (.var 0) .nil .nil))
   (.chk (.c2 .le (.c1 .len (.fn 53 (.var 0) .nil .nil)) (.c1 .len (.var 0)))
   (.loop 0 2 2 [(.num 0), (.num 0)] [((.c2 .le (.num 0) (.var 2)), true), ((.c2 .le (.var 2) (.num 320)), true), ((.c2 .le (.num 0) (.var 3)), true)]
    (.split (.c2 .lt (.var 3) (.fn 52 (.var 0) .nil .nil))
     (.chk (.c2 .le (.c2 .add (.c2 .mul (.var 3) (.num 73)) (.num 1)) (.c1 .len (.fn 50 (.var 0) .nil .nil)))
     (.split (.c2 .eq (.c2 .rd (.fn 50 (.var 0) .nil .nil) (.c2 .mul (.var 3) (.num 73))) (.var 1))
      (.ret (.t [.g [.i .i64 (.var 2), .i .i64 (.c2 .rd (.cons (.num 0) (.cons (.num 14) (.cons (.num 4) (.cons (.num 20) (.cons (.num 40) (.cons (.num 20) (.cons (.num 8) .nil))))))) (.var 1))], .c (.b (.bol true)), .c (.i .i64 (.num 0))], ⟨[], [], 204, 4, []⟩))
      (.split (.c2 .lt (.num 6) (.c2 .rd (.fn 50 (.var 0) .nil .nil) (.c2 .mul (.var 3) (.num 73))))
       (.back 0 2 [(.var 2), (.wr .i64 (.c2 .add (.var 3) (.num 1)))])
       (.back 0 2 [(.c2 .add (.var 2) (.c2 .rd (.cons (.num 0) (.cons (.num 14) (.cons (.num 4) (.cons (.num 20) (.cons (.num 40) (.cons (.num 20) (.cons (.num 8) .nil))))))) (.c2 .rd (.fn 50 (.var 0) .nil .nil) (.c2 .mul (.var 3) (.num 73))))), (.wr .i64 (.c2 .add (.var 3) (.num 1)))]))))
     (.ret (.t [.g [.i .i64 (.num 0), .i .i64 (.num 0)], .c (.b (.bol false)), .c (.i .i64 (.num 0))], ⟨[], [], 203, 4, []⟩))))))))))
   (.ret (.t [.g [.i .i64 (.num 0), .i .i64 (.num 0)], .c (.b (.bol false)), .c (.i .i64 (.fn 51 (.var 0) .nil .nil))], ⟨[], [], 203, 2, []⟩)))))
theorem treePwWhereR_is : funTree (ctxN Go.Proofs.Try.prog annsWh consPl0 8) annsWh 17 tWhere.vs tWhere.bs tWhere.n (preF tWhere.res) = treePwWhereR := by kernel_rfl
end Go.Proofs.Ytbiodlomlendkaa.Sx
