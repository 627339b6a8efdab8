/- Sx: texts of this claim put together: HdT, HdU, HdX, PlA, PwA, PbA, PbM, Cl, TRdLink, TRrLink, HdRLink, TRdTag, TRrTag, HdRTag, TRdNet4, TRrNet4, HdRNet4, TRdNet6, TRrNet6, HdRNet6, TRdSeg, TRrSeg, HdRSeg, TRdDgram, TRrDgram, HdRDgram, PeL, WrA, SxZ, WrM, WmM, PcM, PlM, SxH. Conditions: none. -/
import Derived.Test.YtfhjlimdakphcaaGreatQ3
import Derived.Test.YtfhjlimdakphcaaGreatProg
import Derived.Shelf.RegionOpenPlain
import Derived.Lib.Walk
import Derived.Lib.SliceRun
import Derived.Deep.LoopGhost
import Derived.KernelRfl
import Derived.RangeFuncNested
import Derived.RangeFuncLeaves
import Derived.OrdersIn
set_option linter.unusedVariables false
set_option linter.unusedSimpArgs false
namespace Go.Proofs.YtfhjlimdakphcaaGreat.Sx
open Go
theorem wr_len {k : Nat} (hk : 1 ≤ k ∧ k ≤ 6) (h p : List Int) : (wrGood k h p).length = hdSize k := by
 have : k = 1 ∨ k = 2 ∨ k = 3 ∨ k = 4 ∨ k = 5 ∨ k = 6 := by omega
 rcases this with rfl | rfl | rfl | rfl | rfl | rfl <;> simp [wrGood, wrBase, putF, hdSize]
set_option maxRecDepth 100000 in
theorem backLink {h p : List Int} (hh : GoodInts kLink h) (hf : wrFail 1 h p = 0) : rdErr 1 (wrGood 1 h p ++ p) = 0 ∧ rdRow 1 (wrGood 1 h p ++ p) = h := by
 match h, hh with
 | [a0, a1, a2, a3, a4, a5, a6, a7, a8, a9, a10, a11, a12], hh =>
   have b0 := hh.2 0 _ a0 rfl rfl
   have b1 := hh.2 1 _ a1 rfl rfl
   have b2 := hh.2 2 _ a2 rfl rfl
   have b3 := hh.2 3 _ a3 rfl rfl
   have b4 := hh.2 4 _ a4 rfl rfl
   have b5 := hh.2 5 _ a5 rfl rfl
   have b6 := hh.2 6 _ a6 rfl rfl
   have b7 := hh.2 7 _ a7 rfl rfl
   have b8 := hh.2 8 _ a8 rfl rfl
   have b9 := hh.2 9 _ a9 rfl rfl
   have b10 := hh.2 10 _ a10 rfl rfl
   have b11 := hh.2 11 _ a11 rfl rfl
   have b12 := hh.2 12 _ a12 rfl rfl
   simp only [kmin, kmax] at b0 b1 b2 b3 b4 b5 b6 b7 b8 b9 b10 b11 b12
   have hz : rdErr 1 (wrGood 1 [a0, a1, a2, a3, a4, a5, a6, a7, a8, a9, a10, a11, a12] p ++ p) = 0 := by
     simp [wrFail, g] at hf
     simp [rdErr, wrGood, g, word]
     try omega
   refine ⟨hz, ?_⟩
   simp [wrFail, g] at hf
   rw [rdRow, if_pos hz]
   simp only [rdGood, wrGood, g, word]
   simp
   try omega
set_option maxRecDepth 100000 in
theorem backTag {h p : List Int} (hh : GoodInts kTag h) (hf : wrFail 2 h p = 0) : rdErr 2 (wrGood 2 h p ++ p) = 0 ∧ rdRow 2 (wrGood 2 h p ++ p) = h := by
 match h, hh with
 | [a0, a1, a2], hh =>
   have b0 := hh.2 0 _ a0 rfl rfl
   have b1 := hh.2 1 _ a1 rfl rfl
   have b2 := hh.2 2 _ a2 rfl rfl
   simp only [kmin, kmax] at b0 b1 b2
   have hz : rdErr 2 (wrGood 2 [a0, a1, a2] p ++ p) = 0 := by
     simp [wrFail, g] at hf
     simp [rdErr, wrGood, g, word]
     try omega
   refine ⟨hz, ?_⟩
   simp [wrFail, g] at hf
   rw [rdRow, if_pos hz]
   simp only [rdGood, wrGood, g, word]
   simp
   try omega
set_option maxRecDepth 100000 in
theorem backNet6 {h p : List Int} (hh : GoodInts kNet6 h) (hf : wrFail 4 h p = 0) : rdErr 4 (wrGood 4 h p ++ p) = 0 ∧ rdRow 4 (wrGood 4 h p ++ p) = h := by
 match h, hh with
 | (a0 :: a1 :: a2 :: a3 :: a4 :: a5 :: a6 :: a7 :: a8 :: a9 :: a10 :: a11 :: a12 :: a13 :: a14 :: a15 :: a16 :: a17 :: a18 :: a19 :: a20 :: a21 :: a22 :: a23 :: a24 :: a25 :: a26 :: a27 :: a28 :: a29 :: a30 :: a31 :: a32 :: a33 :: a34 :: a35 :: []), hh =>
   have b0 := hh.2 0 _ a0 rfl rfl
   have b1 := hh.2 1 _ a1 rfl rfl
   simp only [kmin, kmax] at b0 b1
   have hz : rdErr 4 (wrGood 4 (a0 :: a1 :: a2 :: a3 :: a4 :: a5 :: a6 :: a7 :: a8 :: a9 :: a10 :: a11 :: a12 :: a13 :: a14 :: a15 :: a16 :: a17 :: a18 :: a19 :: a20 :: a21 :: a22 :: a23 :: a24 :: a25 :: a26 :: a27 :: a28 :: a29 :: a30 :: a31 :: a32 :: a33 :: a34 :: a35 :: []) p ++ p) = 0 := by
     simp [wrFail, g] at hf
     simp [rdErr, wrGood, g, word]
     try omega
   refine ⟨hz, ?_⟩
   simp [wrFail, g] at hf
   rw [rdRow, if_pos hz]
   simp only [rdGood, wrGood, g, word]
   simp
   try omega
set_option maxRecDepth 100000 in
theorem backNet4 {h p : List Int} (hh : GoodInts kNet4 h) (hf : wrFail 3 h p = 0) : rdErr 3 (wrGood 3 h p ++ p) = 0 ∧ rdRow 3 (wrGood 3 h p ++ p) = h := by
 match h, hh with
 | (a0 :: a1 :: a2 :: a3 :: a4 :: a5 :: a6 :: a7 :: a8 :: a9 :: a10 :: a11 :: []), hh =>
   have b0 := hh.2 0 _ a0 rfl rfl
   have b1 := hh.2 1 _ a1 rfl rfl
   have b2 := hh.2 2 _ a2 rfl rfl
   have b3 := hh.2 3 _ a3 rfl rfl
   have b4 := hh.2 4 _ a4 rfl rfl
   have b5 := hh.2 5 _ a5 rfl rfl
   have b6 := hh.2 6 _ a6 rfl rfl
   have b7 := hh.2 7 _ a7 rfl rfl
   have b8 := hh.2 8 _ a8 rfl rfl
   have b9 := hh.2 9 _ a9 rfl rfl
   have b10 := hh.2 10 _ a10 rfl rfl
   have b11 := hh.2 11 _ a11 rfl rfl
   simp only [kmin, kmax] at b0 b1 b2 b3 b4 b5 b6 b7 b8 b9 b10 b11
   have hR := ocs_range (wsum (wrBase 3 (a0 :: a1 :: a2 :: a3 :: a4 :: a5 :: a6 :: a7 :: a8 :: a9 :: a10 :: a11 :: []) p))
   have hz : rdErr 3 (wrGood 3 (a0 :: a1 :: a2 :: a3 :: a4 :: a5 :: a6 :: a7 :: a8 :: a9 :: a10 :: a11 :: []) p ++ p) = 0 := by
     simp [wrFail, g] at hf
     simp only [wrBase, g, List.set_cons_succ, List.set_cons_zero, List.cons_append, List.nil_append, List.take_succ_cons, List.take_zero, List.length_cons, List.length_nil, List.getElem?_cons_succ, List.getElem?_cons_zero, Option.getD_some] at hR
     simp only [rdErr, wrGood, wrBase, putF, z2, fld1, fld, g, word, Nat.reduceAdd, List.set_cons_succ, List.set_cons_zero, List.cons_append, List.nil_append, List.take_succ_cons, List.take_zero, List.length_cons, List.length_nil, List.getElem?_cons_succ, List.getElem?_cons_zero, Option.getD_some]
     repeat' split
     all_goals first | rfl | omega
   refine ⟨hz, ?_⟩
   simp [wrFail, g] at hf
   rw [rdRow, if_pos hz]
   simp only [rdGood, wrGood, wrBase, putF, g, word, Nat.reduceAdd, List.set_cons_succ, List.set_cons_zero, List.cons_append, List.nil_append, List.take_succ_cons, List.take_zero, List.length_cons, List.length_nil, List.getElem?_cons_succ, List.getElem?_cons_zero, Option.getD_some]
   simp
   try omega
set_option maxRecDepth 100000 in
theorem backSeg {h p : List Int} (hh : GoodInts kSeg h) (hf : wrFail 5 h p = 0) : rdErr 5 (wrGood 5 h p ++ p) = 0 ∧ rdRow 5 (wrGood 5 h p ++ p) = h := by
 match h, hh with
 | (a0 :: a1 :: a2 :: a3 :: a4 :: a5 :: []), hh =>
   have b0 := hh.2 0 _ a0 rfl rfl
   have b1 := hh.2 1 _ a1 rfl rfl
   have b2 := hh.2 2 _ a2 rfl rfl
   have b3 := hh.2 3 _ a3 rfl rfl
   have b4 := hh.2 4 _ a4 rfl rfl
   have b5 := hh.2 5 _ a5 rfl rfl
   simp only [kmin, kmax] at b0 b1 b2 b3 b4 b5
   have hR := ocs_range (wsum (wrBase 5 (a0 :: a1 :: a2 :: a3 :: a4 :: a5 :: []) p ++ p))
   have hz : rdErr 5 (wrGood 5 (a0 :: a1 :: a2 :: a3 :: a4 :: a5 :: []) p ++ p) = 0 := by
     simp [wrFail, g] at hf
     simp only [wrBase, g, List.set_cons_succ, List.set_cons_zero, List.cons_append, List.nil_append, List.take_succ_cons, List.take_zero, List.length_cons, List.length_nil, List.getElem?_cons_succ, List.getElem?_cons_zero, Option.getD_some] at hR
     simp only [rdErr, wrGood, wrBase, putF, z2, fld1, fld, g, word, Nat.reduceAdd, List.set_cons_succ, List.set_cons_zero, List.cons_append, List.nil_append, List.take_succ_cons, List.take_zero, List.length_cons, List.length_nil, List.getElem?_cons_succ, List.getElem?_cons_zero, Option.getD_some]
     repeat' split
     all_goals first | rfl | omega
   refine ⟨hz, ?_⟩
   simp [wrFail, g] at hf
   rw [rdRow, if_pos hz]
   simp only [rdGood, wrGood, wrBase, putF, g, word, Nat.reduceAdd, List.set_cons_succ, List.set_cons_zero, List.cons_append, List.nil_append, List.take_succ_cons, List.take_zero, List.length_cons, List.length_nil, List.getElem?_cons_succ, List.getElem?_cons_zero, Option.getD_some]
   simp
   try omega
set_option maxRecDepth 100000 in
theorem backDgram {h p : List Int} (hh : GoodInts kDgram h) (hf : wrFail 6 h p = 0) : rdErr 6 (wrGood 6 h p ++ p) = 0 ∧ rdRow 6 (wrGood 6 h p ++ p) = h := by
 match h, hh with
 | (a0 :: a1 :: []), hh =>
   have b0 := hh.2 0 _ a0 rfl rfl
   have b1 := hh.2 1 _ a1 rfl rfl
   simp only [kmin, kmax] at b0 b1
   have hR := ocs_range (wsum (wrBase 6 (a0 :: a1 :: []) p ++ p))
   have hz : rdErr 6 (wrGood 6 (a0 :: a1 :: []) p ++ p) = 0 := by
     simp [wrFail, g] at hf
     simp only [wrBase, g, List.set_cons_succ, List.set_cons_zero, List.cons_append, List.nil_append, List.take_succ_cons, List.take_zero, List.length_cons, List.length_nil, List.getElem?_cons_succ, List.getElem?_cons_zero, Option.getD_some] at hR
     simp only [rdErr, wrGood, wrBase, putF, z2, fld1, fld, g, word, Nat.reduceAdd, List.set_cons_succ, List.set_cons_zero, List.cons_append, List.nil_append, List.take_succ_cons, List.take_zero, List.length_cons, List.length_nil, List.getElem?_cons_succ, List.getElem?_cons_zero, Option.getD_some]
     repeat' split
     all_goals first | rfl | omega
   refine ⟨hz, ?_⟩
   simp [wrFail, g] at hf
   rw [rdRow, if_pos hz]
   simp only [rdGood, wrGood, wrBase, putF, g, word, Nat.reduceAdd, List.set_cons_succ, List.set_cons_zero, List.cons_append, List.nil_append, List.take_succ_cons, List.take_zero, List.length_cons, List.length_nil, List.getElem?_cons_succ, List.getElem?_cons_zero, Option.getD_some]
   simp
   try omega
end Go.Proofs.YtfhjlimdakphcaaGreat.Sx
set_option linter.unusedVariables false
set_option linter.unusedSimpArgs false
namespace Go.Proofs.YtfhjlimdakphcaaGreat.Sx
open Go
set_option maxRecDepth 100000 in
theorem againLink {p : List Int} (hb : Bytes p) (hl : p.length ≤ 2048) (hz : rdErr 1 p = 0) : wrFail 1 (rdRow 1 p) (p.drop 14) = 0 ∧ wrGood 1 (rdRow 1 p) (p.drop 14) = p.take 14 := by
 have hs : 14 ≤ p.length := by
   simp only [rdErr] at hz
   split at hz <;> first | (cases hz; done) | omega
 rw [rdRow, if_pos hz]
 obtain ⟨l, r, rfl, hlen⟩ : ∃ l r : List Int, p = l ++ r ∧ l.length = 14 := ⟨p.take 14, p.drop 14, by simp, by simp; omega⟩
 match l, hlen with
 | (a0 :: a1 :: a2 :: a3 :: a4 :: a5 :: a6 :: a7 :: a8 :: a9 :: a10 :: a11 :: a12 :: a13 :: []), _ =>
   have b0 := hb a0 (by simp)
   have b1 := hb a1 (by simp)
   have b2 := hb a2 (by simp)
   have b3 := hb a3 (by simp)
   have b4 := hb a4 (by simp)
   have b5 := hb a5 (by simp)
   have b6 := hb a6 (by simp)
   have b7 := hb a7 (by simp)
   have b8 := hb a8 (by simp)
   have b9 := hb a9 (by simp)
   have b10 := hb a10 (by simp)
   have b11 := hb a11 (by simp)
   have b12 := hb a12 (by simp)
   have b13 := hb a13 (by simp)
   simp only [List.length_append, List.set_cons_succ, List.set_cons_zero, List.cons_append, List.nil_append, List.take_succ_cons, List.take_zero, List.drop_succ_cons, List.drop_zero, List.length_cons, List.length_nil, List.getElem?_cons_succ, List.getElem?_cons_zero, Option.getD_some] at hl
   simp only [rdErr, g, word, Nat.reduceAdd, List.length_append, List.set_cons_succ, List.set_cons_zero, List.cons_append, List.nil_append, List.take_succ_cons, List.take_zero, List.drop_succ_cons, List.drop_zero, List.length_cons, List.length_nil, List.getElem?_cons_succ, List.getElem?_cons_zero, Option.getD_some] at hz
   have hz' : wrFail 1 (rdGood 1 ((a0 :: a1 :: a2 :: a3 :: a4 :: a5 :: a6 :: a7 :: a8 :: a9 :: a10 :: a11 :: a12 :: a13 :: []) ++ r)) (((a0 :: a1 :: a2 :: a3 :: a4 :: a5 :: a6 :: a7 :: a8 :: a9 :: a10 :: a11 :: a12 :: a13 :: []) ++ r).drop 14) = 0 := by
     simp only [wrFail, rdGood, g, word, Nat.reduceAdd, List.length_append, List.set_cons_succ, List.set_cons_zero, List.cons_append, List.nil_append, List.take_succ_cons, List.take_zero, List.drop_succ_cons, List.drop_zero, List.length_cons, List.length_nil, List.getElem?_cons_succ, List.getElem?_cons_zero, Option.getD_some]
     repeat' split at hz
     all_goals first | (cases hz; done) | skip
     all_goals repeat' split
     all_goals first | rfl | omega
   refine ⟨hz', ?_⟩
   simp only [wrGood, rdGood, g, word, Nat.reduceAdd, List.length_append, List.set_cons_succ, List.set_cons_zero, List.cons_append, List.nil_append, List.take_succ_cons, List.take_zero, List.drop_succ_cons, List.drop_zero, List.length_cons, List.length_nil, List.getElem?_cons_succ, List.getElem?_cons_zero, Option.getD_some, List.cons.injEq, and_true, true_and]
   repeat' split at hz
   all_goals first | (cases hz; done) | skip
   all_goals repeat' apply And.intro
   all_goals first | rfl | omega
set_option maxRecDepth 100000 in
theorem againTag {p : List Int} (hb : Bytes p) (hl : p.length ≤ 2048) (hz : rdErr 2 p = 0) : wrFail 2 (rdRow 2 p) (p.drop 4) = 0 ∧ wrGood 2 (rdRow 2 p) (p.drop 4) = p.take 4 := by
 have hs : 4 ≤ p.length := by
   simp only [rdErr] at hz
   split at hz <;> first | (cases hz; done) | omega
 rw [rdRow, if_pos hz]
 obtain ⟨l, r, rfl, hlen⟩ : ∃ l r : List Int, p = l ++ r ∧ l.length = 4 := ⟨p.take 4, p.drop 4, by simp, by simp; omega⟩
 match l, hlen with
 | (a0 :: a1 :: a2 :: a3 :: []), _ =>
   have b0 := hb a0 (by simp)
   have b1 := hb a1 (by simp)
   have b2 := hb a2 (by simp)
   have b3 := hb a3 (by simp)
   simp only [List.length_append, List.set_cons_succ, List.set_cons_zero, List.cons_append, List.nil_append, List.take_succ_cons, List.take_zero, List.drop_succ_cons, List.drop_zero, List.length_cons, List.length_nil, List.getElem?_cons_succ, List.getElem?_cons_zero, Option.getD_some] at hl
   simp only [rdErr, g, word, Nat.reduceAdd, List.length_append, List.set_cons_succ, List.set_cons_zero, List.cons_append, List.nil_append, List.take_succ_cons, List.take_zero, List.drop_succ_cons, List.drop_zero, List.length_cons, List.length_nil, List.getElem?_cons_succ, List.getElem?_cons_zero, Option.getD_some] at hz
   have hz' : wrFail 2 (rdGood 2 ((a0 :: a1 :: a2 :: a3 :: []) ++ r)) (((a0 :: a1 :: a2 :: a3 :: []) ++ r).drop 4) = 0 := by
     simp only [wrFail, rdGood, g, word, Nat.reduceAdd, List.length_append, List.set_cons_succ, List.set_cons_zero, List.cons_append, List.nil_append, List.take_succ_cons, List.take_zero, List.drop_succ_cons, List.drop_zero, List.length_cons, List.length_nil, List.getElem?_cons_succ, List.getElem?_cons_zero, Option.getD_some]
     repeat' split at hz
     all_goals first | (cases hz; done) | skip
     all_goals repeat' split
     all_goals first | rfl | omega
   refine ⟨hz', ?_⟩
   simp only [wrGood, rdGood, g, word, Nat.reduceAdd, List.length_append, List.set_cons_succ, List.set_cons_zero, List.cons_append, List.nil_append, List.take_succ_cons, List.take_zero, List.drop_succ_cons, List.drop_zero, List.length_cons, List.length_nil, List.getElem?_cons_succ, List.getElem?_cons_zero, Option.getD_some, List.cons.injEq, and_true, true_and]
   repeat' split at hz
   all_goals first | (cases hz; done) | skip
   all_goals repeat' apply And.intro
   all_goals first | rfl | omega
set_option maxRecDepth 100000 in
theorem againNet6 {p : List Int} (hb : Bytes p) (hl : p.length ≤ 2048) (hz : rdErr 4 p = 0) : wrFail 4 (rdRow 4 p) (p.drop 40) = 0 ∧ wrGood 4 (rdRow 4 p) (p.drop 40) = p.take 40 := by
 have hs : 40 ≤ p.length := by
   simp only [rdErr] at hz
   split at hz <;> first | (cases hz; done) | omega
 rw [rdRow, if_pos hz]
 obtain ⟨l, r, rfl, hlen⟩ : ∃ l r : List Int, p = l ++ r ∧ l.length = 40 := ⟨p.take 40, p.drop 40, by simp, by simp; omega⟩
 match l, hlen with
 | (a0 :: a1 :: a2 :: a3 :: a4 :: a5 :: a6 :: a7 :: a8 :: a9 :: a10 :: a11 :: a12 :: a13 :: a14 :: a15 :: a16 :: a17 :: a18 :: a19 :: a20 :: a21 :: a22 :: a23 :: a24 :: a25 :: a26 :: a27 :: a28 :: a29 :: a30 :: a31 :: a32 :: a33 :: a34 :: a35 :: a36 :: a37 :: a38 :: a39 :: []), _ =>
   have b0 := hb a0 (by simp)
   have b1 := hb a1 (by simp)
   have b2 := hb a2 (by simp)
   have b3 := hb a3 (by simp)
   have b4 := hb a4 (by simp)
   have b5 := hb a5 (by simp)
   simp only [List.length_append, List.set_cons_succ, List.set_cons_zero, List.cons_append, List.nil_append, List.take_succ_cons, List.take_zero, List.drop_succ_cons, List.drop_zero, List.length_cons, List.length_nil, List.getElem?_cons_succ, List.getElem?_cons_zero, Option.getD_some] at hl
   simp only [rdErr, g, word, Nat.reduceAdd, List.length_append, List.set_cons_succ, List.set_cons_zero, List.cons_append, List.nil_append, List.take_succ_cons, List.take_zero, List.drop_succ_cons, List.drop_zero, List.length_cons, List.length_nil, List.getElem?_cons_succ, List.getElem?_cons_zero, Option.getD_some] at hz
   have hz' : wrFail 4 (rdGood 4 ((a0 :: a1 :: a2 :: a3 :: a4 :: a5 :: a6 :: a7 :: a8 :: a9 :: a10 :: a11 :: a12 :: a13 :: a14 :: a15 :: a16 :: a17 :: a18 :: a19 :: a20 :: a21 :: a22 :: a23 :: a24 :: a25 :: a26 :: a27 :: a28 :: a29 :: a30 :: a31 :: a32 :: a33 :: a34 :: a35 :: a36 :: a37 :: a38 :: a39 :: []) ++ r)) (((a0 :: a1 :: a2 :: a3 :: a4 :: a5 :: a6 :: a7 :: a8 :: a9 :: a10 :: a11 :: a12 :: a13 :: a14 :: a15 :: a16 :: a17 :: a18 :: a19 :: a20 :: a21 :: a22 :: a23 :: a24 :: a25 :: a26 :: a27 :: a28 :: a29 :: a30 :: a31 :: a32 :: a33 :: a34 :: a35 :: a36 :: a37 :: a38 :: a39 :: []) ++ r).drop 40) = 0 := by
     simp only [wrFail, rdGood, g, word, Nat.reduceAdd, List.length_append, List.set_cons_succ, List.set_cons_zero, List.cons_append, List.nil_append, List.take_succ_cons, List.take_zero, List.drop_succ_cons, List.drop_zero, List.length_cons, List.length_nil, List.getElem?_cons_succ, List.getElem?_cons_zero, Option.getD_some]
     repeat' split at hz
     all_goals first | (cases hz; done) | skip
     all_goals repeat' split
     all_goals first | rfl | omega
   refine ⟨hz', ?_⟩
   simp only [wrGood, rdGood, g, word, Nat.reduceAdd, List.length_append, List.set_cons_succ, List.set_cons_zero, List.cons_append, List.nil_append, List.take_succ_cons, List.take_zero, List.drop_succ_cons, List.drop_zero, List.length_cons, List.length_nil, List.getElem?_cons_succ, List.getElem?_cons_zero, Option.getD_some, List.cons.injEq, and_true, true_and]
   repeat' split at hz
   all_goals first | (cases hz; done) | skip
   all_goals repeat' apply And.intro
   all_goals first | rfl | omega
set_option maxRecDepth 100000 in
theorem againNet4 {p : List Int} (hb : Bytes p) (hl : p.length ≤ 2048) (hz : rdErr 3 p = 0) : wrFail 3 (rdRow 3 p) (p.drop 20) = 0 ∧ wrGood 3 (rdRow 3 p) (p.drop 20) = p.take 20 := by
 have hs : 20 ≤ p.length := by
   simp only [rdErr] at hz
   split at hz <;> first | (cases hz; done) | omega
 rw [rdRow, if_pos hz]
 obtain ⟨l, r, rfl, hlen⟩ : ∃ l r : List Int, p = l ++ r ∧ l.length = 20 := ⟨p.take 20, p.drop 20, by simp, by simp; omega⟩
 match l, hlen with
 | (a0 :: a1 :: a2 :: a3 :: a4 :: a5 :: a6 :: a7 :: a8 :: a9 :: a10 :: a11 :: a12 :: a13 :: a14 :: a15 :: a16 :: a17 :: a18 :: a19 :: []), _ =>
   have b0 := hb a0 (by simp)
   have b1 := hb a1 (by simp)
   have b2 := hb a2 (by simp)
   have b3 := hb a3 (by simp)
   have b4 := hb a4 (by simp)
   have b5 := hb a5 (by simp)
   have b6 := hb a6 (by simp)
   have b7 := hb a7 (by simp)
   have b8 := hb a8 (by simp)
   have b9 := hb a9 (by simp)
   have b10 := hb a10 (by simp)
   have b11 := hb a11 (by simp)
   have b12 := hb a12 (by simp)
   have b13 := hb a13 (by simp)
   have b14 := hb a14 (by simp)
   have b15 := hb a15 (by simp)
   have b16 := hb a16 (by simp)
   have b17 := hb a17 (by simp)
   have b18 := hb a18 (by simp)
   have b19 := hb a19 (by simp)
   simp only [List.length_append, List.set_cons_succ, List.set_cons_zero, List.cons_append, List.nil_append, List.take_succ_cons, List.take_zero, List.drop_succ_cons, List.drop_zero, List.length_cons, List.length_nil, List.getElem?_cons_succ, List.getElem?_cons_zero, Option.getD_some] at hl
   simp only [rdErr, z2, g, word, Nat.reduceAdd, List.length_append, List.set_cons_succ, List.set_cons_zero, List.cons_append, List.nil_append, List.take_succ_cons, List.take_zero, List.drop_succ_cons, List.drop_zero, List.length_cons, List.length_nil, List.getElem?_cons_succ, List.getElem?_cons_zero, Option.getD_some] at hz
   repeat' split at hz
   all_goals first | (cases hz; done) | skip
   all_goals
     have hz' : wrFail 3 (rdGood 3 ((a0 :: a1 :: a2 :: a3 :: a4 :: a5 :: a6 :: a7 :: a8 :: a9 :: a10 :: a11 :: a12 :: a13 :: a14 :: a15 :: a16 :: a17 :: a18 :: a19 :: []) ++ r)) (((a0 :: a1 :: a2 :: a3 :: a4 :: a5 :: a6 :: a7 :: a8 :: a9 :: a10 :: a11 :: a12 :: a13 :: a14 :: a15 :: a16 :: a17 :: a18 :: a19 :: []) ++ r).drop 20) = 0 := by
       simp only [wrFail, rdGood, g, word, Nat.reduceAdd, List.length_append, List.set_cons_succ, List.set_cons_zero, List.cons_append, List.nil_append, List.take_succ_cons, List.take_zero, List.drop_succ_cons, List.drop_zero, List.length_cons, List.length_nil, List.getElem?_cons_succ, List.getElem?_cons_zero, Option.getD_some]
       repeat' split
       all_goals first | rfl | omega
     refine ⟨hz', ?_⟩
     have hB : wrBase 3 (rdGood 3 ((a0 :: a1 :: a2 :: a3 :: a4 :: a5 :: a6 :: a7 :: a8 :: a9 :: a10 :: a11 :: a12 :: a13 :: a14 :: a15 :: a16 :: a17 :: a18 :: a19 :: []) ++ r)) (((a0 :: a1 :: a2 :: a3 :: a4 :: a5 :: a6 :: a7 :: a8 :: a9 :: a10 :: a11 :: a12 :: a13 :: a14 :: a15 :: a16 :: a17 :: a18 :: a19 :: []) ++ r).drop 20) = [a0, a1, a2, a3, a4, a5, a6, a7, a8, a9, 0, 0, a12, a13, a14, a15, a16, a17, a18, a19] := by
       simp only [wrBase, rdGood, g, word, Nat.reduceAdd, List.length_append, List.set_cons_succ, List.set_cons_zero, List.cons_append, List.nil_append, List.take_succ_cons, List.take_zero, List.drop_succ_cons, List.drop_zero, List.length_cons, List.length_nil, List.getElem?_cons_succ, List.getElem?_cons_zero, Option.getD_some, List.cons.injEq, and_true, true_and]
       repeat' apply And.intro
       all_goals first | rfl | omega
     rw [wrGood, hB]
     simp only [putF, Nat.reduceAdd, List.length_append, List.set_cons_succ, List.set_cons_zero, List.cons_append, List.nil_append, List.take_succ_cons, List.take_zero, List.drop_succ_cons, List.drop_zero, List.length_cons, List.length_nil, List.getElem?_cons_succ, List.getElem?_cons_zero, Option.getD_some, List.cons.injEq, and_true, true_and]
     repeat' apply And.intro
     all_goals first | rfl | omega
set_option maxRecDepth 100000 in
theorem againSeg {p : List Int} (hb : Bytes p) (hl : p.length ≤ 2048) (hz : rdErr 5 p = 0) : wrFail 5 (rdRow 5 p) (p.drop 20) = 0 ∧ wrGood 5 (rdRow 5 p) (p.drop 20) = p.take 20 := by
 have hs : 20 ≤ p.length := by
   simp only [rdErr] at hz
   split at hz <;> first | (cases hz; done) | omega
 rw [rdRow, if_pos hz]
 obtain ⟨l, r, rfl, hlen⟩ : ∃ l r : List Int, p = l ++ r ∧ l.length = 20 := ⟨p.take 20, p.drop 20, by simp, by simp; omega⟩
 match l, hlen with
 | (a0 :: a1 :: a2 :: a3 :: a4 :: a5 :: a6 :: a7 :: a8 :: a9 :: a10 :: a11 :: a12 :: a13 :: a14 :: a15 :: a16 :: a17 :: a18 :: a19 :: []), _ =>
   have b0 := hb a0 (by simp)
   have b1 := hb a1 (by simp)
   have b2 := hb a2 (by simp)
   have b3 := hb a3 (by simp)
   have b4 := hb a4 (by simp)
   have b5 := hb a5 (by simp)
   have b6 := hb a6 (by simp)
   have b7 := hb a7 (by simp)
   have b8 := hb a8 (by simp)
   have b9 := hb a9 (by simp)
   have b10 := hb a10 (by simp)
   have b11 := hb a11 (by simp)
   have b12 := hb a12 (by simp)
   have b13 := hb a13 (by simp)
   have b14 := hb a14 (by simp)
   have b15 := hb a15 (by simp)
   have b16 := hb a16 (by simp)
   have b17 := hb a17 (by simp)
   have b18 := hb a18 (by simp)
   have b19 := hb a19 (by simp)
   simp only [List.length_append, List.set_cons_succ, List.set_cons_zero, List.cons_append, List.nil_append, List.take_succ_cons, List.take_zero, List.drop_succ_cons, List.drop_zero, List.length_cons, List.length_nil, List.getElem?_cons_succ, List.getElem?_cons_zero, Option.getD_some] at hl
   simp only [rdErr, z2, g, word, Nat.reduceAdd, List.length_append, List.set_cons_succ, List.set_cons_zero, List.cons_append, List.nil_append, List.take_succ_cons, List.take_zero, List.drop_succ_cons, List.drop_zero, List.length_cons, List.length_nil, List.getElem?_cons_succ, List.getElem?_cons_zero, Option.getD_some] at hz
   repeat' split at hz
   all_goals first | (cases hz; done) | skip
   all_goals
     have hz' : wrFail 5 (rdGood 5 ((a0 :: a1 :: a2 :: a3 :: a4 :: a5 :: a6 :: a7 :: a8 :: a9 :: a10 :: a11 :: a12 :: a13 :: a14 :: a15 :: a16 :: a17 :: a18 :: a19 :: []) ++ r)) (((a0 :: a1 :: a2 :: a3 :: a4 :: a5 :: a6 :: a7 :: a8 :: a9 :: a10 :: a11 :: a12 :: a13 :: a14 :: a15 :: a16 :: a17 :: a18 :: a19 :: []) ++ r).drop 20) = 0 := by
       simp only [wrFail, rdGood, g, word, Nat.reduceAdd, List.length_append, List.set_cons_succ, List.set_cons_zero, List.cons_append, List.nil_append, List.take_succ_cons, List.take_zero, List.drop_succ_cons, List.drop_zero, List.length_cons, List.length_nil, List.getElem?_cons_succ, List.getElem?_cons_zero, Option.getD_some]
       repeat' split
       all_goals first | rfl | omega
     refine ⟨hz', ?_⟩
     have hB : wrBase 5 (rdGood 5 ((a0 :: a1 :: a2 :: a3 :: a4 :: a5 :: a6 :: a7 :: a8 :: a9 :: a10 :: a11 :: a12 :: a13 :: a14 :: a15 :: a16 :: a17 :: a18 :: a19 :: []) ++ r)) (((a0 :: a1 :: a2 :: a3 :: a4 :: a5 :: a6 :: a7 :: a8 :: a9 :: a10 :: a11 :: a12 :: a13 :: a14 :: a15 :: a16 :: a17 :: a18 :: a19 :: []) ++ r).drop 20) = [a0, a1, a2, a3, a4, a5, a6, a7, a8, a9, a10, a11, a12, a13, a14, a15, 0, 0, a18, a19] := by
       simp only [wrBase, rdGood, g, word, Nat.reduceAdd, List.length_append, List.set_cons_succ, List.set_cons_zero, List.cons_append, List.nil_append, List.take_succ_cons, List.take_zero, List.drop_succ_cons, List.drop_zero, List.length_cons, List.length_nil, List.getElem?_cons_succ, List.getElem?_cons_zero, Option.getD_some, List.cons.injEq, and_true, true_and]
       repeat' apply And.intro
       all_goals first | rfl | omega
     rw [wrGood, hB]
     simp only [putF, Nat.reduceAdd, List.length_append, List.set_cons_succ, List.set_cons_zero, List.cons_append, List.nil_append, List.take_succ_cons, List.take_zero, List.drop_succ_cons, List.drop_zero, List.length_cons, List.length_nil, List.getElem?_cons_succ, List.getElem?_cons_zero, Option.getD_some, List.cons.injEq, and_true, true_and]
     repeat' apply And.intro
     all_goals first | rfl | omega
set_option maxRecDepth 100000 in
theorem againDgram {p : List Int} (hb : Bytes p) (hl : p.length ≤ 2048) (hz : rdErr 6 p = 0) : wrFail 6 (rdRow 6 p) (p.drop 8) = 0 ∧ wrGood 6 (rdRow 6 p) (p.drop 8) = p.take 8 := by
 have hs : 8 ≤ p.length := by
   simp only [rdErr] at hz
   split at hz <;> first | (cases hz; done) | omega
 rw [rdRow, if_pos hz]
 obtain ⟨l, r, rfl, hlen⟩ : ∃ l r : List Int, p = l ++ r ∧ l.length = 8 := ⟨p.take 8, p.drop 8, by simp, by simp; omega⟩
 match l, hlen with
 | (a0 :: a1 :: a2 :: a3 :: a4 :: a5 :: a6 :: a7 :: []), _ =>
   have b0 := hb a0 (by simp)
   have b1 := hb a1 (by simp)
   have b2 := hb a2 (by simp)
   have b3 := hb a3 (by simp)
   have b4 := hb a4 (by simp)
   have b5 := hb a5 (by simp)
   have b6 := hb a6 (by simp)
   have b7 := hb a7 (by simp)
   simp only [List.length_append, List.set_cons_succ, List.set_cons_zero, List.cons_append, List.nil_append, List.take_succ_cons, List.take_zero, List.drop_succ_cons, List.drop_zero, List.length_cons, List.length_nil, List.getElem?_cons_succ, List.getElem?_cons_zero, Option.getD_some] at hl
   simp only [rdErr, z2, g, word, Nat.reduceAdd, List.length_append, List.set_cons_succ, List.set_cons_zero, List.cons_append, List.nil_append, List.take_succ_cons, List.take_zero, List.drop_succ_cons, List.drop_zero, List.length_cons, List.length_nil, List.getElem?_cons_succ, List.getElem?_cons_zero, Option.getD_some] at hz
   repeat' split at hz
   all_goals first | (cases hz; done) | skip
   all_goals
     have hz' : wrFail 6 (rdGood 6 ((a0 :: a1 :: a2 :: a3 :: a4 :: a5 :: a6 :: a7 :: []) ++ r)) (((a0 :: a1 :: a2 :: a3 :: a4 :: a5 :: a6 :: a7 :: []) ++ r).drop 8) = 0 := by
       simp only [wrFail, rdGood, g, word, Nat.reduceAdd, List.length_append, List.set_cons_succ, List.set_cons_zero, List.cons_append, List.nil_append, List.take_succ_cons, List.take_zero, List.drop_succ_cons, List.drop_zero, List.length_cons, List.length_nil, List.getElem?_cons_succ, List.getElem?_cons_zero, Option.getD_some]
       repeat' split
       all_goals first | rfl | omega
     refine ⟨hz', ?_⟩
     have hB : wrBase 6 (rdGood 6 ((a0 :: a1 :: a2 :: a3 :: a4 :: a5 :: a6 :: a7 :: []) ++ r)) (((a0 :: a1 :: a2 :: a3 :: a4 :: a5 :: a6 :: a7 :: []) ++ r).drop 8) = [a0, a1, a2, a3, a4, a5, 0, 0] := by
       simp only [wrBase, rdGood, g, word, Nat.reduceAdd, List.length_append, List.set_cons_succ, List.set_cons_zero, List.cons_append, List.nil_append, List.take_succ_cons, List.take_zero, List.drop_succ_cons, List.drop_zero, List.length_cons, List.length_nil, List.getElem?_cons_succ, List.getElem?_cons_zero, Option.getD_some, List.cons.injEq, and_true, true_and]
       repeat' apply And.intro
       all_goals first | rfl | omega
     rw [wrGood, hB]
     simp only [putF, Nat.reduceAdd, List.length_append, List.set_cons_succ, List.set_cons_zero, List.cons_append, List.nil_append, List.take_succ_cons, List.take_zero, List.drop_succ_cons, List.drop_zero, List.length_cons, List.length_nil, List.getElem?_cons_succ, List.getElem?_cons_zero, Option.getD_some, List.cons.injEq, and_true, true_and]
     repeat' apply And.intro
     all_goals first | rfl | omega
end Go.Proofs.YtfhjlimdakphcaaGreat.Sx
set_option linter.unusedVariables false
set_option linter.unusedSimpArgs false
namespace Go.Proofs.YtfhjlimdakphcaaGreat.Sx
open Go
theorem bytes_cons {a : Int} {l : List Int} : Bytes (a :: l) ↔ (0 ≤ a ∧ a < 256) ∧ Bytes l :=
 ⟨fun h => ⟨h a (by simp), fun z hz => h z (by simp [hz])⟩, fun h z hz => by
   rcases List.mem_cons.mp hz with e | e
   · rw [e]; exact h.1
   · exact h.2 z e⟩
theorem bytes_nil : Bytes [] := fun z hz => by cases hz
set_option maxRecDepth 100000 in
theorem bytesLink {h p : List Int} (hh : GoodInts kLink h) (hf : wrFail 1 h p = 0) : Bytes (wrGood 1 h p) := by
 match h, hh with
 | (a0 :: a1 :: a2 :: a3 :: a4 :: a5 :: a6 :: a7 :: a8 :: a9 :: a10 :: a11 :: a12 :: []), hh =>
   have b0 := hh.2 0 _ a0 rfl rfl
   have b1 := hh.2 1 _ a1 rfl rfl
   have b2 := hh.2 2 _ a2 rfl rfl
   have b3 := hh.2 3 _ a3 rfl rfl
   have b4 := hh.2 4 _ a4 rfl rfl
   have b5 := hh.2 5 _ a5 rfl rfl
   have b6 := hh.2 6 _ a6 rfl rfl
   have b7 := hh.2 7 _ a7 rfl rfl
   have b8 := hh.2 8 _ a8 rfl rfl
   have b9 := hh.2 9 _ a9 rfl rfl
   have b10 := hh.2 10 _ a10 rfl rfl
   have b11 := hh.2 11 _ a11 rfl rfl
   have b12 := hh.2 12 _ a12 rfl rfl
   simp only [kmin, kmax] at b0 b1 b2 b3 b4 b5 b6 b7 b8 b9 b10 b11 b12
   simp [wrFail, g] at hf
   simp only [wrGood, wrBase, putF, fld1, fld, g, Nat.reduceAdd, List.set_cons_succ, List.set_cons_zero, List.cons_append, List.nil_append, List.getElem?_cons_succ, List.getElem?_cons_zero, Option.getD_some, bytes_cons]
   repeat' split
   all_goals repeat' apply And.intro
   all_goals first | exact bytes_nil | omega
set_option maxRecDepth 100000 in
theorem kindsLink {p : List Int} (hb : Bytes p) : GoodInts kLink (rdGood 1 p) := by
 have b0 := byte_rd hb 0
 have b1 := byte_rd hb 1
 have b2 := byte_rd hb 2
 have b3 := byte_rd hb 3
 have b4 := byte_rd hb 4
 have b5 := byte_rd hb 5
 have b6 := byte_rd hb 6
 have b7 := byte_rd hb 7
 have b8 := byte_rd hb 8
 have b9 := byte_rd hb 9
 have b10 := byte_rd hb 10
 have b11 := byte_rd hb 11
 have b12 := byte_rd hb 12
 have b13 := byte_rd hb 13
 repeat' refine good_cons.mpr ⟨?_, ?_⟩
 all_goals first | exact good_nil | (simp only [kmin, kmax, word, g, Nat.reduceAdd]; omega)
set_option maxRecDepth 100000 in
theorem bytesTag {h p : List Int} (hh : GoodInts kTag h) (hf : wrFail 2 h p = 0) : Bytes (wrGood 2 h p) := by
 match h, hh with
 | (a0 :: a1 :: a2 :: []), hh =>
   have b0 := hh.2 0 _ a0 rfl rfl
   have b1 := hh.2 1 _ a1 rfl rfl
   have b2 := hh.2 2 _ a2 rfl rfl
   simp only [kmin, kmax] at b0 b1 b2
   simp [wrFail, g] at hf
   simp only [wrGood, wrBase, putF, fld1, fld, g, Nat.reduceAdd, List.set_cons_succ, List.set_cons_zero, List.cons_append, List.nil_append, List.getElem?_cons_succ, List.getElem?_cons_zero, Option.getD_some, bytes_cons]
   repeat' split
   all_goals repeat' apply And.intro
   all_goals first | exact bytes_nil | omega
set_option maxRecDepth 100000 in
theorem kindsTag {p : List Int} (hb : Bytes p) : GoodInts kTag (rdGood 2 p) := by
 have b0 := byte_rd hb 0
 have b1 := byte_rd hb 1
 have b2 := byte_rd hb 2
 have b3 := byte_rd hb 3
 repeat' refine good_cons.mpr ⟨?_, ?_⟩
 all_goals first | exact good_nil | (simp only [kmin, kmax, word, g, Nat.reduceAdd]; omega)
set_option maxRecDepth 100000 in
theorem bytesNet4 {h p : List Int} (hh : GoodInts kNet4 h) (hf : wrFail 3 h p = 0) : Bytes (wrGood 3 h p) := by
 match h, hh with
 | (a0 :: a1 :: a2 :: a3 :: a4 :: a5 :: a6 :: a7 :: a8 :: a9 :: a10 :: a11 :: []), hh =>
   have b0 := hh.2 0 _ a0 rfl rfl
   have b1 := hh.2 1 _ a1 rfl rfl
   have b2 := hh.2 2 _ a2 rfl rfl
   have b3 := hh.2 3 _ a3 rfl rfl
   have b4 := hh.2 4 _ a4 rfl rfl
   have b5 := hh.2 5 _ a5 rfl rfl
   have b6 := hh.2 6 _ a6 rfl rfl
   have b7 := hh.2 7 _ a7 rfl rfl
   have b8 := hh.2 8 _ a8 rfl rfl
   have b9 := hh.2 9 _ a9 rfl rfl
   have b10 := hh.2 10 _ a10 rfl rfl
   have b11 := hh.2 11 _ a11 rfl rfl
   simp only [kmin, kmax] at b0 b1 b2 b3 b4 b5 b6 b7 b8 b9 b10 b11
   simp [wrFail, g] at hf
   have hR := ocs_range (wsum (wrBase 3 (a0 :: a1 :: a2 :: a3 :: a4 :: a5 :: a6 :: a7 :: a8 :: a9 :: a10 :: a11 :: []) p))
   simp only [wrBase, g, List.set_cons_succ, List.set_cons_zero, List.cons_append, List.nil_append, List.getElem?_cons_succ, List.getElem?_cons_zero, Option.getD_some] at hR
   simp only [wrGood, wrBase, putF, fld1, fld, g, Nat.reduceAdd, List.set_cons_succ, List.set_cons_zero, List.cons_append, List.nil_append, List.getElem?_cons_succ, List.getElem?_cons_zero, Option.getD_some, bytes_cons]
   repeat' split
   all_goals repeat' apply And.intro
   all_goals first | exact bytes_nil | omega
set_option maxRecDepth 100000 in
theorem kindsNet4 {p : List Int} (hb : Bytes p) : GoodInts kNet4 (rdGood 3 p) := by
 have b0 := byte_rd hb 0
 have b1 := byte_rd hb 1
 have b2 := byte_rd hb 2
 have b3 := byte_rd hb 3
 have b4 := byte_rd hb 4
 have b5 := byte_rd hb 5
 have b6 := byte_rd hb 6
 have b7 := byte_rd hb 7
 have b8 := byte_rd hb 8
 have b9 := byte_rd hb 9
 have b10 := byte_rd hb 10
 have b11 := byte_rd hb 11
 have b12 := byte_rd hb 12
 have b13 := byte_rd hb 13
 have b14 := byte_rd hb 14
 have b15 := byte_rd hb 15
 have b16 := byte_rd hb 16
 have b17 := byte_rd hb 17
 have b18 := byte_rd hb 18
 have b19 := byte_rd hb 19
 repeat' refine good_cons.mpr ⟨?_, ?_⟩
 all_goals first | exact good_nil | (simp only [kmin, kmax, word, g, Nat.reduceAdd]; omega)
set_option maxRecDepth 100000 in
theorem bytesNet6 {h p : List Int} (hh : GoodInts kNet6 h) (hf : wrFail 4 h p = 0) : Bytes (wrGood 4 h p) := by
 match h, hh with
 | (a0 :: a1 :: a2 :: a3 :: a4 :: a5 :: a6 :: a7 :: a8 :: a9 :: a10 :: a11 :: a12 :: a13 :: a14 :: a15 :: a16 :: a17 :: a18 :: a19 :: a20 :: a21 :: a22 :: a23 :: a24 :: a25 :: a26 :: a27 :: a28 :: a29 :: a30 :: a31 :: a32 :: a33 :: a34 :: a35 :: []), hh =>
   have b0 := hh.2 0 _ a0 rfl rfl
   have b1 := hh.2 1 _ a1 rfl rfl
   have b2 := hh.2 2 _ a2 rfl rfl
   have b3 := hh.2 3 _ a3 rfl rfl
   have b4 := hh.2 4 _ a4 rfl rfl
   have b5 := hh.2 5 _ a5 rfl rfl
   have b6 := hh.2 6 _ a6 rfl rfl
   have b7 := hh.2 7 _ a7 rfl rfl
   have b8 := hh.2 8 _ a8 rfl rfl
   have b9 := hh.2 9 _ a9 rfl rfl
   have b10 := hh.2 10 _ a10 rfl rfl
   have b11 := hh.2 11 _ a11 rfl rfl
   have b12 := hh.2 12 _ a12 rfl rfl
   have b13 := hh.2 13 _ a13 rfl rfl
   have b14 := hh.2 14 _ a14 rfl rfl
   have b15 := hh.2 15 _ a15 rfl rfl
   have b16 := hh.2 16 _ a16 rfl rfl
   have b17 := hh.2 17 _ a17 rfl rfl
   have b18 := hh.2 18 _ a18 rfl rfl
   have b19 := hh.2 19 _ a19 rfl rfl
   have b20 := hh.2 20 _ a20 rfl rfl
   have b21 := hh.2 21 _ a21 rfl rfl
   have b22 := hh.2 22 _ a22 rfl rfl
   have b23 := hh.2 23 _ a23 rfl rfl
   have b24 := hh.2 24 _ a24 rfl rfl
   have b25 := hh.2 25 _ a25 rfl rfl
   have b26 := hh.2 26 _ a26 rfl rfl
   have b27 := hh.2 27 _ a27 rfl rfl
   have b28 := hh.2 28 _ a28 rfl rfl
   have b29 := hh.2 29 _ a29 rfl rfl
   have b30 := hh.2 30 _ a30 rfl rfl
   have b31 := hh.2 31 _ a31 rfl rfl
   have b32 := hh.2 32 _ a32 rfl rfl
   have b33 := hh.2 33 _ a33 rfl rfl
   have b34 := hh.2 34 _ a34 rfl rfl
   have b35 := hh.2 35 _ a35 rfl rfl
   simp only [kmin, kmax] at b0 b1 b2 b3 b4 b5 b6 b7 b8 b9 b10 b11 b12 b13 b14 b15 b16 b17 b18 b19 b20 b21 b22 b23 b24 b25 b26 b27 b28 b29 b30 b31 b32 b33 b34 b35
   simp [wrFail, g] at hf
   simp only [wrGood, wrBase, putF, fld1, fld, g, Nat.reduceAdd, List.set_cons_succ, List.set_cons_zero, List.cons_append, List.nil_append, List.getElem?_cons_succ, List.getElem?_cons_zero, Option.getD_some, bytes_cons]
   repeat' split
   all_goals repeat' apply And.intro
   all_goals first | exact bytes_nil | omega
set_option maxRecDepth 100000 in
theorem kindsNet6 {p : List Int} (hb : Bytes p) : GoodInts kNet6 (rdGood 4 p) := by
 have b0 := byte_rd hb 0
 have b1 := byte_rd hb 1
 have b2 := byte_rd hb 2
 have b3 := byte_rd hb 3
 have b4 := byte_rd hb 4
 have b5 := byte_rd hb 5
 have b6 := byte_rd hb 6
 have b7 := byte_rd hb 7
 have b8 := byte_rd hb 8
 have b9 := byte_rd hb 9
 have b10 := byte_rd hb 10
 have b11 := byte_rd hb 11
 have b12 := byte_rd hb 12
 have b13 := byte_rd hb 13
 have b14 := byte_rd hb 14
 have b15 := byte_rd hb 15
 have b16 := byte_rd hb 16
 have b17 := byte_rd hb 17
 have b18 := byte_rd hb 18
 have b19 := byte_rd hb 19
 have b20 := byte_rd hb 20
 have b21 := byte_rd hb 21
 have b22 := byte_rd hb 22
 have b23 := byte_rd hb 23
 have b24 := byte_rd hb 24
 have b25 := byte_rd hb 25
 have b26 := byte_rd hb 26
 have b27 := byte_rd hb 27
 have b28 := byte_rd hb 28
 have b29 := byte_rd hb 29
 have b30 := byte_rd hb 30
 have b31 := byte_rd hb 31
 have b32 := byte_rd hb 32
 have b33 := byte_rd hb 33
 have b34 := byte_rd hb 34
 have b35 := byte_rd hb 35
 have b36 := byte_rd hb 36
 have b37 := byte_rd hb 37
 have b38 := byte_rd hb 38
 have b39 := byte_rd hb 39
 repeat' refine good_cons.mpr ⟨?_, ?_⟩
 all_goals first | exact good_nil | (simp only [kmin, kmax, word, g, Nat.reduceAdd]; omega)
set_option maxRecDepth 100000 in
theorem bytesSeg {h p : List Int} (hh : GoodInts kSeg h) (hf : wrFail 5 h p = 0) : Bytes (wrGood 5 h p) := by
 match h, hh with
 | (a0 :: a1 :: a2 :: a3 :: a4 :: a5 :: []), hh =>
   have b0 := hh.2 0 _ a0 rfl rfl
   have b1 := hh.2 1 _ a1 rfl rfl
   have b2 := hh.2 2 _ a2 rfl rfl
   have b3 := hh.2 3 _ a3 rfl rfl
   have b4 := hh.2 4 _ a4 rfl rfl
   have b5 := hh.2 5 _ a5 rfl rfl
   simp only [kmin, kmax] at b0 b1 b2 b3 b4 b5
   simp [wrFail, g] at hf
   have hR := ocs_range (wsum (wrBase 5 (a0 :: a1 :: a2 :: a3 :: a4 :: a5 :: []) p ++ p))
   simp only [wrBase, g, List.set_cons_succ, List.set_cons_zero, List.cons_append, List.nil_append, List.getElem?_cons_succ, List.getElem?_cons_zero, Option.getD_some] at hR
   simp only [wrGood, wrBase, putF, fld1, fld, g, Nat.reduceAdd, List.set_cons_succ, List.set_cons_zero, List.cons_append, List.nil_append, List.getElem?_cons_succ, List.getElem?_cons_zero, Option.getD_some, bytes_cons]
   repeat' split
   all_goals repeat' apply And.intro
   all_goals first | exact bytes_nil | omega
set_option maxRecDepth 100000 in
theorem kindsSeg {p : List Int} (hb : Bytes p) : GoodInts kSeg (rdGood 5 p) := by
 have b0 := byte_rd hb 0
 have b1 := byte_rd hb 1
 have b2 := byte_rd hb 2
 have b3 := byte_rd hb 3
 have b4 := byte_rd hb 4
 have b5 := byte_rd hb 5
 have b6 := byte_rd hb 6
 have b7 := byte_rd hb 7
 have b8 := byte_rd hb 8
 have b9 := byte_rd hb 9
 have b10 := byte_rd hb 10
 have b11 := byte_rd hb 11
 have b12 := byte_rd hb 12
 have b13 := byte_rd hb 13
 have b14 := byte_rd hb 14
 have b15 := byte_rd hb 15
 have b16 := byte_rd hb 16
 have b17 := byte_rd hb 17
 have b18 := byte_rd hb 18
 have b19 := byte_rd hb 19
 repeat' refine good_cons.mpr ⟨?_, ?_⟩
 all_goals first | exact good_nil | (simp only [kmin, kmax, word, g, Nat.reduceAdd]; omega)
set_option maxRecDepth 100000 in
theorem bytesDgram {h p : List Int} (hh : GoodInts kDgram h) (hf : wrFail 6 h p = 0) : Bytes (wrGood 6 h p) := by
 match h, hh with
 | (a0 :: a1 :: []), hh =>
   have b0 := hh.2 0 _ a0 rfl rfl
   have b1 := hh.2 1 _ a1 rfl rfl
   simp only [kmin, kmax] at b0 b1
   simp [wrFail, g] at hf
   have hR := ocs_range (wsum (wrBase 6 (a0 :: a1 :: []) p ++ p))
   simp only [wrBase, g, List.set_cons_succ, List.set_cons_zero, List.cons_append, List.nil_append, List.getElem?_cons_succ, List.getElem?_cons_zero, Option.getD_some] at hR
   simp only [wrGood, wrBase, putF, fld1, fld, g, Nat.reduceAdd, List.set_cons_succ, List.set_cons_zero, List.cons_append, List.nil_append, List.getElem?_cons_succ, List.getElem?_cons_zero, Option.getD_some, bytes_cons]
   repeat' split
   all_goals repeat' apply And.intro
   all_goals first | exact bytes_nil | omega
set_option maxRecDepth 100000 in
theorem kindsDgram {p : List Int} (hb : Bytes p) : GoodInts kDgram (rdGood 6 p) := by
 have b0 := byte_rd hb 0
 have b1 := byte_rd hb 1
 have b2 := byte_rd hb 2
 have b3 := byte_rd hb 3
 have b4 := byte_rd hb 4
 have b5 := byte_rd hb 5
 have b6 := byte_rd hb 6
 have b7 := byte_rd hb 7
 repeat' refine good_cons.mpr ⟨?_, ?_⟩
 all_goals first | exact good_nil | (simp only [kmin, kmax, word, g, Nat.reduceAdd]; omega)
end Go.Proofs.YtfhjlimdakphcaaGreat.Sx
set_option linter.unusedVariables false
namespace Go.Proofs.YtfhjlimdakphcaaGreat.Sx
open Go
def tTrue : Tmpl := ⟨[], [], 0, truth 5000⟩
def annsAw : Anns := fun _ _ _ => .unroll 40
def consAw : List (Nat × Con) := [(14, tEq.con), (39, tClone.con)]
def annsEq : Anns := fun f i S => match f, i with
 | 14, 4 => .inv 0 ⟨[(5, .c (.i .i64 (.var S.nv)))], [], [], 1, [(.c2 .le (.num 0) (.var S.nv), true)]⟩
 | _, _ => .unroll 40
end Go.Proofs.YtfhjlimdakphcaaGreat.Sx
set_option linter.unusedVariables false
namespace Go.Proofs.YtfhjlimdakphcaaGreat.Sx
open Go
end Go.Proofs.YtfhjlimdakphcaaGreat.Sx
set_option linter.unusedVariables false
namespace Go.Proofs.YtfhjlimdakphcaaGreat.Sx
open Go
def hbErr (h p : T) : T := .fn 60 h p .nil
def hbRow (h p : T) : T := .fn 61 h p .nil
def consWd : List (Nat × Con) := [(111, (tBytes 1 3 60 14 kLink).con), (117, (tBytes 2 3 60 4 kTag).con), (123, (tBytes 3 3 60 20 kNet4).con), (129, (tBytes 4 3 60 40 kNet6).con), (135, (tBytes 5 3 60 20 kSeg).con), (141, (tBytes 6 3 60 8 kDgram).con)]
def tBring : Tmpl := ⟨[.c (.i .i64 (.var 0)), .c (.i .i64 (.var 1))], [], 2, inR 0 (kmin .i64) (kmax .i64) (inR 1 1 1000 (.chk (.c2 .le (.num 0) (.fn 66 (.var 0) (.var 1) .nil)) (.chk (.c2 .lt (.fn 66 (.var 0) (.var 1) .nil) (.var 1)) (.ret ⟨.c (.i .i64 (.fn 66 (.var 0) (.var 1) .nil)), [], 2⟩))))⟩
def annsPb : Anns := fun f i S => match f, i with
 | 122802, 3 => match look S.tm 6 with
   | some (.w (.c (.s j _ _ _ _))) => .inv 0 ⟨[(7, .c (.i .i64 (.var S.nv))), (6, .c (.s S.nb 1 0 (.num 0) (.var (S.nv + 1))))], [(j, none)], [⟨true, .row [.u8] (.var (S.nv + 2))⟩], 3,
     [(.c2 .le (.num (-1)) (.var S.nv), true), (.c2 .lt (.var S.nv) (.var 0), true), (.c2 .le (.num 0) (.var (S.nv + 1)), true), (.c2 .le (.var (S.nv + 1)) (.num 5000), true), (.c2 .eq (.c1 .len (.var (S.nv + 2))) (.var (S.nv + 1)), true), (.c1 (.kin [.u8]) (.var (S.nv + 2)), true)]⟩
   | _ => .unroll 1
 | 153206, 17 => match look S.tm 7 with
   | some (.w (.c (.s j _ _ _ _))) => .inv 0 ⟨[(8, .c (.i .i64 (.var S.nv))), (6, .c (.i .u16 (.var (S.nv + 1)))), (7, .c (.s S.nb 73 0 (.num 0) (.var (S.nv + 2))))], [(j, none)], [⟨true, .row kHead (.var (S.nv + 3))⟩], 4,
     [(.c2 .le (.num 0) (.var S.nv), true), (.c2 .le (.var S.nv) (.num 5), true), (.c2 .le (.num 0) (.var (S.nv + 1)), true), (.c2 .le (.var (S.nv + 1)) (.num 65535), true), (.c2 .le (.num 1) (.var (S.nv + 2)), true), (.c2 .le (.var (S.nv + 2)) (.num 6), true), (.c2 .eq (.c1 .len (.var (S.nv + 3))) (.c2 .mul (.var (S.nv + 2)) (.num 73)), true), (.c1 (.kin kHead) (.var (S.nv + 3)), true)]⟩
   | _ => .unroll 1
 | 101058, 18 => match look S.tm 13, look S.tm 5, look S.tm 6, look S.tm 8 with
   | some (.w (.c (.p j _ _ _))), some (.w (.c (.s jl _ _ _ _))), some (.w (.c (.s jp _ _ _ _))), some (.w (.c (.s jk _ _ _ _))) => .inv 0 ⟨[(14, .c (.i .i64 (.var S.nv))), (12, .c (.i .i64 (.var (S.nv + 1)))), (5, .c (.s S.nb 73 0 (.num 0) (.var (S.nv + 9)))), (6, .c (.s (S.nb + 1) 1 0 (.num 0) (.var (S.nv + 11)))), (8, .c (.s (S.nb + 2) 73 0 (.num 0) (.var (S.nv + 13))))],
     [(j, some ⟨true, .cells [.b (.var (S.nv + 2)), .b (.var (S.nv + 3)), .b (.var (S.nv + 4)), .b (.var (S.nv + 5)), .b (.var (S.nv + 6)), .b (.var (S.nv + 7)), .b (.var (S.nv + 8))]⟩), (jl, none), (jp, none), (jk, none)],
     [⟨true, .row kHead (.var (S.nv + 10))⟩, ⟨true, .row [.u8] (.var (S.nv + 12))⟩, ⟨true, .row kHead (.var (S.nv + 14))⟩], 15,
     [(.c2 .le (.num 0) (.var S.nv), true), (.c2 .le (.num 0) (.var (S.nv + 1)), true), (.c2 .le (.var (S.nv + 1)) (.num 400), true), (.c2 .le (.num 1) (.var (S.nv + 9)), true), (.c2 .le (.var (S.nv + 9)) (.num 8), true), (.c2 .eq (.c1 .len (.var (S.nv + 10))) (.c2 .mul (.var (S.nv + 9)) (.num 73)), true), (.c1 (.kin kHead) (.var (S.nv + 10)), true),
      (.c2 .le (.num 0) (.var (S.nv + 11)), true), (.c2 .le (.var (S.nv + 11)) (.num 2048), true), (.c2 .eq (.c1 .len (.var (S.nv + 12))) (.var (S.nv + 11)), true), (.c1 (.kin [.u8]) (.var (S.nv + 12)), true),
      (.c2 .eq (.var (S.nv + 13)) (.var (S.nv + 9)), true), (.c2 .eq (.c1 .len (.var (S.nv + 14))) (.c2 .mul (.var (S.nv + 13)) (.num 73)), true), (.c1 (.kin kHead) (.var (S.nv + 14)), true)]⟩
   | _, _, _, _ => .unroll 1
 | _, _ => .unroll 40
end Go.Proofs.YtfhjlimdakphcaaGreat.Sx
set_option linter.unusedVariables false
set_option linter.unusedSimpArgs false
namespace Go.Proofs.YtfhjlimdakphcaaGreat.Sx
open Go
def hdOff : Nat → Nat | 1 => 1 | 2 => 14 | 3 => 17 | 4 => 29 | 5 => 65 | 6 => 71 | _ => 0
def hdFields (k : Nat) (H : List Int) : List Int := (H.drop (hdOff k)).take (hdKinds k).length
def headErr (H p : List Int) : Int := if 1 ≤ g H 0 ∧ g H 0 ≤ 6 then wrFail (g H 0).toNat (hdFields (g H 0).toNat H) p else 120
def headRow (H p : List Int) : List Int := wrGood (g H 0).toNat (hdFields (g H 0).toNat H) p
structure PbSig (Φ : Sig) : Prop extends PeSig Φ where
 hbErr : ∀ x y z, Φ 60 x y z = .i (headErr x.list y.list)
 hbRow : ∀ x y z, Φ 61 x y z = .l (headRow x.list y.list)
section
variable {Φ : Sig} {ρ ρ' : Env}
theorem vars_len (Φ : Sig) (ρ : Env) : ∀ n b, (T.den Φ ρ (varsT b n)).list.length = n
 | 0, _ => rfl
 | n + 1, b => by show (T.den Φ ρ (varsT (b + 1) n)).list.length + 1 = _; rw [vars_len Φ ρ n (b + 1)]
theorem vars_nth (Φ : Sig) (ρ : Env) : ∀ (n b i : Nat), i < n → (T.den Φ ρ (varsT b n)).list[i]? = some (ρ (b + i)).int
 | n + 1, b, 0, _ => rfl
 | n + 1, b, i + 1, h => by
   show (T.den Φ ρ (varsT (b + 1) n)).list[i]? = _
   rw [vars_nth Φ ρ n (b + 1) i (by omega), show b + 1 + i = b + (i + 1) from by omega]
theorem vars_sub (Φ : Sig) (ρ : Env) {b n m : Nat} (h : b + n ≤ m) : (T.den Φ ρ (varsT b n)).list = ((T.den Φ ρ (varsT 0 m)).list.drop b).take n := by
 apply List.ext_getElem?
 intro i
 rw [List.getElem?_take]
 split
 · rename_i hi
   rw [vars_nth Φ ρ n b i hi, List.getElem?_drop, vars_nth Φ ρ m 0 (b + i) (by omega), Nat.zero_add]
 · rw [List.getElem?_eq_none (by rw [vars_len]; omega)]
theorem good_vars {ks : List IntKind} {b : Nat} (hk : ∀ i k, kHead[i]? = some k → kmin k ≤ (ρ (0 + i)).int ∧ (ρ (0 + i)).int ≤ kmax k) (hs : ∀ i : Fin ks.length, kHead[b + i.val]? = ks[i.val]?) : GoodInts ks (T.den Φ ρ (varsT b ks.length)).list := by
 refine ⟨(vars_len Φ ρ _ _).symm, fun i k z h1 h2 => ?_⟩
 have hi : i < ks.length := (List.getElem?_eq_some_iff.1 h1).1
 rw [vars_nth Φ ρ _ b i hi] at h2
 injection h2 with h2
 subst h2
 have := hk (b + i) k ((hs ⟨i, hi⟩).trans h1)
 rw [Nat.zero_add] at this; exact this
end
end Go.Proofs.YtfhjlimdakphcaaGreat.Sx
set_option linter.unusedVariables false
set_option linter.unusedSimpArgs false
namespace Go.Proofs.YtfhjlimdakphcaaGreat.Sx
open Go Go.RowKit Go.Lib
theorem clone_nil (n c : Nat) (w : World) : Calls Go.Proofs.Tryz.prog 39 #[.slice none n c] w fun e w' => e = .returned (.slice none 0 0) ∧ w' = w := by
 have q22 : ∀ (w : World) (a : Option Addr) (n c n' c' : Nat), (binOp .eql 22 (.slice a n c) (.slice none n' c')).run Go.Proofs.Tryz.prog w = .ok (.bool a.isNone) w := fun w a n c n' c' => Lib.run_eql_slice_nil w _ _ a n c n' c' Go.Proofs.Tryz.underlying22
 go_enter Go.Proofs.Tryz.func39, Go.Proofs.Tryz.ntmps39
 go_wp2
 go_ret
 exact ⟨rfl, rfl⟩
theorem clone_some (x : Addr) (n c : Nat) (l : List Int) (w : World) (hl : l.length = n) (hbig : n * 1 ≤ 140737488355328) (hc : ∀ j, j < n → w.cell? (x.add j) = some (.int .u8 (l.getD j 0))) :
   Calls Go.Proofs.Tryz.prog 39 #[.slice (some x) n c] w fun e w' => ∃ v', e = .returned v' ∧ w'.ownsRow w.heap.size 5 1 v' n (l.map (Value.int .u8)) ∧ Below w.heap.size w w' := by
 obtain ⟨i0, hi⟩ : ∃ i, Go.Proofs.Tryz.prog.info? 5 = some i := Option.isSome_iff_exists.mp (by kernel_rfl)
 have hz0 : i0.zero = some (.int .u8 0) := by
   have h : (Go.Proofs.Tryz.prog.info? 5).bind (·.zero) = some (.int .u8 0) := by kernel_rfl
   rw [hi] at h; exact h
 have hz1 : i0.size = 1 := by
   have h : (Go.Proofs.Tryz.prog.info? 5).map (·.size) = some 1 := by kernel_rfl
   rw [hi] at h; exact Option.some.inj h
 have hz2 : i0.bytes = 1 := by
   have h : (Go.Proofs.Tryz.prog.info? 5).map (·.bytes) = some 1 := by kernel_rfl
   rw [hi] at h; exact Option.some.inj h
 have q22 : ∀ (w : World) (a : Option Addr) (n c n' c' : Nat), (binOp .eql 22 (.slice a n c) (.slice none n' c')).run Go.Proofs.Tryz.prog w = .ok (.bool a.isNone) w := fun w a n c n' c' => Lib.run_eql_slice_nil w _ _ a n c n' c' Go.Proofs.Tryz.underlying22
 have u22 : ∀ w, Sem.run Go.Proofs.Tryz.prog (underlying 22) w = .ok (TypeDesc.slice 5) w := run_underlying Go.Proofs.Tryz.underlying22
 have A : Aside (∀ j, j < n → w.cell? (x.add j) = some (.int .u8 (l.getD j 0))) := hc
 clear hc
 go_enter Go.Proofs.Tryz.func39, Go.Proofs.Tryz.ntmps39
 go_wp2_with (at_builtin; refine wpList_append_own _ rfl _ _ 22 rfl w.heap.size 5 i0 (.int .u8 0) 1 1 Go.Proofs.Tryz.underlying22 hi hz0 hz1 hz2 rfl (by decide) _ _ _ rfl (World.ownsRow_made w #[] 0 (Nat.le_refl _) (Nat.zero_le _) rfl) x n c (l.map (Value.int .u8)) rfl ?qc1 ?qc2 ?qc3 ?qc4 ?qc5 ?qc6 ?_)
 case qc1 => simp; omega
 case qc2 =>
   intro j u hj
   have hjn : j < l.length := by
     have := (List.getElem?_eq_some_iff.1 hj).1
     simpa using this
   refine Lib.cell?_alloc_some _ ?_
   rw [A.out j (by omega)]
   rw [List.getElem?_map, List.getElem?_eq_getElem hjn] at hj
   rw [List.getD_eq_getElem?_getD, List.getElem?_eq_getElem hjn]
   exact hj
 case qc3 => intro u hu; obtain ⟨x, _, rfl⟩ := List.mem_map.1 hu; rfl
 case qc4 => unfold maxLen; omega
 case qc5 => omega
 case qc6 => simp
 intro v' w1 hown hgrow hnil
 go_wp2
 go_ret
 refine ⟨v', rfl, by simpa using hown, ?_⟩
 exact ((Below.refl _ w).alloc (Nat.le_refl _) _).grown hgrow (by simp) (by intro k hk; simp [Value.ownBlock] at hk; omega)
theorem StepR.fresh {E : Ev} {bs : Nat → Option MB} {β : Map} {w w' : World} {nb : Nat} {pl : Place} {m : MB} (hb : Below w.heap.size w w') (hfree : β nb = none) (hpl : pl.sz ≠ 0 → w.heap.size ≤ pl.b ∧ pl.b < w'.heap.size) (hm : m.rep E (β.with nb pl) w' pl) :
   StepR E bs β w nb [(nb, some m)] (nb + 1) (β.with nb pl) w' where
 ge := Nat.le_succ _
 le := Map.le_with hfree
 old := fun j hj => Map.with_other β pl (fun e => hj (isNew_one.mpr e))
 os := hb.os
 tape := hb.tape
 output := hb.output
 size := hb.size
 kept := fun b h _ => hb.block b h
 mem := fun j m' h => by
   simp only [lookM] at h
   split at h
   · rename_i e
     injection h with h
     subst h
     rw [← Nat.eq_of_beq_eq_true e]
     exact ⟨pl, Map.with_self _ _ _, hm⟩
   · cases h
 wr := fun j h hn => by
   simp only [hasK, Bool.or_false] at h
   exact absurd (isNew_one.mpr (Nat.eq_of_beq_eq_true h).symm) hn
 new := fun j p hn hj hs => by
   rw [isNew_one.mp hn, Map.with_self] at hj
   injection hj with hj
   subst hj
   exact ⟨(hpl hs).2, .inl (hpl hs).1⟩
 excl := fun j j' _ _ _ _ hne hn hn' => absurd ((isNew_one.mp hn).trans (isNew_one.mp hn').symm) hne
theorem clone_ok {Φ : Sig} : TmplOk Go.Proofs.Tryz.prog Φ 39 tClone := by
 intro ρ res hres args β w hargs hin hm hfree
 obtain ⟨h0, hres⟩ := short_some hres
 obtain rfl := ret_some hres
 match args, hargs with
 | [v], hargs =>
   obtain ⟨pl, hpl, a, n, c, rfl, hn, hnc, _, hfit, ha⟩ := hargs.1
   obtain ⟨pl', hpl', hr⟩ := hm.1 0 (rowB 0) rfl
   rw [hpl] at hpl'
   injection hpl' with hpl'
   subst hpl'
   have hrow : rowRep w pl [.u8] (ρ 0).list := hr.1
   have hlen : (ρ 0).list.length = n := by simp [T.den, U1.den] at hn; omega
   have h1 : β 1 = none := hfree 1 (Nat.le_refl _)
   cases a with
   | none =>
     have hc0 : c = 0 := by
       rcases Nat.eq_zero_or_pos c with h | h
       · exact h
       · cases ha h
     have hnil : (ρ 0).list = [] := List.eq_nil_of_length_eq_zero (by omega)
     refine (clone_nil n c w).mono ?_
     rintro e w' ⟨rfl, rfl⟩
     refine ⟨_, β.with 1 ⟨0, 0, 0⟩, rfl, ⟨_, Map.with_self _ _ _, none, 0, 0, rfl, ?_, Nat.le_refl _, by simp [T.den], by simp [T.den], fun h => absurd h (Nat.lt_irrefl 0)⟩, StepR.phantom h1 ?_⟩
     · simp [T.den, U1.den, hnil]
     · exact ⟨by decide, by simp [T.den, hnil], fun p x hp => by simp [T.den, hnil] at hp⟩
   | some x =>
     refine (clone_some x n c (ρ 0).list w hlen (by omega) (fun j hj => ?_)).mono ?_
     · have hx := ha (by omega)
       injection hx with hx
       subst hx
       rw [Addr.add_mid]
       have := hrow.2.2 j ((ρ 0).list.getD j 0) (by rw [List.getD_eq_getElem?_getD, List.getElem?_eq_getElem (by omega)]; rfl)
       simp [Nat.mod_one, T.den] at this ⊢
       exact this
     · rintro e w' ⟨v', rfl, hown, hbel⟩
       obtain ⟨hxl, ⟨rfl, h00⟩ | ⟨b, cap, cur, rfl, hb, hcur, hncap, _, hsz, htake⟩⟩ := hown
       · have hnil : (ρ 0).list = [] := List.eq_nil_of_length_eq_zero (by omega)
         refine ⟨_, β.with 1 ⟨0, 0, 0⟩, rfl, ⟨_, Map.with_self _ _ _, none, 0, 0, rfl, ?_, Nat.le_refl _, by simp [T.den], by simp [T.den], fun h => absurd h (Nat.lt_irrefl 0)⟩, StepR.fresh hbel h1 (fun h => absurd rfl h) ⟨?_, fun _ => .inl rfl⟩⟩
         · simp [T.den, U1.den, hnil]
         · exact ⟨by decide, by simp [T.den, hnil], fun p x hp => by simp [T.den, hnil] at hp⟩
       · have hsz' : cur.size = cap := by omega
         have hget : ∀ (i : Nat) (z : Int), (ρ 0).list[i]? = some z → cur[i]? = some (Value.int .u8 z) := by
           intro i z hi
           have hlt := (List.getElem?_eq_some_iff.1 hi).1
           have h2 : ((ρ 0).list.map (Value.int .u8))[i]? = some (Value.int .u8 z) := by rw [List.getElem?_map, hi]; rfl
           rw [← htake, List.getElem?_take, if_pos (by omega), Array.getElem?_toList] at h2
           exact h2
         refine ⟨_, β.with 1 ⟨b, 0, cap⟩, rfl, ⟨_, Map.with_self _ _ _, _, n, cap, rfl, ?_, hncap, by simp [T.den], by simp [T.den], fun _ => by simp [T.den]⟩, StepR.fresh hbel h1 (fun _ => ⟨hb, ?_⟩) ⟨⟨by decide, ?_, fun i z hi => ?_⟩, fun _ => .inr ⟨rfl, cur, _, hcur, (by show cap ≤ cur.size; omega)⟩⟩⟩
         · simp [T.den, U1.den, hlen]
         · show b < w'.heap.size
           by_cases hlt : b < w'.heap.size
           · exact hlt
           · rw [Array.getElem?_eq_none (by omega)] at hcur; cases hcur
         · show (ρ 0).list.length ≤ cap
           omega
         · have := hget i z hi
           simp only [World.cell?, hcur, Nat.zero_add]
           simp [Nat.mod_one, this]
end Go.Proofs.YtfhjlimdakphcaaGreat.Sx
set_option maxRecDepth 100000
namespace Go.Proofs.YtfhjlimdakphcaaGreat.Sx
open Go
def treeRdLink : M (V × St) :=
(.split (.c2 .lt (.c1 .len (.var 0)) (.num 14))
 (.ret (.t [.g [.i .u8 (.num 0), .i .u8 (.num 0), .i .u8 (.num 0), .i .u8 (.num 0), .i .u8 (.num 0), .i .u8 (.num 0), .i .u8 (.num 0), .i .u8 (.num 0), .i .u8 (.num 0), .i .u8 (.num 0), .i .u8 (.num 0), .i .u8 (.num 0), .i .u16 (.num 0)], .c (.i .i64 (.num 6))], ⟨[], [], 2, 1, []⟩))
 (.ret (.t [.g [.i .u8 (.c2 .rd (.var 0) (.num 0)), .i .u8 (.c2 .rd (.var 0) (.num 1)), .i .u8 (.c2 .rd (.var 0) (.num 2)), .i .u8 (.c2 .rd (.var 0) (.num 3)), .i .u8 (.c2 .rd (.var 0) (.num 4)), .i .u8 (.c2 .rd (.var 0) (.num 5)), .i .u8 (.c2 .rd (.var 0) (.num 6)), .i .u8 (.c2 .rd (.var 0) (.num 7)), .i .u8 (.c2 .rd (.var 0) (.num 8)), .i .u8 (.c2 .rd (.var 0) (.num 9)), .i .u8 (.c2 .rd (.var 0) (.num 10)), .i .u8 (.c2 .rd (.var 0) (.num 11)), .i .u16 (.c2 .add (.c2 .mul (.c2 .rd (.var 0) (.num 12)) (.num 256)) (.c2 .rd (.var 0) (.num 13)))], .c (.i .i64 (.num 0))], ⟨[], [], 3, 1, []⟩)))
theorem treeRdLink_is : funTree (ctxN Go.Proofs.Tryz.prog annsHd consSum 8) annsHd 71 (tRead 1 60 kLink).vs (tRead 1 60 kLink).bs (tRead 1 60 kLink).n (preF (tRead 1 60 kLink).res) = treeRdLink := by kernel_rfl
end Go.Proofs.YtfhjlimdakphcaaGreat.Sx
set_option maxRecDepth 100000
namespace Go.Proofs.YtfhjlimdakphcaaGreat.Sx
open Go
def treeRrLink : M (V × St) :=
(.split (.c2 .lt (.c1 .len (.var 0)) (.num 14))
 (.ret (.t [.g [.i .u8 (.num 0), .i .u8 (.num 0), .i .u8 (.num 0), .i .u8 (.num 0), .i .u8 (.num 0), .i .u8 (.num 0), .i .u8 (.num 0), .i .u8 (.num 0), .i .u8 (.num 0), .i .u8 (.num 0), .i .u8 (.num 0), .i .u8 (.num 0), .i .u16 (.num 0)], .c (.i .i64 (.num 6))], ⟨[], [], 3, 1, []⟩))
 (.ret (.t [.g [.i .u8 (.c2 .rd (.var 0) (.num 0)), .i .u8 (.c2 .rd (.var 0) (.num 1)), .i .u8 (.c2 .rd (.var 0) (.num 2)), .i .u8 (.c2 .rd (.var 0) (.num 3)), .i .u8 (.c2 .rd (.var 0) (.num 4)), .i .u8 (.c2 .rd (.var 0) (.num 5)), .i .u8 (.c2 .rd (.var 0) (.num 6)), .i .u8 (.c2 .rd (.var 0) (.num 7)), .i .u8 (.c2 .rd (.var 0) (.num 8)), .i .u8 (.c2 .rd (.var 0) (.num 9)), .i .u8 (.c2 .rd (.var 0) (.num 10)), .i .u8 (.c2 .rd (.var 0) (.num 11)), .i .u16 (.c2 .add (.c2 .mul (.c2 .rd (.var 0) (.num 12)) (.num 256)) (.c2 .rd (.var 0) (.num 13)))], .c (.i .i64 (.num 0))], ⟨[], [], 4, 1, []⟩)))
theorem treeRrLink_is : funTree (ctxN Go.Proofs.Tryz.prog annsHd consSum 8) annsHd 50 (tRead 1 60 kLink).vs (tRead 1 60 kLink).bs (tRead 1 60 kLink).n (preF (tRead 1 60 kLink).res) = treeRrLink := by kernel_rfl
end Go.Proofs.YtfhjlimdakphcaaGreat.Sx
set_option linter.unusedVariables false
set_option linter.unusedSimpArgs false
namespace Go.Proofs.YtfhjlimdakphcaaGreat.Sx
open Go
theorem rdLink_ok {Φ : Sig} (hΦ : HdSig Φ) : TmplOk Go.Proofs.Tryz.prog Φ 71 (tRead 1 60 kLink) := by
 refine tmpl_of (consSum_ok hΦ.toSumSig) treeRdLink_is (fun ρ res hres => ⟨eqJ, ?_⟩)
 obtain ⟨h0, hres⟩ := short_some hres
 obtain ⟨hb, hres⟩ := bytes_some hres
 obtain rfl := ret_some hres
 have hF : T.den Φ ρ (fn1 11 (.var 0)) = .l (rdRow 1 (ρ 0).list) := hΦ.rdRow 1 _ _ _ (by decide) (by decide)
 have hE : T.den Φ ρ (fn1 21 (.var 0)) = .i (rdErr 1 (ρ 0).list) := hΦ.rdErr 1 _ _ _ (by decide) (by decide)
 refine ⟨fun c1 => ?_, fun c1 => ?_⟩
 · simp at c1
   have hz : rdErr 1 (ρ 0).list = 6 := by
     simp only [rdErr, fld1, word, g, Nat.reduceAdd]
     repeat' split
     all_goals first | rfl | omega
   exact leaf_rd_err hF hE rfl hz (by decide) (by decide)
 · simp at c1
   have hz : rdErr 1 (ρ 0).list = 0 := by
     simp only [rdErr, fld1, word, g, Nat.reduceAdd]
     repeat' split
     all_goals first | rfl | omega
   refine leaf_rd_good hF hE hz ?_ (by decide)
   refine ⟨rfl, wrap_byte hb 0, rfl, wrap_byte hb 1, rfl, wrap_byte hb 2, rfl, wrap_byte hb 3, rfl, wrap_byte hb 4, rfl, wrap_byte hb 5, rfl, wrap_byte hb 6, rfl, wrap_byte hb 7, rfl, wrap_byte hb 8, rfl, wrap_byte hb 9, rfl, wrap_byte hb 10, rfl, wrap_byte hb 11, rfl, wrap_word hb 12, trivial⟩
theorem rrLink_ok {Φ : Sig} (hΦ : HdSig Φ) : TmplOk Go.Proofs.Tryz.prog Φ 50 (tRead 1 60 kLink) := by
 refine tmpl_of (consSum_ok hΦ.toSumSig) treeRrLink_is (fun ρ res hres => ⟨eqJ, ?_⟩)
 obtain ⟨h0, hres⟩ := short_some hres
 obtain ⟨hb, hres⟩ := bytes_some hres
 obtain rfl := ret_some hres
 have hF : T.den Φ ρ (fn1 11 (.var 0)) = .l (rdRow 1 (ρ 0).list) := hΦ.rdRow 1 _ _ _ (by decide) (by decide)
 have hE : T.den Φ ρ (fn1 21 (.var 0)) = .i (rdErr 1 (ρ 0).list) := hΦ.rdErr 1 _ _ _ (by decide) (by decide)
 refine ⟨fun c1 => ?_, fun c1 => ?_⟩
 · simp at c1
   have hz : rdErr 1 (ρ 0).list = 6 := by
     simp only [rdErr, fld1, word, g, Nat.reduceAdd]
     repeat' split
     all_goals first | rfl | omega
   exact leaf_rd_err hF hE rfl hz (by decide) (by decide)
 · simp at c1
   have hz : rdErr 1 (ρ 0).list = 0 := by
     simp only [rdErr, fld1, word, g, Nat.reduceAdd]
     repeat' split
     all_goals first | rfl | omega
   refine leaf_rd_good hF hE hz ?_ (by decide)
   refine ⟨rfl, wrap_byte hb 0, rfl, wrap_byte hb 1, rfl, wrap_byte hb 2, rfl, wrap_byte hb 3, rfl, wrap_byte hb 4, rfl, wrap_byte hb 5, rfl, wrap_byte hb 6, rfl, wrap_byte hb 7, rfl, wrap_byte hb 8, rfl, wrap_byte hb 9, rfl, wrap_byte hb 10, rfl, wrap_byte hb 11, rfl, wrap_word hb 12, trivial⟩
end Go.Proofs.YtfhjlimdakphcaaGreat.Sx
set_option maxRecDepth 100000
namespace Go.Proofs.YtfhjlimdakphcaaGreat.Sx
open Go
def treeRdTag : M (V × St) :=
(.split (.c2 .lt (.c1 .len (.var 0)) (.num 4))
 (.ret (.t [.g [.i .u8 (.num 0), .i .u16 (.num 0), .i .u16 (.num 0)], .c (.i .i64 (.num 6))], ⟨[], [], 2, 1, []⟩))
 (.split (.c1 .not (.c2 .eq (.bits .and .u16 (.c2 .add (.c2 .mul (.c2 .rd (.var 0) (.num 0)) (.num 256)) (.c2 .rd (.var 0) (.num 1))) (.num 4096)) (.num 0)))
 (.ret (.t [.g [.i .u8 (.num 0), .i .u16 (.num 0), .i .u16 (.num 0)], .c (.i .i64 (.num 60))], ⟨[], [], 2, 1, []⟩))
 (.ret (.t [.g [.i .u8 (.c2 .fdiv (.c2 .rd (.var 0) (.num 0)) (.num 32)), .i .u16 (.c2 .sub (.c2 .add (.c2 .mul (.c2 .rd (.var 0) (.num 0)) (.num 256)) (.c2 .rd (.var 0) (.num 1))) (.c2 .mul (.c2 .fdiv (.c2 .add (.c2 .mul (.c2 .rd (.var 0) (.num 0)) (.num 256)) (.c2 .rd (.var 0) (.num 1))) (.num 4096)) (.num 4096))), .i .u16 (.c2 .add (.c2 .mul (.c2 .rd (.var 0) (.num 2)) (.num 256)) (.c2 .rd (.var 0) (.num 3)))], .c (.i .i64 (.num 0))], ⟨[], [], 3, 1, []⟩))))
theorem treeRdTag_is : funTree (ctxN Go.Proofs.Tryz.prog annsHd consSum 8) annsHd 74 (tRead 2 60 kTag).vs (tRead 2 60 kTag).bs (tRead 2 60 kTag).n (preF (tRead 2 60 kTag).res) = treeRdTag := by kernel_rfl
end Go.Proofs.YtfhjlimdakphcaaGreat.Sx
set_option maxRecDepth 100000
namespace Go.Proofs.YtfhjlimdakphcaaGreat.Sx
open Go
def treeRrTag : M (V × St) :=
(.split (.c2 .lt (.c1 .len (.var 0)) (.num 4))
 (.ret (.t [.g [.i .u8 (.num 0), .i .u16 (.num 0), .i .u16 (.num 0)], .c (.i .i64 (.num 6))], ⟨[], [], 3, 1, []⟩))
 (.split (.c1 .not (.c2 .eq (.c2 .sub (.c2 .fdiv (.c2 .rd (.var 0) (.num 0)) (.num 16)) (.c2 .mul (.c2 .fdiv (.c2 .fdiv (.c2 .rd (.var 0) (.num 0)) (.num 16)) (.num 2)) (.num 2))) (.num 0)))
 (.ret (.t [.g [.i .u8 (.num 0), .i .u16 (.num 0), .i .u16 (.num 0)], .c (.i .i64 (.num 60))], ⟨[], [], 3, 1, []⟩))
 (.ret (.t [.g [.i .u8 (.c2 .fdiv (.c2 .rd (.var 0) (.num 0)) (.num 32)), .i .u16 (.c2 .sub (.c2 .add (.c2 .mul (.c2 .rd (.var 0) (.num 0)) (.num 256)) (.c2 .rd (.var 0) (.num 1))) (.c2 .mul (.c2 .fdiv (.c2 .add (.c2 .mul (.c2 .rd (.var 0) (.num 0)) (.num 256)) (.c2 .rd (.var 0) (.num 1))) (.num 4096)) (.num 4096))), .i .u16 (.c2 .add (.c2 .mul (.c2 .rd (.var 0) (.num 2)) (.num 256)) (.c2 .rd (.var 0) (.num 3)))], .c (.i .i64 (.num 0))], ⟨[], [], 4, 1, []⟩))))
theorem treeRrTag_is : funTree (ctxN Go.Proofs.Tryz.prog annsHd consSum 8) annsHd 52 (tRead 2 60 kTag).vs (tRead 2 60 kTag).bs (tRead 2 60 kTag).n (preF (tRead 2 60 kTag).res) = treeRrTag := by kernel_rfl
end Go.Proofs.YtfhjlimdakphcaaGreat.Sx
set_option linter.unusedVariables false
set_option linter.unusedSimpArgs false
namespace Go.Proofs.YtfhjlimdakphcaaGreat.Sx
open Go
theorem rdTag_ok {Φ : Sig} (hΦ : HdSig Φ) : TmplOk Go.Proofs.Tryz.prog Φ 74 (tRead 2 60 kTag) := by
 refine tmpl_of (consSum_ok hΦ.toSumSig) treeRdTag_is (fun ρ res hres => ⟨eqJ, ?_⟩)
 obtain ⟨h0, hres⟩ := short_some hres
 obtain ⟨hb, hres⟩ := bytes_some hres
 obtain rfl := ret_some hres
 have hF : T.den Φ ρ (fn1 12 (.var 0)) = .l (rdRow 2 (ρ 0).list) := hΦ.rdRow 2 _ _ _ (by decide) (by decide)
 have hE : T.den Φ ρ (fn1 22 (.var 0)) = .i (rdErr 2 (ρ 0).list) := hΦ.rdErr 2 _ _ _ (by decide) (by decide)
 have ha := and_4096 (word_g hb 0).1 (word_g hb 0).2
 simp only [word, g, Nat.reduceAdd] at ha
 have b0 := byte_rd hb 0
 have b1 := byte_rd hb 1
 have b2 := byte_rd hb 2
 have b3 := byte_rd hb 3
 refine ⟨fun c1 => ?_, fun c1 => ?_⟩
 · simp [ha] at c1
   have hz : rdErr 2 (ρ 0).list = 6 := by
     simp only [rdErr, fld1, word, g, Nat.reduceAdd]
     repeat' split
     all_goals first | rfl | omega
   exact leaf_rd_err hF hE rfl hz (by decide) (by decide)
 · refine ⟨fun c2 => ?_, fun c2 => ?_⟩
   · simp [ha] at c1 c2
     have hz : rdErr 2 (ρ 0).list = 60 := by
       simp only [rdErr, fld1, word, g, Nat.reduceAdd]
       repeat' split
       all_goals first | rfl | omega
     exact leaf_rd_err hF hE rfl hz (by decide) (by decide)
   · simp [ha] at c1 c2
     have hz : rdErr 2 (ρ 0).list = 0 := by
       simp only [rdErr, fld1, word, g, Nat.reduceAdd]
       repeat' split
       all_goals first | rfl | omega
     refine leaf_rd_good hF hE hz ?_ (by decide)
     refine ⟨rfl, ?_, rfl, ?_, rfl, wrap_word hb 2, trivial⟩
     all_goals
       refine wrap_eq ?_ ?_ ?_ <;> simp [word, g, kmin, kmax] <;> omega
theorem rrTag_ok {Φ : Sig} (hΦ : HdSig Φ) : TmplOk Go.Proofs.Tryz.prog Φ 52 (tRead 2 60 kTag) := by
 refine tmpl_of (consSum_ok hΦ.toSumSig) treeRrTag_is (fun ρ res hres => ⟨eqJ, ?_⟩)
 obtain ⟨h0, hres⟩ := short_some hres
 obtain ⟨hb, hres⟩ := bytes_some hres
 obtain rfl := ret_some hres
 have hF : T.den Φ ρ (fn1 12 (.var 0)) = .l (rdRow 2 (ρ 0).list) := hΦ.rdRow 2 _ _ _ (by decide) (by decide)
 have hE : T.den Φ ρ (fn1 22 (.var 0)) = .i (rdErr 2 (ρ 0).list) := hΦ.rdErr 2 _ _ _ (by decide) (by decide)
 have ha := and_4096 (word_g hb 0).1 (word_g hb 0).2
 simp only [word, g, Nat.reduceAdd] at ha
 have b0 := byte_rd hb 0
 have b1 := byte_rd hb 1
 have b2 := byte_rd hb 2
 have b3 := byte_rd hb 3
 refine ⟨fun c1 => ?_, fun c1 => ?_⟩
 · simp [ha] at c1
   have hz : rdErr 2 (ρ 0).list = 6 := by
     simp only [rdErr, fld1, word, g, Nat.reduceAdd]
     repeat' split
     all_goals first | rfl | omega
   exact leaf_rd_err hF hE rfl hz (by decide) (by decide)
 · refine ⟨fun c2 => ?_, fun c2 => ?_⟩
   · simp [ha] at c1 c2
     have hz : rdErr 2 (ρ 0).list = 60 := by
       simp only [rdErr, fld1, word, g, Nat.reduceAdd]
       repeat' split
       all_goals first | rfl | omega
     exact leaf_rd_err hF hE rfl hz (by decide) (by decide)
   · simp [ha] at c1 c2
     have hz : rdErr 2 (ρ 0).list = 0 := by
       simp only [rdErr, fld1, word, g, Nat.reduceAdd]
       repeat' split
       all_goals first | rfl | omega
     refine leaf_rd_good hF hE hz ?_ (by decide)
     refine ⟨rfl, ?_, rfl, ?_, rfl, wrap_word hb 2, trivial⟩
     all_goals
       refine wrap_eq ?_ ?_ ?_ <;> simp [word, g, kmin, kmax] <;> omega
end Go.Proofs.YtfhjlimdakphcaaGreat.Sx
set_option maxRecDepth 100000
namespace Go.Proofs.YtfhjlimdakphcaaGreat.Sx
open Go
def treeRdNet4 : M (V × St) :=
(.split (.c2 .lt (.c1 .len (.var 0)) (.num 20))
 (.ret (.t [.g [.i .u8 (.num 0), .i .u8 (.num 0), .i .u8 (.num 0), .i .u16 (.num 0), .i .u8 (.num 0), .i .u8 (.num 0), .i .u8 (.num 0), .i .u8 (.num 0), .i .u8 (.num 0), .i .u8 (.num 0), .i .u8 (.num 0), .i .u8 (.num 0)], .c (.i .i64 (.num 6))], ⟨[], [], 2, 1, []⟩))
 (.split (.c1 .not (.c2 .eq (.c2 .rd (.var 0) (.num 0)) (.num 69)))
 (.ret (.t [.g [.i .u8 (.num 0), .i .u8 (.num 0), .i .u8 (.num 0), .i .u16 (.num 0), .i .u8 (.num 0), .i .u8 (.num 0), .i .u8 (.num 0), .i .u8 (.num 0), .i .u8 (.num 0), .i .u8 (.num 0), .i .u8 (.num 0), .i .u8 (.num 0)], .c (.i .i64 (.num 70))], ⟨[], [], 2, 1, []⟩))
 (.split (.c1 .not (.c2 .eq (.c2 .add (.c2 .mul (.c2 .rd (.var 0) (.num 6)) (.num 256)) (.c2 .rd (.var 0) (.num 7))) (.num 0)))
 (.ret (.t [.g [.i .u8 (.num 0), .i .u8 (.num 0), .i .u8 (.num 0), .i .u16 (.num 0), .i .u8 (.num 0), .i .u8 (.num 0), .i .u8 (.num 0), .i .u8 (.num 0), .i .u8 (.num 0), .i .u8 (.num 0), .i .u8 (.num 0), .i .u8 (.num 0)], .c (.i .i64 (.num 70))], ⟨[], [], 2, 1, []⟩))
 (.split (.c1 .not (.c2 .eq (.c2 .add (.c2 .mul (.c2 .rd (.var 0) (.num 2)) (.num 256)) (.c2 .rd (.var 0) (.num 3))) (.c1 .len (.var 0))))
 (.ret (.t [.g [.i .u8 (.num 0), .i .u8 (.num 0), .i .u8 (.num 0), .i .u16 (.num 0), .i .u8 (.num 0), .i .u8 (.num 0), .i .u8 (.num 0), .i .u8 (.num 0), .i .u8 (.num 0), .i .u8 (.num 0), .i .u8 (.num 0), .i .u8 (.num 0)], .c (.i .i64 (.num 70))], ⟨[], [], 2, 1, []⟩))
 (.split (.c1 .not (.c2 .eq (.c2 .add (.c2 .mul (.c2 .rd (.var 0) (.num 10)) (.num 256)) (.c2 .rd (.var 0) (.num 11))) (.c2 .sub (.num 65535) (.wr .u16 (.fn 2 (.c2 .add (.wr .u16 (.fn 1 (.c2 .take (.num 10) (.var 0)) .nil .nil)) (.wr .u16 (.fn 1 (.c2 .take (.num 8) (.c2 .drop (.num 12) (.var 0))) .nil .nil))) .nil .nil)))))
 (.ret (.t [.g [.i .u8 (.num 0), .i .u8 (.num 0), .i .u8 (.num 0), .i .u16 (.num 0), .i .u8 (.num 0), .i .u8 (.num 0), .i .u8 (.num 0), .i .u8 (.num 0), .i .u8 (.num 0), .i .u8 (.num 0), .i .u8 (.num 0), .i .u8 (.num 0)], .c (.i .i64 (.num 110))], ⟨[], [], 4, 1, []⟩))
 (.ret (.t [.g [.i .u8 (.c2 .rd (.var 0) (.num 1)), .i .u8 (.c2 .rd (.var 0) (.num 8)), .i .u8 (.c2 .rd (.var 0) (.num 9)), .i .u16 (.c2 .add (.c2 .mul (.c2 .rd (.var 0) (.num 4)) (.num 256)) (.c2 .rd (.var 0) (.num 5))), .i .u8 (.c2 .rd (.var 0) (.num 12)), .i .u8 (.c2 .rd (.var 0) (.num 13)), .i .u8 (.c2 .rd (.var 0) (.num 14)), .i .u8 (.c2 .rd (.var 0) (.num 15)), .i .u8 (.c2 .rd (.var 0) (.num 16)), .i .u8 (.c2 .rd (.var 0) (.num 17)), .i .u8 (.c2 .rd (.var 0) (.num 18)), .i .u8 (.c2 .rd (.var 0) (.num 19))], .c (.i .i64 (.num 0))], ⟨[], [], 5, 1, []⟩)))))))
theorem treeRdNet4_is : funTree (ctxN Go.Proofs.Tryz.prog annsHd consSum 8) annsHd 77 (tRead 3 60 kNet4).vs (tRead 3 60 kNet4).bs (tRead 3 60 kNet4).n (preF (tRead 3 60 kNet4).res) = treeRdNet4 := by kernel_rfl
end Go.Proofs.YtfhjlimdakphcaaGreat.Sx
set_option maxRecDepth 100000
namespace Go.Proofs.YtfhjlimdakphcaaGreat.Sx
open Go
def treeRrNet4 : M (V × St) :=
(.split (.c2 .lt (.c1 .len (.var 0)) (.num 20))
 (.ret (.t [.g [.i .u8 (.num 0), .i .u8 (.num 0), .i .u8 (.num 0), .i .u16 (.num 0), .i .u8 (.num 0), .i .u8 (.num 0), .i .u8 (.num 0), .i .u8 (.num 0), .i .u8 (.num 0), .i .u8 (.num 0), .i .u8 (.num 0), .i .u8 (.num 0)], .c (.i .i64 (.num 6))], ⟨[], [], 3, 1, []⟩))
 (.split (.c1 .not (.c2 .eq (.c2 .rd (.var 0) (.num 0)) (.num 69)))
 (.ret (.t [.g [.i .u8 (.num 0), .i .u8 (.num 0), .i .u8 (.num 0), .i .u16 (.num 0), .i .u8 (.num 0), .i .u8 (.num 0), .i .u8 (.num 0), .i .u8 (.num 0), .i .u8 (.num 0), .i .u8 (.num 0), .i .u8 (.num 0), .i .u8 (.num 0)], .c (.i .i64 (.num 70))], ⟨[], [], 3, 1, []⟩))
 (.split (.c1 .not (.c2 .eq (.c2 .rd (.var 0) (.num 6)) (.num 0)))
 (.ret (.t [.g [.i .u8 (.num 0), .i .u8 (.num 0), .i .u8 (.num 0), .i .u16 (.num 0), .i .u8 (.num 0), .i .u8 (.num 0), .i .u8 (.num 0), .i .u8 (.num 0), .i .u8 (.num 0), .i .u8 (.num 0), .i .u8 (.num 0), .i .u8 (.num 0)], .c (.i .i64 (.num 70))], ⟨[], [], 3, 1, []⟩))
 (.split (.c1 .not (.c2 .eq (.c2 .rd (.var 0) (.num 7)) (.num 0)))
 (.ret (.t [.g [.i .u8 (.num 0), .i .u8 (.num 0), .i .u8 (.num 0), .i .u16 (.num 0), .i .u8 (.num 0), .i .u8 (.num 0), .i .u8 (.num 0), .i .u8 (.num 0), .i .u8 (.num 0), .i .u8 (.num 0), .i .u8 (.num 0), .i .u8 (.num 0)], .c (.i .i64 (.num 70))], ⟨[], [], 3, 1, []⟩))
 (.split (.c1 .not (.c2 .eq (.c2 .add (.c2 .mul (.c2 .rd (.var 0) (.num 2)) (.num 256)) (.c2 .rd (.var 0) (.num 3))) (.c1 .len (.var 0))))
 (.ret (.t [.g [.i .u8 (.num 0), .i .u8 (.num 0), .i .u8 (.num 0), .i .u16 (.num 0), .i .u8 (.num 0), .i .u8 (.num 0), .i .u8 (.num 0), .i .u8 (.num 0), .i .u8 (.num 0), .i .u8 (.num 0), .i .u8 (.num 0), .i .u8 (.num 0)], .c (.i .i64 (.num 70))], ⟨[], [], 3, 1, []⟩))
 (.split (.c1 .not (.c2 .eq (.c2 .add (.c2 .mul (.c2 .rd (.var 0) (.num 10)) (.num 256)) (.c2 .rd (.var 0) (.num 11))) (.c2 .sub (.num 65535) (.wr .u16 (.fn 1 (.set (.set (.c2 .take (.num 20) (.var 0)) (.num 10) (.num 0)) (.num 11) (.num 0)) .nil .nil)))))
 (.ret (.t [.g [.i .u8 (.num 0), .i .u8 (.num 0), .i .u8 (.num 0), .i .u16 (.num 0), .i .u8 (.num 0), .i .u8 (.num 0), .i .u8 (.num 0), .i .u8 (.num 0), .i .u8 (.num 0), .i .u8 (.num 0), .i .u8 (.num 0), .i .u8 (.num 0)], .c (.i .i64 (.num 110))], ⟨[], [], 5, 1, []⟩))
 (.ret (.t [.g [.i .u8 (.c2 .rd (.var 0) (.num 1)), .i .u8 (.c2 .rd (.var 0) (.num 8)), .i .u8 (.c2 .rd (.var 0) (.num 9)), .i .u16 (.c2 .add (.c2 .mul (.c2 .rd (.var 0) (.num 4)) (.num 256)) (.c2 .rd (.var 0) (.num 5))), .i .u8 (.c2 .rd (.var 0) (.num 12)), .i .u8 (.c2 .rd (.var 0) (.num 13)), .i .u8 (.c2 .rd (.var 0) (.num 14)), .i .u8 (.c2 .rd (.var 0) (.num 15)), .i .u8 (.c2 .rd (.var 0) (.num 16)), .i .u8 (.c2 .rd (.var 0) (.num 17)), .i .u8 (.c2 .rd (.var 0) (.num 18)), .i .u8 (.c2 .rd (.var 0) (.num 19))], .c (.i .i64 (.num 0))], ⟨[], [], 6, 1, []⟩))))))))
theorem treeRrNet4_is : funTree (ctxN Go.Proofs.Tryz.prog annsHd consSum 8) annsHd 53 (tRead 3 60 kNet4).vs (tRead 3 60 kNet4).bs (tRead 3 60 kNet4).n (preF (tRead 3 60 kNet4).res) = treeRrNet4 := by kernel_rfl
end Go.Proofs.YtfhjlimdakphcaaGreat.Sx
set_option linter.unusedVariables false
set_option linter.unusedSimpArgs false
namespace Go.Proofs.YtfhjlimdakphcaaGreat.Sx
open Go
theorem rdNet4_ok {Φ : Sig} (hΦ : HdSig Φ) : TmplOk Go.Proofs.Tryz.prog Φ 77 (tRead 3 60 kNet4) := by
 refine tmpl_of (consSum_ok hΦ.toSumSig) treeRdNet4_is (fun ρ res hres => ⟨eqJ, ?_⟩)
 obtain ⟨h0, hres⟩ := short_some hres
 obtain ⟨hb, hres⟩ := bytes_some hres
 obtain rfl := ret_some hres
 have hF : T.den Φ ρ (fn1 13 (.var 0)) = .l (rdRow 3 (ρ 0).list) := hΦ.rdRow 3 _ _ _ (by decide) (by decide)
 have hE : T.den Φ ρ (fn1 23 (.var 0)) = .i (rdErr 3 (ρ 0).list) := hΦ.rdErr 3 _ _ _ (by decide) (by decide)
 have b0 := byte_rd hb 0
 have b2 := byte_rd hb 2
 have b3 := byte_rd hb 3
 have b6 := byte_rd hb 6
 have b7 := byte_rd hb 7
 have b10 := byte_rd hb 10
 have b11 := byte_rd hb 11
 have hS : 20 ≤ (ρ 0).list.length → 65535 - ocs (ocs (wsum ((ρ 0).list.take 10)) + ocs (wsum (((ρ 0).list.drop 12).take 8))) = fld (z2 ((ρ 0).list.take 20) 10) := fun hl => fld_n4 hb  (by omega)
 have hZ : ∀ l : List Int, (l.set 10 0).set 11 0 = z2 l 10 := fun _ => rfl
 have hD : ∀ l : List Int, 65535 - ocs (wsum l) = fld l := fun _ => rfl
 refine ⟨fun c1 => ?_, fun c1 => ?_⟩
 · simp at c1
   have hz : rdErr 3 (ρ 0).list = 6 := by
     simp only [rdErr, fld1, word, g, Nat.reduceAdd]
     repeat' split
     all_goals first | rfl | omega
   exact leaf_rd_err hF hE rfl hz (by decide) (by decide)
 · refine ⟨fun c2 => ?_, fun c2 => ?_⟩
   · simp at c1 c2
     have hz : rdErr 3 (ρ 0).list = 70 := by
       simp only [rdErr, fld1, word, g, Nat.reduceAdd]
       repeat' split
       all_goals first | rfl | omega
     exact leaf_rd_err hF hE rfl hz (by decide) (by decide)
   · refine ⟨fun c3 => ?_, fun c3 => ?_⟩
     · simp at c1 c2 c3
       have hz : rdErr 3 (ρ 0).list = 70 := by
         simp only [rdErr, fld1, word, g, Nat.reduceAdd]
         repeat' split
         all_goals first | rfl | omega
       exact leaf_rd_err hF hE rfl hz (by decide) (by decide)
     · refine ⟨fun c4 => ?_, fun c4 => ?_⟩
       · simp at c1 c2 c3 c4
         have hz : rdErr 3 (ρ 0).list = 70 := by
           simp only [rdErr, fld1, word, g, Nat.reduceAdd]
           repeat' split
           all_goals first | rfl | omega
         exact leaf_rd_err hF hE rfl hz (by decide) (by decide)
       · refine ⟨fun c5 => ?_, fun c5 => ?_⟩
         · simp at c1 c2 c3 c4
           have hS := hS (by omega)
           simp [hΦ.sum, hΦ.ocs, wrap_ocs, hZ, hD, hS] at c5
           have hz : rdErr 3 (ρ 0).list = 110 := by
             simp only [rdErr, fld1, word, g, Nat.reduceAdd]
             repeat' split
             all_goals first | rfl | omega
           exact leaf_rd_err hF hE rfl hz (by decide) (by decide)
         · simp at c1 c2 c3 c4
           have hS := hS (by omega)
           simp [hΦ.sum, hΦ.ocs, wrap_ocs, hZ, hD, hS] at c5
           have hz : rdErr 3 (ρ 0).list = 0 := by
             simp only [rdErr, fld1, word, g, Nat.reduceAdd]
             repeat' split
             all_goals first | rfl | omega
           refine leaf_rd_good hF hE hz ?_ (by decide)
           refine ⟨rfl, wrap_byte hb 1, rfl, wrap_byte hb 8, rfl, wrap_byte hb 9, rfl, wrap_word hb 4, rfl, wrap_byte hb 12, rfl, wrap_byte hb 13, rfl, wrap_byte hb 14, rfl, wrap_byte hb 15, rfl, wrap_byte hb 16, rfl, wrap_byte hb 17, rfl, wrap_byte hb 18, rfl, wrap_byte hb 19, trivial⟩
theorem rrNet4_ok {Φ : Sig} (hΦ : HdSig Φ) : TmplOk Go.Proofs.Tryz.prog Φ 53 (tRead 3 60 kNet4) := by
 refine tmpl_of (consSum_ok hΦ.toSumSig) treeRrNet4_is (fun ρ res hres => ⟨eqJ, ?_⟩)
 obtain ⟨h0, hres⟩ := short_some hres
 obtain ⟨hb, hres⟩ := bytes_some hres
 obtain rfl := ret_some hres
 have hF : T.den Φ ρ (fn1 13 (.var 0)) = .l (rdRow 3 (ρ 0).list) := hΦ.rdRow 3 _ _ _ (by decide) (by decide)
 have hE : T.den Φ ρ (fn1 23 (.var 0)) = .i (rdErr 3 (ρ 0).list) := hΦ.rdErr 3 _ _ _ (by decide) (by decide)
 have b0 := byte_rd hb 0
 have b2 := byte_rd hb 2
 have b3 := byte_rd hb 3
 have b6 := byte_rd hb 6
 have b7 := byte_rd hb 7
 have b10 := byte_rd hb 10
 have b11 := byte_rd hb 11
 have hS : 20 ≤ (ρ 0).list.length → 65535 - ocs (ocs (wsum ((ρ 0).list.take 10)) + ocs (wsum (((ρ 0).list.drop 12).take 8))) = fld (z2 ((ρ 0).list.take 20) 10) := fun hl => fld_n4 hb  (by omega)
 have hZ : ∀ l : List Int, (l.set 10 0).set 11 0 = z2 l 10 := fun _ => rfl
 have hD : ∀ l : List Int, 65535 - ocs (wsum l) = fld l := fun _ => rfl
 refine ⟨fun c1 => ?_, fun c1 => ?_⟩
 · simp at c1
   have hz : rdErr 3 (ρ 0).list = 6 := by
     simp only [rdErr, fld1, word, g, Nat.reduceAdd]
     repeat' split
     all_goals first | rfl | omega
   exact leaf_rd_err hF hE rfl hz (by decide) (by decide)
 · refine ⟨fun c2 => ?_, fun c2 => ?_⟩
   · simp at c1 c2
     have hz : rdErr 3 (ρ 0).list = 70 := by
       simp only [rdErr, fld1, word, g, Nat.reduceAdd]
       repeat' split
       all_goals first | rfl | omega
     exact leaf_rd_err hF hE rfl hz (by decide) (by decide)
   · refine ⟨fun c3 => ?_, fun c3 => ?_⟩
     · simp at c1 c2 c3
       have hz : rdErr 3 (ρ 0).list = 70 := by
         simp only [rdErr, fld1, word, g, Nat.reduceAdd]
         repeat' split
         all_goals first | rfl | omega
       exact leaf_rd_err hF hE rfl hz (by decide) (by decide)
     · refine ⟨fun c4 => ?_, fun c4 => ?_⟩
       · simp at c1 c2 c3 c4
         have hz : rdErr 3 (ρ 0).list = 70 := by
           simp only [rdErr, fld1, word, g, Nat.reduceAdd]
           repeat' split
           all_goals first | rfl | omega
         exact leaf_rd_err hF hE rfl hz (by decide) (by decide)
       · refine ⟨fun c5 => ?_, fun c5 => ?_⟩
         · simp at c1 c2 c3 c4 c5
           have hz : rdErr 3 (ρ 0).list = 70 := by
             simp only [rdErr, fld1, word, g, Nat.reduceAdd]
             repeat' split
             all_goals first | rfl | omega
           exact leaf_rd_err hF hE rfl hz (by decide) (by decide)
         · refine ⟨fun c6 => ?_, fun c6 => ?_⟩
           · simp at c1 c2 c3 c4 c5
             have hS := hS (by omega)
             simp [hΦ.sum, hΦ.ocs, wrap_ocs, hZ, hD, hS] at c6
             have hz : rdErr 3 (ρ 0).list = 110 := by
               simp only [rdErr, fld1, word, g, Nat.reduceAdd]
               repeat' split
               all_goals first | rfl | omega
             exact leaf_rd_err hF hE rfl hz (by decide) (by decide)
           · simp at c1 c2 c3 c4 c5
             have hS := hS (by omega)
             simp [hΦ.sum, hΦ.ocs, wrap_ocs, hZ, hD, hS] at c6
             have hz : rdErr 3 (ρ 0).list = 0 := by
               simp only [rdErr, fld1, word, g, Nat.reduceAdd]
               repeat' split
               all_goals first | rfl | omega
             refine leaf_rd_good hF hE hz ?_ (by decide)
             refine ⟨rfl, wrap_byte hb 1, rfl, wrap_byte hb 8, rfl, wrap_byte hb 9, rfl, wrap_word hb 4, rfl, wrap_byte hb 12, rfl, wrap_byte hb 13, rfl, wrap_byte hb 14, rfl, wrap_byte hb 15, rfl, wrap_byte hb 16, rfl, wrap_byte hb 17, rfl, wrap_byte hb 18, rfl, wrap_byte hb 19, trivial⟩
end Go.Proofs.YtfhjlimdakphcaaGreat.Sx
set_option maxRecDepth 100000
namespace Go.Proofs.YtfhjlimdakphcaaGreat.Sx
open Go
def treeRdNet6 : M (V × St) :=
(.split (.c2 .lt (.c1 .len (.var 0)) (.num 40))
 (.ret (.t [.g [.i .u8 (.num 0), .i .u32 (.num 0), .i .u8 (.num 0), .i .u8 (.num 0), .i .u8 (.num 0), .i .u8 (.num 0), .i .u8 (.num 0), .i .u8 (.num 0), .i .u8 (.num 0), .i .u8 (.num 0), .i .u8 (.num 0), .i .u8 (.num 0), .i .u8 (.num 0), .i .u8 (.num 0), .i .u8 (.num 0), .i .u8 (.num 0), .i .u8 (.num 0), .i .u8 (.num 0), .i .u8 (.num 0), .i .u8 (.num 0), .i .u8 (.num 0), .i .u8 (.num 0), .i .u8 (.num 0), .i .u8 (.num 0), .i .u8 (.num 0), .i .u8 (.num 0), .i .u8 (.num 0), .i .u8 (.num 0), .i .u8 (.num 0), .i .u8 (.num 0), .i .u8 (.num 0), .i .u8 (.num 0), .i .u8 (.num 0), .i .u8 (.num 0), .i .u8 (.num 0), .i .u8 (.num 0)], .c (.i .i64 (.num 6))], ⟨[], [], 2, 1, []⟩))
 (.split (.c1 .not (.c2 .eq (.c2 .fdiv (.c2 .rd (.var 0) (.num 0)) (.num 16)) (.num 6)))
 (.ret (.t [.g [.i .u8 (.num 0), .i .u32 (.num 0), .i .u8 (.num 0), .i .u8 (.num 0), .i .u8 (.num 0), .i .u8 (.num 0), .i .u8 (.num 0), .i .u8 (.num 0), .i .u8 (.num 0), .i .u8 (.num 0), .i .u8 (.num 0), .i .u8 (.num 0), .i .u8 (.num 0), .i .u8 (.num 0), .i .u8 (.num 0), .i .u8 (.num 0), .i .u8 (.num 0), .i .u8 (.num 0), .i .u8 (.num 0), .i .u8 (.num 0), .i .u8 (.num 0), .i .u8 (.num 0), .i .u8 (.num 0), .i .u8 (.num 0), .i .u8 (.num 0), .i .u8 (.num 0), .i .u8 (.num 0), .i .u8 (.num 0), .i .u8 (.num 0), .i .u8 (.num 0), .i .u8 (.num 0), .i .u8 (.num 0), .i .u8 (.num 0), .i .u8 (.num 0), .i .u8 (.num 0), .i .u8 (.num 0)], .c (.i .i64 (.num 80))], ⟨[], [], 2, 1, []⟩))
 (.split (.c1 .not (.c2 .eq (.c2 .add (.c2 .mul (.c2 .rd (.var 0) (.num 4)) (.num 256)) (.c2 .rd (.var 0) (.num 5))) (.c2 .sub (.c1 .len (.var 0)) (.num 40))))
 (.ret (.t [.g [.i .u8 (.num 0), .i .u32 (.num 0), .i .u8 (.num 0), .i .u8 (.num 0), .i .u8 (.num 0), .i .u8 (.num 0), .i .u8 (.num 0), .i .u8 (.num 0), .i .u8 (.num 0), .i .u8 (.num 0), .i .u8 (.num 0), .i .u8 (.num 0), .i .u8 (.num 0), .i .u8 (.num 0), .i .u8 (.num 0), .i .u8 (.num 0), .i .u8 (.num 0), .i .u8 (.num 0), .i .u8 (.num 0), .i .u8 (.num 0), .i .u8 (.num 0), .i .u8 (.num 0), .i .u8 (.num 0), .i .u8 (.num 0), .i .u8 (.num 0), .i .u8 (.num 0), .i .u8 (.num 0), .i .u8 (.num 0), .i .u8 (.num 0), .i .u8 (.num 0), .i .u8 (.num 0), .i .u8 (.num 0), .i .u8 (.num 0), .i .u8 (.num 0), .i .u8 (.num 0), .i .u8 (.num 0)], .c (.i .i64 (.num 80))], ⟨[], [], 2, 1, []⟩))
 (.ret (.t [.g [.i .u8 (.c2 .sub (.c2 .fdiv (.c2 .add (.c2 .mul (.c2 .rd (.var 0) (.num 0)) (.num 256)) (.c2 .rd (.var 0) (.num 1))) (.num 16)) (.c2 .mul (.c2 .fdiv (.c2 .fdiv (.c2 .add (.c2 .mul (.c2 .rd (.var 0) (.num 0)) (.num 256)) (.c2 .rd (.var 0) (.num 1))) (.num 16)) (.num 256)) (.num 256))), .i .u32 (.c2 .add (.c2 .mul (.c2 .sub (.c2 .rd (.var 0) (.num 1)) (.c2 .mul (.c2 .fdiv (.c2 .rd (.var 0) (.num 1)) (.num 16)) (.num 16))) (.num 65536)) (.c2 .add (.c2 .mul (.c2 .rd (.var 0) (.num 2)) (.num 256)) (.c2 .rd (.var 0) (.num 3)))), .i .u8 (.c2 .rd (.var 0) (.num 6)), .i .u8 (.c2 .rd (.var 0) (.num 7)), .i .u8 (.c2 .rd (.var 0) (.num 8)), .i .u8 (.c2 .rd (.var 0) (.num 9)), .i .u8 (.c2 .rd (.var 0) (.num 10)), .i .u8 (.c2 .rd (.var 0) (.num 11)), .i .u8 (.c2 .rd (.var 0) (.num 12)), .i .u8 (.c2 .rd (.var 0) (.num 13)), .i .u8 (.c2 .rd (.var 0) (.num 14)), .i .u8 (.c2 .rd (.var 0) (.num 15)), .i .u8 (.c2 .rd (.var 0) (.num 16)), .i .u8 (.c2 .rd (.var 0) (.num 17)), .i .u8 (.c2 .rd (.var 0) (.num 18)), .i .u8 (.c2 .rd (.var 0) (.num 19)), .i .u8 (.c2 .rd (.var 0) (.num 20)), .i .u8 (.c2 .rd (.var 0) (.num 21)), .i .u8 (.c2 .rd (.var 0) (.num 22)), .i .u8 (.c2 .rd (.var 0) (.num 23)), .i .u8 (.c2 .rd (.var 0) (.num 24)), .i .u8 (.c2 .rd (.var 0) (.num 25)), .i .u8 (.c2 .rd (.var 0) (.num 26)), .i .u8 (.c2 .rd (.var 0) (.num 27)), .i .u8 (.c2 .rd (.var 0) (.num 28)), .i .u8 (.c2 .rd (.var 0) (.num 29)), .i .u8 (.c2 .rd (.var 0) (.num 30)), .i .u8 (.c2 .rd (.var 0) (.num 31)), .i .u8 (.c2 .rd (.var 0) (.num 32)), .i .u8 (.c2 .rd (.var 0) (.num 33)), .i .u8 (.c2 .rd (.var 0) (.num 34)), .i .u8 (.c2 .rd (.var 0) (.num 35)), .i .u8 (.c2 .rd (.var 0) (.num 36)), .i .u8 (.c2 .rd (.var 0) (.num 37)), .i .u8 (.c2 .rd (.var 0) (.num 38)), .i .u8 (.c2 .rd (.var 0) (.num 39))], .c (.i .i64 (.num 0))], ⟨[], [], 3, 1, []⟩)))))
theorem treeRdNet6_is : funTree (ctxN Go.Proofs.Tryz.prog annsHd consSum 8) annsHd 80 (tRead 4 60 kNet6).vs (tRead 4 60 kNet6).bs (tRead 4 60 kNet6).n (preF (tRead 4 60 kNet6).res) = treeRdNet6 := by kernel_rfl
end Go.Proofs.YtfhjlimdakphcaaGreat.Sx
set_option maxRecDepth 100000
namespace Go.Proofs.YtfhjlimdakphcaaGreat.Sx
open Go
def treeRrNet6 : M (V × St) :=
(.split (.c2 .lt (.c1 .len (.var 0)) (.num 40))
 (.ret (.t [.g [.i .u8 (.num 0), .i .u32 (.num 0), .i .u8 (.num 0), .i .u8 (.num 0), .i .u8 (.num 0), .i .u8 (.num 0), .i .u8 (.num 0), .i .u8 (.num 0), .i .u8 (.num 0), .i .u8 (.num 0), .i .u8 (.num 0), .i .u8 (.num 0), .i .u8 (.num 0), .i .u8 (.num 0), .i .u8 (.num 0), .i .u8 (.num 0), .i .u8 (.num 0), .i .u8 (.num 0), .i .u8 (.num 0), .i .u8 (.num 0), .i .u8 (.num 0), .i .u8 (.num 0), .i .u8 (.num 0), .i .u8 (.num 0), .i .u8 (.num 0), .i .u8 (.num 0), .i .u8 (.num 0), .i .u8 (.num 0), .i .u8 (.num 0), .i .u8 (.num 0), .i .u8 (.num 0), .i .u8 (.num 0), .i .u8 (.num 0), .i .u8 (.num 0), .i .u8 (.num 0), .i .u8 (.num 0)], .c (.i .i64 (.num 6))], ⟨[], [], 3, 1, []⟩))
 (.split (.c1 .not (.c2 .eq (.c2 .fdiv (.c2 .rd (.var 0) (.num 0)) (.num 16)) (.num 6)))
 (.ret (.t [.g [.i .u8 (.num 0), .i .u32 (.num 0), .i .u8 (.num 0), .i .u8 (.num 0), .i .u8 (.num 0), .i .u8 (.num 0), .i .u8 (.num 0), .i .u8 (.num 0), .i .u8 (.num 0), .i .u8 (.num 0), .i .u8 (.num 0), .i .u8 (.num 0), .i .u8 (.num 0), .i .u8 (.num 0), .i .u8 (.num 0), .i .u8 (.num 0), .i .u8 (.num 0), .i .u8 (.num 0), .i .u8 (.num 0), .i .u8 (.num 0), .i .u8 (.num 0), .i .u8 (.num 0), .i .u8 (.num 0), .i .u8 (.num 0), .i .u8 (.num 0), .i .u8 (.num 0), .i .u8 (.num 0), .i .u8 (.num 0), .i .u8 (.num 0), .i .u8 (.num 0), .i .u8 (.num 0), .i .u8 (.num 0), .i .u8 (.num 0), .i .u8 (.num 0), .i .u8 (.num 0), .i .u8 (.num 0)], .c (.i .i64 (.num 80))], ⟨[], [], 3, 1, []⟩))
 (.split (.c1 .not (.c2 .eq (.c2 .add (.c2 .mul (.c2 .rd (.var 0) (.num 4)) (.num 256)) (.c2 .rd (.var 0) (.num 5))) (.c2 .sub (.c1 .len (.var 0)) (.num 40))))
 (.ret (.t [.g [.i .u8 (.num 0), .i .u32 (.num 0), .i .u8 (.num 0), .i .u8 (.num 0), .i .u8 (.num 0), .i .u8 (.num 0), .i .u8 (.num 0), .i .u8 (.num 0), .i .u8 (.num 0), .i .u8 (.num 0), .i .u8 (.num 0), .i .u8 (.num 0), .i .u8 (.num 0), .i .u8 (.num 0), .i .u8 (.num 0), .i .u8 (.num 0), .i .u8 (.num 0), .i .u8 (.num 0), .i .u8 (.num 0), .i .u8 (.num 0), .i .u8 (.num 0), .i .u8 (.num 0), .i .u8 (.num 0), .i .u8 (.num 0), .i .u8 (.num 0), .i .u8 (.num 0), .i .u8 (.num 0), .i .u8 (.num 0), .i .u8 (.num 0), .i .u8 (.num 0), .i .u8 (.num 0), .i .u8 (.num 0), .i .u8 (.num 0), .i .u8 (.num 0), .i .u8 (.num 0), .i .u8 (.num 0)], .c (.i .i64 (.num 80))], ⟨[], [], 3, 1, []⟩))
 (.ret (.t [.g [.i .u8 (.c2 .sub (.c2 .fdiv (.c2 .add (.c2 .mul (.c2 .add (.c2 .mul (.c2 .add (.c2 .mul (.c2 .rd (.var 0) (.num 0)) (.num 256)) (.c2 .rd (.var 0) (.num 1))) (.num 256)) (.c2 .rd (.var 0) (.num 2))) (.num 256)) (.c2 .rd (.var 0) (.num 3))) (.num 1048576)) (.c2 .mul (.c2 .fdiv (.c2 .fdiv (.c2 .add (.c2 .mul (.c2 .add (.c2 .mul (.c2 .add (.c2 .mul (.c2 .rd (.var 0) (.num 0)) (.num 256)) (.c2 .rd (.var 0) (.num 1))) (.num 256)) (.c2 .rd (.var 0) (.num 2))) (.num 256)) (.c2 .rd (.var 0) (.num 3))) (.num 1048576)) (.num 256)) (.num 256))), .i .u32 (.c2 .sub (.c2 .add (.c2 .mul (.c2 .add (.c2 .mul (.c2 .add (.c2 .mul (.c2 .rd (.var 0) (.num 0)) (.num 256)) (.c2 .rd (.var 0) (.num 1))) (.num 256)) (.c2 .rd (.var 0) (.num 2))) (.num 256)) (.c2 .rd (.var 0) (.num 3))) (.c2 .mul (.c2 .fdiv (.c2 .add (.c2 .mul (.c2 .add (.c2 .mul (.c2 .add (.c2 .mul (.c2 .rd (.var 0) (.num 0)) (.num 256)) (.c2 .rd (.var 0) (.num 1))) (.num 256)) (.c2 .rd (.var 0) (.num 2))) (.num 256)) (.c2 .rd (.var 0) (.num 3))) (.num 1048576)) (.num 1048576))), .i .u8 (.c2 .rd (.var 0) (.num 6)), .i .u8 (.c2 .rd (.var 0) (.num 7)), .i .u8 (.c2 .rd (.var 0) (.num 8)), .i .u8 (.c2 .rd (.var 0) (.num 9)), .i .u8 (.c2 .rd (.var 0) (.num 10)), .i .u8 (.c2 .rd (.var 0) (.num 11)), .i .u8 (.c2 .rd (.var 0) (.num 12)), .i .u8 (.c2 .rd (.var 0) (.num 13)), .i .u8 (.c2 .rd (.var 0) (.num 14)), .i .u8 (.c2 .rd (.var 0) (.num 15)), .i .u8 (.c2 .rd (.var 0) (.num 16)), .i .u8 (.c2 .rd (.var 0) (.num 17)), .i .u8 (.c2 .rd (.var 0) (.num 18)), .i .u8 (.c2 .rd (.var 0) (.num 19)), .i .u8 (.c2 .rd (.var 0) (.num 20)), .i .u8 (.c2 .rd (.var 0) (.num 21)), .i .u8 (.c2 .rd (.var 0) (.num 22)), .i .u8 (.c2 .rd (.var 0) (.num 23)), .i .u8 (.c2 .rd (.var 0) (.num 24)), .i .u8 (.c2 .rd (.var 0) (.num 25)), .i .u8 (.c2 .rd (.var 0) (.num 26)), .i .u8 (.c2 .rd (.var 0) (.num 27)), .i .u8 (.c2 .rd (.var 0) (.num 28)), .i .u8 (.c2 .rd (.var 0) (.num 29)), .i .u8 (.c2 .rd (.var 0) (.num 30)), .i .u8 (.c2 .rd (.var 0) (.num 31)), .i .u8 (.c2 .rd (.var 0) (.num 32)), .i .u8 (.c2 .rd (.var 0) (.num 33)), .i .u8 (.c2 .rd (.var 0) (.num 34)), .i .u8 (.c2 .rd (.var 0) (.num 35)), .i .u8 (.c2 .rd (.var 0) (.num 36)), .i .u8 (.c2 .rd (.var 0) (.num 37)), .i .u8 (.c2 .rd (.var 0) (.num 38)), .i .u8 (.c2 .rd (.var 0) (.num 39))], .c (.i .i64 (.num 0))], ⟨[], [], 4, 1, []⟩)))))
theorem treeRrNet6_is : funTree (ctxN Go.Proofs.Tryz.prog annsHd consSum 8) annsHd 54 (tRead 4 60 kNet6).vs (tRead 4 60 kNet6).bs (tRead 4 60 kNet6).n (preF (tRead 4 60 kNet6).res) = treeRrNet6 := by kernel_rfl
end Go.Proofs.YtfhjlimdakphcaaGreat.Sx
set_option linter.unusedVariables false
set_option linter.unusedSimpArgs false
namespace Go.Proofs.YtfhjlimdakphcaaGreat.Sx
open Go
theorem rdNet6_ok {Φ : Sig} (hΦ : HdSig Φ) : TmplOk Go.Proofs.Tryz.prog Φ 80 (tRead 4 60 kNet6) := by
 refine tmpl_of (consSum_ok hΦ.toSumSig) treeRdNet6_is (fun ρ res hres => ⟨eqJ, ?_⟩)
 obtain ⟨h0, hres⟩ := short_some hres
 obtain ⟨hb, hres⟩ := bytes_some hres
 obtain rfl := ret_some hres
 have hF : T.den Φ ρ (fn1 14 (.var 0)) = .l (rdRow 4 (ρ 0).list) := hΦ.rdRow 4 _ _ _ (by decide) (by decide)
 have hE : T.den Φ ρ (fn1 24 (.var 0)) = .i (rdErr 4 (ρ 0).list) := hΦ.rdErr 4 _ _ _ (by decide) (by decide)
 have b0 := byte_rd hb 0
 have b1 := byte_rd hb 1
 have b2 := byte_rd hb 2
 have b3 := byte_rd hb 3
 have b4 := byte_rd hb 4
 have b5 := byte_rd hb 5
 refine ⟨fun c1 => ?_, fun c1 => ?_⟩
 · simp at c1
   have hz : rdErr 4 (ρ 0).list = 6 := by
     simp only [rdErr, fld1, word, g, Nat.reduceAdd]
     repeat' split
     all_goals first | rfl | omega
   exact leaf_rd_err hF hE rfl hz (by decide) (by decide)
 · refine ⟨fun c2 => ?_, fun c2 => ?_⟩
   · simp at c1 c2
     have hz : rdErr 4 (ρ 0).list = 80 := by
       simp only [rdErr, fld1, word, g, Nat.reduceAdd]
       repeat' split
       all_goals first | rfl | omega
     exact leaf_rd_err hF hE rfl hz (by decide) (by decide)
   · refine ⟨fun c3 => ?_, fun c3 => ?_⟩
     · simp at c1 c2 c3
       have hz : rdErr 4 (ρ 0).list = 80 := by
         simp only [rdErr, fld1, word, g, Nat.reduceAdd]
         repeat' split
         all_goals first | rfl | omega
       exact leaf_rd_err hF hE rfl hz (by decide) (by decide)
     · simp at c1 c2 c3
       have hz : rdErr 4 (ρ 0).list = 0 := by
         simp only [rdErr, fld1, word, g, Nat.reduceAdd]
         repeat' split
         all_goals first | rfl | omega
       refine leaf_rd_good hF hE hz ?_ (by decide)
       refine ⟨rfl, ?_, rfl, ?_, rfl, wrap_byte hb 6, rfl, wrap_byte hb 7, rfl, wrap_byte hb 8, rfl, wrap_byte hb 9, rfl, wrap_byte hb 10, rfl, wrap_byte hb 11, rfl, wrap_byte hb 12, rfl, wrap_byte hb 13, rfl, wrap_byte hb 14, rfl, wrap_byte hb 15, rfl, wrap_byte hb 16, rfl, wrap_byte hb 17, rfl, wrap_byte hb 18, rfl, wrap_byte hb 19, rfl, wrap_byte hb 20, rfl, wrap_byte hb 21, rfl, wrap_byte hb 22, rfl, wrap_byte hb 23, rfl, wrap_byte hb 24, rfl, wrap_byte hb 25, rfl, wrap_byte hb 26, rfl, wrap_byte hb 27, rfl, wrap_byte hb 28, rfl, wrap_byte hb 29, rfl, wrap_byte hb 30, rfl, wrap_byte hb 31, rfl, wrap_byte hb 32, rfl, wrap_byte hb 33, rfl, wrap_byte hb 34, rfl, wrap_byte hb 35, rfl, wrap_byte hb 36, rfl, wrap_byte hb 37, rfl, wrap_byte hb 38, rfl, wrap_byte hb 39, trivial⟩
       all_goals
         refine wrap_eq ?_ ?_ ?_ <;> simp [word, g, kmin, kmax] <;> omega
theorem rrNet6_ok {Φ : Sig} (hΦ : HdSig Φ) : TmplOk Go.Proofs.Tryz.prog Φ 54 (tRead 4 60 kNet6) := by
 refine tmpl_of (consSum_ok hΦ.toSumSig) treeRrNet6_is (fun ρ res hres => ⟨eqJ, ?_⟩)
 obtain ⟨h0, hres⟩ := short_some hres
 obtain ⟨hb, hres⟩ := bytes_some hres
 obtain rfl := ret_some hres
 have hF : T.den Φ ρ (fn1 14 (.var 0)) = .l (rdRow 4 (ρ 0).list) := hΦ.rdRow 4 _ _ _ (by decide) (by decide)
 have hE : T.den Φ ρ (fn1 24 (.var 0)) = .i (rdErr 4 (ρ 0).list) := hΦ.rdErr 4 _ _ _ (by decide) (by decide)
 have b0 := byte_rd hb 0
 have b1 := byte_rd hb 1
 have b2 := byte_rd hb 2
 have b3 := byte_rd hb 3
 have b4 := byte_rd hb 4
 have b5 := byte_rd hb 5
 refine ⟨fun c1 => ?_, fun c1 => ?_⟩
 · simp at c1
   have hz : rdErr 4 (ρ 0).list = 6 := by
     simp only [rdErr, fld1, word, g, Nat.reduceAdd]
     repeat' split
     all_goals first | rfl | omega
   exact leaf_rd_err hF hE rfl hz (by decide) (by decide)
 · refine ⟨fun c2 => ?_, fun c2 => ?_⟩
   · simp at c1 c2
     have hz : rdErr 4 (ρ 0).list = 80 := by
       simp only [rdErr, fld1, word, g, Nat.reduceAdd]
       repeat' split
       all_goals first | rfl | omega
     exact leaf_rd_err hF hE rfl hz (by decide) (by decide)
   · refine ⟨fun c3 => ?_, fun c3 => ?_⟩
     · simp at c1 c2 c3
       have hz : rdErr 4 (ρ 0).list = 80 := by
         simp only [rdErr, fld1, word, g, Nat.reduceAdd]
         repeat' split
         all_goals first | rfl | omega
       exact leaf_rd_err hF hE rfl hz (by decide) (by decide)
     · simp at c1 c2 c3
       have hz : rdErr 4 (ρ 0).list = 0 := by
         simp only [rdErr, fld1, word, g, Nat.reduceAdd]
         repeat' split
         all_goals first | rfl | omega
       refine leaf_rd_good hF hE hz ?_ (by decide)
       refine ⟨rfl, ?_, rfl, ?_, rfl, wrap_byte hb 6, rfl, wrap_byte hb 7, rfl, wrap_byte hb 8, rfl, wrap_byte hb 9, rfl, wrap_byte hb 10, rfl, wrap_byte hb 11, rfl, wrap_byte hb 12, rfl, wrap_byte hb 13, rfl, wrap_byte hb 14, rfl, wrap_byte hb 15, rfl, wrap_byte hb 16, rfl, wrap_byte hb 17, rfl, wrap_byte hb 18, rfl, wrap_byte hb 19, rfl, wrap_byte hb 20, rfl, wrap_byte hb 21, rfl, wrap_byte hb 22, rfl, wrap_byte hb 23, rfl, wrap_byte hb 24, rfl, wrap_byte hb 25, rfl, wrap_byte hb 26, rfl, wrap_byte hb 27, rfl, wrap_byte hb 28, rfl, wrap_byte hb 29, rfl, wrap_byte hb 30, rfl, wrap_byte hb 31, rfl, wrap_byte hb 32, rfl, wrap_byte hb 33, rfl, wrap_byte hb 34, rfl, wrap_byte hb 35, rfl, wrap_byte hb 36, rfl, wrap_byte hb 37, rfl, wrap_byte hb 38, rfl, wrap_byte hb 39, trivial⟩
       all_goals
         refine wrap_eq ?_ ?_ ?_ <;> simp [word, g, kmin, kmax] <;> omega
end Go.Proofs.YtfhjlimdakphcaaGreat.Sx
set_option maxRecDepth 100000
namespace Go.Proofs.YtfhjlimdakphcaaGreat.Sx
open Go
def treeRdSeg : M (V × St) :=
(.split (.c2 .lt (.c1 .len (.var 0)) (.num 20))
 (.ret (.t [.g [.i .u16 (.num 0), .i .u16 (.num 0), .i .u32 (.num 0), .i .u32 (.num 0), .i .u8 (.num 0), .i .u16 (.num 0)], .c (.i .i64 (.num 6))], ⟨[], [], 2, 1, []⟩))
 (.split (.c1 .not (.c2 .eq (.c2 .mul (.c2 .fdiv (.c2 .add (.c2 .mul (.c2 .rd (.var 0) (.num 12)) (.num 256)) (.c2 .rd (.var 0) (.num 13))) (.num 64)) (.num 64)) (.num 20480)))
 (.ret (.t [.g [.i .u16 (.num 0), .i .u16 (.num 0), .i .u32 (.num 0), .i .u32 (.num 0), .i .u8 (.num 0), .i .u16 (.num 0)], .c (.i .i64 (.num 90))], ⟨[], [], 2, 1, []⟩))
 (.split (.c1 .not (.c2 .eq (.c2 .add (.c2 .mul (.c2 .rd (.var 0) (.num 18)) (.num 256)) (.c2 .rd (.var 0) (.num 19))) (.num 0)))
 (.ret (.t [.g [.i .u16 (.num 0), .i .u16 (.num 0), .i .u32 (.num 0), .i .u32 (.num 0), .i .u8 (.num 0), .i .u16 (.num 0)], .c (.i .i64 (.num 90))], ⟨[], [], 2, 1, []⟩))
 (.split (.c1 .not (.c2 .eq (.c2 .add (.c2 .mul (.c2 .rd (.var 0) (.num 16)) (.num 256)) (.c2 .rd (.var 0) (.num 17))) (.c2 .sub (.num 65535) (.wr .u16 (.fn 2 (.c2 .add (.wr .u16 (.fn 1 (.c2 .take (.num 16) (.var 0)) .nil .nil)) (.wr .u16 (.fn 1 (.c2 .drop (.num 18) (.var 0)) .nil .nil))) .nil .nil)))))
 (.ret (.t [.g [.i .u16 (.num 0), .i .u16 (.num 0), .i .u32 (.num 0), .i .u32 (.num 0), .i .u8 (.num 0), .i .u16 (.num 0)], .c (.i .i64 (.num 110))], ⟨[], [], 4, 1, []⟩))
 (.ret (.t [.g [.i .u16 (.c2 .add (.c2 .mul (.c2 .rd (.var 0) (.num 0)) (.num 256)) (.c2 .rd (.var 0) (.num 1))), .i .u16 (.c2 .add (.c2 .mul (.c2 .rd (.var 0) (.num 2)) (.num 256)) (.c2 .rd (.var 0) (.num 3))), .i .u32 (.c2 .add (.c2 .mul (.c2 .add (.c2 .mul (.c2 .rd (.var 0) (.num 4)) (.num 256)) (.c2 .rd (.var 0) (.num 5))) (.num 65536)) (.c2 .add (.c2 .mul (.c2 .rd (.var 0) (.num 6)) (.num 256)) (.c2 .rd (.var 0) (.num 7)))), .i .u32 (.c2 .add (.c2 .mul (.c2 .add (.c2 .mul (.c2 .rd (.var 0) (.num 8)) (.num 256)) (.c2 .rd (.var 0) (.num 9))) (.num 65536)) (.c2 .add (.c2 .mul (.c2 .rd (.var 0) (.num 10)) (.num 256)) (.c2 .rd (.var 0) (.num 11)))), .i .u8 (.c2 .rd (.var 0) (.num 13)), .i .u16 (.c2 .add (.c2 .mul (.c2 .rd (.var 0) (.num 14)) (.num 256)) (.c2 .rd (.var 0) (.num 15)))], .c (.i .i64 (.num 0))], ⟨[], [], 5, 1, []⟩))))))
theorem treeRdSeg_is : funTree (ctxN Go.Proofs.Tryz.prog annsHd consSum 8) annsHd 83 (tRead 5 60 kSeg).vs (tRead 5 60 kSeg).bs (tRead 5 60 kSeg).n (preF (tRead 5 60 kSeg).res) = treeRdSeg := by kernel_rfl
end Go.Proofs.YtfhjlimdakphcaaGreat.Sx
set_option maxRecDepth 100000
namespace Go.Proofs.YtfhjlimdakphcaaGreat.Sx
open Go
def treeRrSeg : M (V × St) :=
(.split (.c2 .lt (.c1 .len (.var 0)) (.num 20))
 (.ret (.t [.g [.i .u16 (.num 0), .i .u16 (.num 0), .i .u32 (.num 0), .i .u32 (.num 0), .i .u8 (.num 0), .i .u16 (.num 0)], .c (.i .i64 (.num 6))], ⟨[], [], 3, 1, []⟩))
 (.split (.c1 .not (.c2 .eq (.c2 .rd (.var 0) (.num 12)) (.num 80)))
 (.ret (.t [.g [.i .u16 (.num 0), .i .u16 (.num 0), .i .u32 (.num 0), .i .u32 (.num 0), .i .u8 (.num 0), .i .u16 (.num 0)], .c (.i .i64 (.num 90))], ⟨[], [], 3, 1, []⟩))
 (.split (.c2 .le (.num 64) (.c2 .rd (.var 0) (.num 13)))
 (.ret (.t [.g [.i .u16 (.num 0), .i .u16 (.num 0), .i .u32 (.num 0), .i .u32 (.num 0), .i .u8 (.num 0), .i .u16 (.num 0)], .c (.i .i64 (.num 90))], ⟨[], [], 3, 1, []⟩))
 (.split (.c1 .not (.c2 .eq (.c2 .rd (.var 0) (.num 18)) (.num 0)))
 (.ret (.t [.g [.i .u16 (.num 0), .i .u16 (.num 0), .i .u32 (.num 0), .i .u32 (.num 0), .i .u8 (.num 0), .i .u16 (.num 0)], .c (.i .i64 (.num 90))], ⟨[], [], 3, 1, []⟩))
 (.split (.c1 .not (.c2 .eq (.c2 .rd (.var 0) (.num 19)) (.num 0)))
 (.ret (.t [.g [.i .u16 (.num 0), .i .u16 (.num 0), .i .u32 (.num 0), .i .u32 (.num 0), .i .u8 (.num 0), .i .u16 (.num 0)], .c (.i .i64 (.num 90))], ⟨[], [], 3, 1, []⟩))
 (.split (.c1 .not (.c2 .eq (.c2 .add (.c2 .mul (.c2 .rd (.var 0) (.num 16)) (.num 256)) (.c2 .rd (.var 0) (.num 17))) (.c2 .sub (.num 65535) (.wr .u16 (.fn 1 (.set (.set (.var 0) (.num 16) (.num 0)) (.num 17) (.num 0)) .nil .nil)))))
 (.ret (.t [.g [.i .u16 (.num 0), .i .u16 (.num 0), .i .u32 (.num 0), .i .u32 (.num 0), .i .u8 (.num 0), .i .u16 (.num 0)], .c (.i .i64 (.num 110))], ⟨[], [], 5, 1, []⟩))
 (.ret (.t [.g [.i .u16 (.c2 .add (.c2 .mul (.c2 .rd (.var 0) (.num 0)) (.num 256)) (.c2 .rd (.var 0) (.num 1))), .i .u16 (.c2 .add (.c2 .mul (.c2 .rd (.var 0) (.num 2)) (.num 256)) (.c2 .rd (.var 0) (.num 3))), .i .u32 (.c2 .add (.c2 .mul (.c2 .add (.c2 .mul (.c2 .add (.c2 .mul (.c2 .rd (.var 0) (.num 4)) (.num 256)) (.c2 .rd (.var 0) (.num 5))) (.num 256)) (.c2 .rd (.var 0) (.num 6))) (.num 256)) (.c2 .rd (.var 0) (.num 7))), .i .u32 (.c2 .add (.c2 .mul (.c2 .add (.c2 .mul (.c2 .add (.c2 .mul (.c2 .rd (.var 0) (.num 8)) (.num 256)) (.c2 .rd (.var 0) (.num 9))) (.num 256)) (.c2 .rd (.var 0) (.num 10))) (.num 256)) (.c2 .rd (.var 0) (.num 11))), .i .u8 (.c2 .rd (.var 0) (.num 13)), .i .u16 (.c2 .add (.c2 .mul (.c2 .rd (.var 0) (.num 14)) (.num 256)) (.c2 .rd (.var 0) (.num 15)))], .c (.i .i64 (.num 0))], ⟨[], [], 6, 1, []⟩))))))))
theorem treeRrSeg_is : funTree (ctxN Go.Proofs.Tryz.prog annsHd consSum 8) annsHd 55 (tRead 5 60 kSeg).vs (tRead 5 60 kSeg).bs (tRead 5 60 kSeg).n (preF (tRead 5 60 kSeg).res) = treeRrSeg := by kernel_rfl
end Go.Proofs.YtfhjlimdakphcaaGreat.Sx
set_option linter.unusedVariables false
set_option linter.unusedSimpArgs false
namespace Go.Proofs.YtfhjlimdakphcaaGreat.Sx
open Go
theorem rdSeg_ok {Φ : Sig} (hΦ : HdSig Φ) : TmplOk Go.Proofs.Tryz.prog Φ 83 (tRead 5 60 kSeg) := by
 refine tmpl_of (consSum_ok hΦ.toSumSig) treeRdSeg_is (fun ρ res hres => ⟨eqJ, ?_⟩)
 obtain ⟨h0, hres⟩ := short_some hres
 obtain ⟨hb, hres⟩ := bytes_some hres
 obtain rfl := ret_some hres
 have hF : T.den Φ ρ (fn1 15 (.var 0)) = .l (rdRow 5 (ρ 0).list) := hΦ.rdRow 5 _ _ _ (by decide) (by decide)
 have hE : T.den Φ ρ (fn1 25 (.var 0)) = .i (rdErr 5 (ρ 0).list) := hΦ.rdErr 5 _ _ _ (by decide) (by decide)
 have b4 := byte_rd hb 4
 have b5 := byte_rd hb 5
 have b6 := byte_rd hb 6
 have b7 := byte_rd hb 7
 have b8 := byte_rd hb 8
 have b9 := byte_rd hb 9
 have b10 := byte_rd hb 10
 have b11 := byte_rd hb 11
 have b12 := byte_rd hb 12
 have b13 := byte_rd hb 13
 have b16 := byte_rd hb 16
 have b17 := byte_rd hb 17
 have b18 := byte_rd hb 18
 have b19 := byte_rd hb 19
 have hS : 20 ≤ (ρ 0).list.length → 65535 - ocs (ocs (wsum ((ρ 0).list.take 16)) + ocs (wsum ((ρ 0).list.drop 18))) = fld (z2 (ρ 0).list 16) := fun hl => fld_at hb 8 (by omega)
 have hZ : ∀ l : List Int, (l.set 16 0).set 17 0 = z2 l 16 := fun _ => rfl
 have hD : ∀ l : List Int, 65535 - ocs (wsum l) = fld l := fun _ => rfl
 refine ⟨fun c1 => ?_, fun c1 => ?_⟩
 · simp at c1
   have hz : rdErr 5 (ρ 0).list = 6 := by
     simp only [rdErr, fld1, word, g, Nat.reduceAdd]
     repeat' split
     all_goals first | rfl | omega
   exact leaf_rd_err hF hE rfl hz (by decide) (by decide)
 · refine ⟨fun c2 => ?_, fun c2 => ?_⟩
   · simp at c1 c2
     have hz : rdErr 5 (ρ 0).list = 90 := by
       simp only [rdErr, fld1, word, g, Nat.reduceAdd]
       repeat' split
       all_goals first | rfl | omega
     exact leaf_rd_err hF hE rfl hz (by decide) (by decide)
   · refine ⟨fun c3 => ?_, fun c3 => ?_⟩
     · simp at c1 c2 c3
       have hz : rdErr 5 (ρ 0).list = 90 := by
         simp only [rdErr, fld1, word, g, Nat.reduceAdd]
         repeat' split
         all_goals first | rfl | omega
       exact leaf_rd_err hF hE rfl hz (by decide) (by decide)
     · refine ⟨fun c4 => ?_, fun c4 => ?_⟩
       · simp at c1 c2 c3
         have hS := hS (by omega)
         simp [hΦ.sum, hΦ.ocs, wrap_ocs, hZ, hD, hS] at c4
         have hz : rdErr 5 (ρ 0).list = 110 := by
           simp only [rdErr, fld1, word, g, Nat.reduceAdd]
           repeat' split
           all_goals first | rfl | omega
         exact leaf_rd_err hF hE rfl hz (by decide) (by decide)
       · simp at c1 c2 c3
         have hS := hS (by omega)
         simp [hΦ.sum, hΦ.ocs, wrap_ocs, hZ, hD, hS] at c4
         have hz : rdErr 5 (ρ 0).list = 0 := by
           simp only [rdErr, fld1, word, g, Nat.reduceAdd]
           repeat' split
           all_goals first | rfl | omega
         refine leaf_rd_good hF hE hz ?_ (by decide)
         refine ⟨rfl, wrap_word hb 0, rfl, wrap_word hb 2, rfl, ?_, rfl, ?_, rfl, wrap_byte hb 13, rfl, wrap_word hb 14, trivial⟩
         all_goals
           refine wrap_eq ?_ ?_ ?_ <;> simp [word, g, kmin, kmax] <;> omega
theorem rrSeg_ok {Φ : Sig} (hΦ : HdSig Φ) : TmplOk Go.Proofs.Tryz.prog Φ 55 (tRead 5 60 kSeg) := by
 refine tmpl_of (consSum_ok hΦ.toSumSig) treeRrSeg_is (fun ρ res hres => ⟨eqJ, ?_⟩)
 obtain ⟨h0, hres⟩ := short_some hres
 obtain ⟨hb, hres⟩ := bytes_some hres
 obtain rfl := ret_some hres
 have hF : T.den Φ ρ (fn1 15 (.var 0)) = .l (rdRow 5 (ρ 0).list) := hΦ.rdRow 5 _ _ _ (by decide) (by decide)
 have hE : T.den Φ ρ (fn1 25 (.var 0)) = .i (rdErr 5 (ρ 0).list) := hΦ.rdErr 5 _ _ _ (by decide) (by decide)
 have b4 := byte_rd hb 4
 have b5 := byte_rd hb 5
 have b6 := byte_rd hb 6
 have b7 := byte_rd hb 7
 have b8 := byte_rd hb 8
 have b9 := byte_rd hb 9
 have b10 := byte_rd hb 10
 have b11 := byte_rd hb 11
 have b12 := byte_rd hb 12
 have b13 := byte_rd hb 13
 have b16 := byte_rd hb 16
 have b17 := byte_rd hb 17
 have b18 := byte_rd hb 18
 have b19 := byte_rd hb 19
 have hS : 20 ≤ (ρ 0).list.length → 65535 - ocs (ocs (wsum ((ρ 0).list.take 16)) + ocs (wsum ((ρ 0).list.drop 18))) = fld (z2 (ρ 0).list 16) := fun hl => fld_at hb 8 (by omega)
 have hZ : ∀ l : List Int, (l.set 16 0).set 17 0 = z2 l 16 := fun _ => rfl
 have hD : ∀ l : List Int, 65535 - ocs (wsum l) = fld l := fun _ => rfl
 refine ⟨fun c1 => ?_, fun c1 => ?_⟩
 · simp at c1
   have hz : rdErr 5 (ρ 0).list = 6 := by
     simp only [rdErr, fld1, word, g, Nat.reduceAdd]
     repeat' split
     all_goals first | rfl | omega
   exact leaf_rd_err hF hE rfl hz (by decide) (by decide)
 · refine ⟨fun c2 => ?_, fun c2 => ?_⟩
   · simp at c1 c2
     have hz : rdErr 5 (ρ 0).list = 90 := by
       simp only [rdErr, fld1, word, g, Nat.reduceAdd]
       repeat' split
       all_goals first | rfl | omega
     exact leaf_rd_err hF hE rfl hz (by decide) (by decide)
   · refine ⟨fun c3 => ?_, fun c3 => ?_⟩
     · simp at c1 c2 c3
       have hz : rdErr 5 (ρ 0).list = 90 := by
         simp only [rdErr, fld1, word, g, Nat.reduceAdd]
         repeat' split
         all_goals first | rfl | omega
       exact leaf_rd_err hF hE rfl hz (by decide) (by decide)
     · refine ⟨fun c4 => ?_, fun c4 => ?_⟩
       · simp at c1 c2 c3 c4
         have hz : rdErr 5 (ρ 0).list = 90 := by
           simp only [rdErr, fld1, word, g, Nat.reduceAdd]
           repeat' split
           all_goals first | rfl | omega
         exact leaf_rd_err hF hE rfl hz (by decide) (by decide)
       · refine ⟨fun c5 => ?_, fun c5 => ?_⟩
         · simp at c1 c2 c3 c4 c5
           have hz : rdErr 5 (ρ 0).list = 90 := by
             simp only [rdErr, fld1, word, g, Nat.reduceAdd]
             repeat' split
             all_goals first | rfl | omega
           exact leaf_rd_err hF hE rfl hz (by decide) (by decide)
         · refine ⟨fun c6 => ?_, fun c6 => ?_⟩
           · simp at c1 c2 c3 c4 c5
             have hS := hS (by omega)
             simp [hΦ.sum, hΦ.ocs, wrap_ocs, hZ, hD, hS] at c6
             have hz : rdErr 5 (ρ 0).list = 110 := by
               simp only [rdErr, fld1, word, g, Nat.reduceAdd]
               repeat' split
               all_goals first | rfl | omega
             exact leaf_rd_err hF hE rfl hz (by decide) (by decide)
           · simp at c1 c2 c3 c4 c5
             have hS := hS (by omega)
             simp [hΦ.sum, hΦ.ocs, wrap_ocs, hZ, hD, hS] at c6
             have hz : rdErr 5 (ρ 0).list = 0 := by
               simp only [rdErr, fld1, word, g, Nat.reduceAdd]
               repeat' split
               all_goals first | rfl | omega
             refine leaf_rd_good hF hE hz ?_ (by decide)
             refine ⟨rfl, wrap_word hb 0, rfl, wrap_word hb 2, rfl, ?_, rfl, ?_, rfl, wrap_byte hb 13, rfl, wrap_word hb 14, trivial⟩
             all_goals
               refine wrap_eq ?_ ?_ ?_ <;> simp [word, g, kmin, kmax] <;> omega
end Go.Proofs.YtfhjlimdakphcaaGreat.Sx
set_option maxRecDepth 100000
namespace Go.Proofs.YtfhjlimdakphcaaGreat.Sx
open Go
def treeRdDgram : M (V × St) :=
(.split (.c2 .lt (.c1 .len (.var 0)) (.num 8))
 (.ret (.t [.g [.i .u16 (.num 0), .i .u16 (.num 0)], .c (.i .i64 (.num 6))], ⟨[], [], 2, 1, []⟩))
 (.split (.c1 .not (.c2 .eq (.c2 .add (.c2 .mul (.c2 .rd (.var 0) (.num 4)) (.num 256)) (.c2 .rd (.var 0) (.num 5))) (.c1 .len (.var 0))))
 (.ret (.t [.g [.i .u16 (.num 0), .i .u16 (.num 0)], .c (.i .i64 (.num 100))], ⟨[], [], 2, 1, []⟩))
 (.split (.c1 .not (.c2 .eq (.c2 .sub (.num 65535) (.wr .u16 (.fn 2 (.c2 .add (.wr .u16 (.fn 1 (.c2 .take (.num 6) (.var 0)) .nil .nil)) (.wr .u16 (.fn 1 (.c2 .drop (.num 8) (.var 0)) .nil .nil))) .nil .nil))) (.num 0)))
 (.split (.c1 .not (.c2 .eq (.c2 .add (.c2 .mul (.c2 .rd (.var 0) (.num 6)) (.num 256)) (.c2 .rd (.var 0) (.num 7))) (.c2 .sub (.num 65535) (.wr .u16 (.fn 2 (.c2 .add (.wr .u16 (.fn 1 (.c2 .take (.num 6) (.var 0)) .nil .nil)) (.wr .u16 (.fn 1 (.c2 .drop (.num 8) (.var 0)) .nil .nil))) .nil .nil)))))
 (.ret (.t [.g [.i .u16 (.num 0), .i .u16 (.num 0)], .c (.i .i64 (.num 110))], ⟨[], [], 4, 1, []⟩))
 (.ret (.t [.g [.i .u16 (.c2 .add (.c2 .mul (.c2 .rd (.var 0) (.num 0)) (.num 256)) (.c2 .rd (.var 0) (.num 1))), .i .u16 (.c2 .add (.c2 .mul (.c2 .rd (.var 0) (.num 2)) (.num 256)) (.c2 .rd (.var 0) (.num 3)))], .c (.i .i64 (.num 0))], ⟨[], [], 5, 1, []⟩)))
 (.split (.c1 .not (.c2 .eq (.c2 .add (.c2 .mul (.c2 .rd (.var 0) (.num 6)) (.num 256)) (.c2 .rd (.var 0) (.num 7))) (.num 65535)))
 (.ret (.t [.g [.i .u16 (.num 0), .i .u16 (.num 0)], .c (.i .i64 (.num 110))], ⟨[], [], 4, 1, []⟩))
 (.ret (.t [.g [.i .u16 (.c2 .add (.c2 .mul (.c2 .rd (.var 0) (.num 0)) (.num 256)) (.c2 .rd (.var 0) (.num 1))), .i .u16 (.c2 .add (.c2 .mul (.c2 .rd (.var 0) (.num 2)) (.num 256)) (.c2 .rd (.var 0) (.num 3)))], .c (.i .i64 (.num 0))], ⟨[], [], 5, 1, []⟩))))))
theorem treeRdDgram_is : funTree (ctxN Go.Proofs.Tryz.prog annsHd consSum 8) annsHd 86 (tRead 6 60 kDgram).vs (tRead 6 60 kDgram).bs (tRead 6 60 kDgram).n (preF (tRead 6 60 kDgram).res) = treeRdDgram := by kernel_rfl
end Go.Proofs.YtfhjlimdakphcaaGreat.Sx
set_option maxRecDepth 100000
namespace Go.Proofs.YtfhjlimdakphcaaGreat.Sx
open Go
def treeRrDgram : M (V × St) :=
(.split (.c2 .lt (.c1 .len (.var 0)) (.num 8))
 (.ret (.t [.g [.i .u16 (.num 0), .i .u16 (.num 0)], .c (.i .i64 (.num 6))], ⟨[], [], 3, 1, []⟩))
 (.split (.c1 .not (.c2 .eq (.c2 .add (.c2 .mul (.c2 .rd (.var 0) (.num 4)) (.num 256)) (.c2 .rd (.var 0) (.num 5))) (.c1 .len (.var 0))))
 (.ret (.t [.g [.i .u16 (.num 0), .i .u16 (.num 0)], .c (.i .i64 (.num 100))], ⟨[], [], 3, 1, []⟩))
 (.split (.c2 .eq (.c2 .sub (.num 65535) (.wr .u16 (.fn 1 (.set (.set (.var 0) (.num 6) (.num 0)) (.num 7) (.num 0)) .nil .nil))) (.num 0))
 (.split (.c1 .not (.c2 .eq (.c2 .add (.c2 .mul (.c2 .rd (.var 0) (.num 6)) (.num 256)) (.c2 .rd (.var 0) (.num 7))) (.num 65535)))
 (.ret (.t [.g [.i .u16 (.num 0), .i .u16 (.num 0)], .c (.i .i64 (.num 110))], ⟨[], [], 5, 1, []⟩))
 (.ret (.t [.g [.i .u16 (.c2 .add (.c2 .mul (.c2 .rd (.var 0) (.num 0)) (.num 256)) (.c2 .rd (.var 0) (.num 1))), .i .u16 (.c2 .add (.c2 .mul (.c2 .rd (.var 0) (.num 2)) (.num 256)) (.c2 .rd (.var 0) (.num 3)))], .c (.i .i64 (.num 0))], ⟨[], [], 6, 1, []⟩)))
 (.split (.c1 .not (.c2 .eq (.c2 .add (.c2 .mul (.c2 .rd (.var 0) (.num 6)) (.num 256)) (.c2 .rd (.var 0) (.num 7))) (.c2 .sub (.num 65535) (.wr .u16 (.fn 1 (.set (.set (.var 0) (.num 6) (.num 0)) (.num 7) (.num 0)) .nil .nil)))))
 (.ret (.t [.g [.i .u16 (.num 0), .i .u16 (.num 0)], .c (.i .i64 (.num 110))], ⟨[], [], 5, 1, []⟩))
 (.ret (.t [.g [.i .u16 (.c2 .add (.c2 .mul (.c2 .rd (.var 0) (.num 0)) (.num 256)) (.c2 .rd (.var 0) (.num 1))), .i .u16 (.c2 .add (.c2 .mul (.c2 .rd (.var 0) (.num 2)) (.num 256)) (.c2 .rd (.var 0) (.num 3)))], .c (.i .i64 (.num 0))], ⟨[], [], 6, 1, []⟩))))))
theorem treeRrDgram_is : funTree (ctxN Go.Proofs.Tryz.prog annsHd consSum 8) annsHd 56 (tRead 6 60 kDgram).vs (tRead 6 60 kDgram).bs (tRead 6 60 kDgram).n (preF (tRead 6 60 kDgram).res) = treeRrDgram := by kernel_rfl
end Go.Proofs.YtfhjlimdakphcaaGreat.Sx
set_option linter.unusedVariables false
set_option linter.unusedSimpArgs false
namespace Go.Proofs.YtfhjlimdakphcaaGreat.Sx
open Go
theorem rdDgram_ok {Φ : Sig} (hΦ : HdSig Φ) : TmplOk Go.Proofs.Tryz.prog Φ 86 (tRead 6 60 kDgram) := by
 refine tmpl_of (consSum_ok hΦ.toSumSig) treeRdDgram_is (fun ρ res hres => ⟨eqJ, ?_⟩)
 obtain ⟨h0, hres⟩ := short_some hres
 obtain ⟨hb, hres⟩ := bytes_some hres
 obtain rfl := ret_some hres
 have hF : T.den Φ ρ (fn1 16 (.var 0)) = .l (rdRow 6 (ρ 0).list) := hΦ.rdRow 6 _ _ _ (by decide) (by decide)
 have hE : T.den Φ ρ (fn1 26 (.var 0)) = .i (rdErr 6 (ρ 0).list) := hΦ.rdErr 6 _ _ _ (by decide) (by decide)
 have b4 := byte_rd hb 4
 have b5 := byte_rd hb 5
 have b6 := byte_rd hb 6
 have b7 := byte_rd hb 7
 have hS : 8 ≤ (ρ 0).list.length → 65535 - ocs (ocs (wsum ((ρ 0).list.take 6)) + ocs (wsum ((ρ 0).list.drop 8))) = fld (z2 (ρ 0).list 6) := fun hl => fld_at hb 3 (by omega)
 have hZ : ∀ l : List Int, (l.set 6 0).set 7 0 = z2 l 6 := fun _ => rfl
 have hD : ∀ l : List Int, 65535 - ocs (wsum l) = fld l := fun _ => rfl
 refine ⟨fun c1 => ?_, fun c1 => ?_⟩
 · simp at c1
   have hz : rdErr 6 (ρ 0).list = 6 := by
     simp only [rdErr, fld1, word, g, Nat.reduceAdd]
     repeat' split
     all_goals first | rfl | omega
   exact leaf_rd_err hF hE rfl hz (by decide) (by decide)
 · refine ⟨fun c2 => ?_, fun c2 => ?_⟩
   · simp at c1 c2
     have hz : rdErr 6 (ρ 0).list = 100 := by
       simp only [rdErr, fld1, word, g, Nat.reduceAdd]
       repeat' split
       all_goals first | rfl | omega
     exact leaf_rd_err hF hE rfl hz (by decide) (by decide)
   · refine ⟨fun c3 => ?_, fun c3 => ?_⟩
     · refine ⟨fun c4 => ?_, fun c4 => ?_⟩
       · simp at c1 c2
         have hS := hS (by omega)
         simp [hΦ.sum, hΦ.ocs, wrap_ocs, hZ, hD, hS] at c3 c4
         have hz : rdErr 6 (ρ 0).list = 110 := by
           simp only [rdErr, fld1, word, g, Nat.reduceAdd]
           repeat' split
           all_goals first | rfl | omega
         exact leaf_rd_err hF hE rfl hz (by decide) (by decide)
       · simp at c1 c2
         have hS := hS (by omega)
         simp [hΦ.sum, hΦ.ocs, wrap_ocs, hZ, hD, hS] at c3 c4
         have hz : rdErr 6 (ρ 0).list = 0 := by
           simp only [rdErr, fld1, word, g, Nat.reduceAdd]
           repeat' split
           all_goals first | rfl | omega
         refine leaf_rd_good hF hE hz ?_ (by decide)
         refine ⟨rfl, wrap_word hb 0, rfl, wrap_word hb 2, trivial⟩
     · refine ⟨fun c5 => ?_, fun c5 => ?_⟩
       · simp at c1 c2 c5
         have hS := hS (by omega)
         simp [hΦ.sum, hΦ.ocs, wrap_ocs, hZ, hD, hS] at c3
         have hz : rdErr 6 (ρ 0).list = 110 := by
           simp only [rdErr, fld1, word, g, Nat.reduceAdd]
           repeat' split
           all_goals first | rfl | omega
         exact leaf_rd_err hF hE rfl hz (by decide) (by decide)
       · simp at c1 c2 c5
         have hS := hS (by omega)
         simp [hΦ.sum, hΦ.ocs, wrap_ocs, hZ, hD, hS] at c3
         have hz : rdErr 6 (ρ 0).list = 0 := by
           simp only [rdErr, fld1, word, g, Nat.reduceAdd]
           repeat' split
           all_goals first | rfl | omega
         refine leaf_rd_good hF hE hz ?_ (by decide)
         refine ⟨rfl, wrap_word hb 0, rfl, wrap_word hb 2, trivial⟩
theorem rrDgram_ok {Φ : Sig} (hΦ : HdSig Φ) : TmplOk Go.Proofs.Tryz.prog Φ 56 (tRead 6 60 kDgram) := by
 refine tmpl_of (consSum_ok hΦ.toSumSig) treeRrDgram_is (fun ρ res hres => ⟨eqJ, ?_⟩)
 obtain ⟨h0, hres⟩ := short_some hres
 obtain ⟨hb, hres⟩ := bytes_some hres
 obtain rfl := ret_some hres
 have hF : T.den Φ ρ (fn1 16 (.var 0)) = .l (rdRow 6 (ρ 0).list) := hΦ.rdRow 6 _ _ _ (by decide) (by decide)
 have hE : T.den Φ ρ (fn1 26 (.var 0)) = .i (rdErr 6 (ρ 0).list) := hΦ.rdErr 6 _ _ _ (by decide) (by decide)
 have b4 := byte_rd hb 4
 have b5 := byte_rd hb 5
 have b6 := byte_rd hb 6
 have b7 := byte_rd hb 7
 have hS : 8 ≤ (ρ 0).list.length → 65535 - ocs (ocs (wsum ((ρ 0).list.take 6)) + ocs (wsum ((ρ 0).list.drop 8))) = fld (z2 (ρ 0).list 6) := fun hl => fld_at hb 3 (by omega)
 have hZ : ∀ l : List Int, (l.set 6 0).set 7 0 = z2 l 6 := fun _ => rfl
 have hD : ∀ l : List Int, 65535 - ocs (wsum l) = fld l := fun _ => rfl
 refine ⟨fun c1 => ?_, fun c1 => ?_⟩
 · simp at c1
   have hz : rdErr 6 (ρ 0).list = 6 := by
     simp only [rdErr, fld1, word, g, Nat.reduceAdd]
     repeat' split
     all_goals first | rfl | omega
   exact leaf_rd_err hF hE rfl hz (by decide) (by decide)
 · refine ⟨fun c2 => ?_, fun c2 => ?_⟩
   · simp at c1 c2
     have hz : rdErr 6 (ρ 0).list = 100 := by
       simp only [rdErr, fld1, word, g, Nat.reduceAdd]
       repeat' split
       all_goals first | rfl | omega
     exact leaf_rd_err hF hE rfl hz (by decide) (by decide)
   · refine ⟨fun c3 => ?_, fun c3 => ?_⟩
     · refine ⟨fun c4 => ?_, fun c4 => ?_⟩
       · simp at c1 c2 c4
         have hS := hS (by omega)
         simp [hΦ.sum, hΦ.ocs, wrap_ocs, hZ, hD, hS] at c3
         have hz : rdErr 6 (ρ 0).list = 110 := by
           simp only [rdErr, fld1, word, g, Nat.reduceAdd]
           repeat' split
           all_goals first | rfl | omega
         exact leaf_rd_err hF hE rfl hz (by decide) (by decide)
       · simp at c1 c2 c4
         have hS := hS (by omega)
         simp [hΦ.sum, hΦ.ocs, wrap_ocs, hZ, hD, hS] at c3
         have hz : rdErr 6 (ρ 0).list = 0 := by
           simp only [rdErr, fld1, word, g, Nat.reduceAdd]
           repeat' split
           all_goals first | rfl | omega
         refine leaf_rd_good hF hE hz ?_ (by decide)
         refine ⟨rfl, wrap_word hb 0, rfl, wrap_word hb 2, trivial⟩
     · refine ⟨fun c5 => ?_, fun c5 => ?_⟩
       · simp at c1 c2
         have hS := hS (by omega)
         simp [hΦ.sum, hΦ.ocs, wrap_ocs, hZ, hD, hS] at c3 c5
         have hz : rdErr 6 (ρ 0).list = 110 := by
           simp only [rdErr, fld1, word, g, Nat.reduceAdd]
           repeat' split
           all_goals first | rfl | omega
         exact leaf_rd_err hF hE rfl hz (by decide) (by decide)
       · simp at c1 c2
         have hS := hS (by omega)
         simp [hΦ.sum, hΦ.ocs, wrap_ocs, hZ, hD, hS] at c3 c5
         have hz : rdErr 6 (ρ 0).list = 0 := by
           simp only [rdErr, fld1, word, g, Nat.reduceAdd]
           repeat' split
           all_goals first | rfl | omega
         refine leaf_rd_good hF hE hz ?_ (by decide)
         refine ⟨rfl, wrap_word hb 0, rfl, wrap_word hb 2, trivial⟩
end Go.Proofs.YtfhjlimdakphcaaGreat.Sx
set_option linter.unusedVariables false
set_option linter.unusedSimpArgs false
namespace Go.Proofs.YtfhjlimdakphcaaGreat.Sx
open Go
theorem consRd_ok {Φ : Sig} (hΦ : HdSig Φ) : ConsOk Go.Proofs.Tryz.prog Φ consRd :=
 moreCons (con_ok (rdLink_ok hΦ)) (moreCons (con_ok (rrLink_ok hΦ)) (moreCons (con_ok (rdTag_ok hΦ)) (moreCons (con_ok (rrTag_ok hΦ)) (moreCons (con_ok (rdNet4_ok hΦ)) (moreCons (con_ok (rrNet4_ok hΦ)) (moreCons (con_ok (rdNet6_ok hΦ)) (moreCons (con_ok (rrNet6_ok hΦ))
   (moreCons (con_ok (rdSeg_ok hΦ)) (moreCons (con_ok (rrSeg_ok hΦ)) (moreCons (con_ok (rdDgram_ok hΦ)) (moreCons (con_ok (rrDgram_ok hΦ)) noCons)))))))))))
section
variable {Φ : Sig} {ρ ρ' : Env}
theorem vars_get (Φ : Sig) (ρ : Env) : ∀ (n b i : Nat), i < n → (T.den Φ ρ (varsT b n)).list[i]? = some (ρ (b + i)).int
 | n + 1, b, 0, _ => rfl
 | n + 1, b, i + 1, h => by
   show (T.den Φ ρ (varsT (b + 1) n)).list[i]? = _
   rw [vars_get Φ ρ n (b + 1) i (by omega), show b + 1 + i = b + (i + 1) from by omega]
theorem ok_back {α : Type} {J : Inv} {B : BK} {i b : Nat} {σ : List T} {P : List D → Prop} {K : BK → Env → α → Prop} (h : P (σ.map (T.den Φ ρ))) : M.ok (α := α) Φ J (.back i b σ) (BK.at_ B b P) ρ K := by
 show (if b = b then _ else _)
 rw [if_pos rfl]; exact h
theorem rd_size {k : Nat} {p : List Int} (h : rdErr k p = 0) : hdSize k ≤ p.length := by
 unfold rdErr at h
 split at h
 · simp only [hdSize]; split at h <;> first | (cases h; done) | omega
 · simp only [hdSize]; split at h <;> first | (cases h; done) | omega
 · simp only [hdSize]; split at h <;> first | (cases h; done) | omega
 · simp only [hdSize]; split at h <;> first | (cases h; done) | omega
 · simp only [hdSize]; split at h <;> first | (cases h; done) | omega
 · simp only [hdSize]; split at h <;> first | (cases h; done) | omega
 · cases h
end
end Go.Proofs.YtfhjlimdakphcaaGreat.Sx
set_option linter.unusedVariables false
namespace Go.Proofs.YtfhjlimdakphcaaGreat.Sx
open Go
def hid (x : O Res) : O Res := .split (.bol true) x (.fail 0)
def kinH (b : Nat) (x : O Res) : O Res := .chk (.c1 (.kin kHead) (varsT b 73)) x
def tSize : Tmpl := ⟨[.c (.i .u8 (.var 0))], [], 1, inR 0 0 255 (.ret ⟨.t [.c (.i .i64 (.fn 73 (.var 0) .nil .nil)), .c (.i .i64 (.fn 74 (.var 0) .nil .nil))], [], 100⟩)⟩
def tCheck : Tmpl := ⟨[headV 0], [], 73, inR 0 0 255 (kinH 0 (.ret ⟨.c (.i .i64 (.fn 72 (varsT 0 73) .nil .nil)), [], 200⟩))⟩
def puErr (h p : T) : T := .fn 70 h p .nil
def puRow (h p : T) : T := .fn 71 h p .nil
def puRes (h p : T) (j nb : Nat) : O Res :=
 .split (.c2 .eq (puErr h p) (.num 0))
   (.chk (.c1 (.kin [.u8]) (puRow h p)) (.chk (.c2 .le (.c1 .len (puRow h p)) (.num 2048)) (.ret ⟨.t [.c (.s j 1 0 (.num 0) (.c1 .len (puRow h p))), .c (.i .i64 (.num 0))], [(j, some ⟨true, .row [.u8] (puRow h p)⟩)], nb⟩)))
   (.ret ⟨.t [.c .sn, .c (.i .i64 (puErr h p))], [], nb⟩)
def tPush (j : Nat) : Tmpl := ⟨[slc 0 73, headV 0], [(0, rowB 73)], 74, inR 0 0 255 (short 73 (bytes 73 (kinH 0 (puRes (varsT 0 73) (.var 73) j 300))))⟩
def poErr (p k : T) : T := .fn 75 p k .nil
def poHead (p k : T) : T := .fn 76 p k .nil
def poRest (p k : T) : T := .fn 77 p k .nil
def zeroC' : List IntKind → List C
 | [] => []
 | k :: ks => .i k (.num 0) :: zeroC' ks
def poRes (p k : T) (j nb : Nat) : O Res :=
 .split (.c2 .eq (poErr p k) (.num 0))
   (.chk (.c1 (.kin [.u8]) (poRest p k)) (.chk (.c2 .le (.c1 .len (poRest p k)) (.c1 .len p)) (.ret ⟨.t [.g (rdCells (poHead p k) 0 kHead), .c (.s j 1 0 (.num 0) (.c1 .len (poRest p k))), .c (.i .i64 (.num 0))], [(j, some ⟨true, .row [.u8] (poRest p k)⟩)], nb⟩)))
   (.ret ⟨.t [.g (zeroC' kHead), .c .sn, .c (.i .i64 (poErr p k))], [], nb⟩)
def tPop (j : Nat) : Tmpl := ⟨[slc 0 0, .c (.i .u8 (.var 1))], [(0, rowB 0)], 2, inR 1 0 255 (short 0 (bytes 0 (poRes (.var 0) (.var 1) j 300)))⟩
def consWr : List (Nat × Con) := [(61, (tBytes 1 6 60 14 kLink).con), (62, (tBytes 2 6 60 4 kTag).con), (63, (tBytes 3 12 60 20 kNet4).con), (64, (tBytes 4 10 60 40 kNet6).con), (65, (tBytes 5 16 60 20 kSeg).con), (66, (tBytes 6 10 60 8 kDgram).con)]
def consW1 : List (Nat × Con) := (39, tClone.con) :: (consWd ++ consRd)
def consW2 : List (Nat × Con) := (39, tClone.con) :: (consWr ++ consRd)
def annsWr : Anns := fun f i S => match f, i with
 | 24, 7 => turnAll 0 12 7 S
 | 23, 10 => turnAll 0 16 6 S
 | _, _ => .unroll 40
def consWl0 : List (Nat × Con) := (14, tEq.con) :: (41, (tPush 74).con) :: (12, (tPush 68).con) :: (28, (tPop 70).con) :: (11, (tPop 68).con) ::
 (22, tSize.con) :: (44, tSize.con) :: (21, tCheck.con) :: (36, tCheck.con) :: []
def consWl : List (Nat × Con) := (17, tTrue.con) :: consWl0
def tWPops : Tmpl := ⟨[slc 0 0, .c (.i .u8 (.var 1))], [(0, rowB 0)], 2, short 0 (bytes 0 (inR 1 0 255 (truth 100000)))⟩
def tWPush : Tmpl := ⟨[slc 0 0, headV 1], [(0, rowB 0)], 74, short 0 (bytes 0 (inKs 1 kHead (truth 100000)))⟩
def tWBack : Tmpl := ⟨[slc 0 0, headV 1, .c (.i .u8 (.var 74))], [(0, rowB 0)], 75, short 0 (bytes 0 (hid (inKs 1 kHead (inR 74 0 255 (truth 100000)))))⟩
end Go.Proofs.YtfhjlimdakphcaaGreat.Sx
set_option linter.unusedVariables false
set_option linter.unusedSimpArgs false
namespace Go.Proofs.YtfhjlimdakphcaaGreat.Sx
open Go Go.RowKit
def swN (a b j : Nat) : Nat := if j = a then b else if j = b then a else j
def swC (a b : Nat) : C → C
 | .p j e st r => .p (swN a b j) e st r
 | .s j st r o l => .s (swN a b j) st r o l
 | c => c
def swL (a b : Nat) : List C → List C
 | [] => []
 | c :: cs => swC a b c :: swL a b cs
def swW (a b : Nat) : W → W
 | .c x => .c (swC a b x)
 | .g xs => .g (swL a b xs)
def swWs (a b : Nat) : List W → List W
 | [] => []
 | c :: cs => swW a b c :: swWs a b cs
def swV (a b : Nat) : V → V
 | .w x => .w (swW a b x)
 | .t xs => .t (swWs a b xs)
 | .u => .u
def swB (a b : Nat) : Blk → Blk
 | .cells xs => .cells (swL a b xs)
 | .row ks l => .row ks l
 | .mix ks l => .mix ks l
def swO (a b : Nat) : Option MB → Option MB
 | some m => some ⟨m.rw, swB a b m.k⟩
 | none => none
def swE (a b : Nat) : List (Nat × Option MB) → List (Nat × Option MB)
 | [] => []
 | (j, m) :: l => (swN a b j, swO a b m) :: swE a b l
def swM (a b : Nat) (β : Map) : Map := fun j => β (swN a b j)
section
variable {E : Ev} {β β' : Map} {w w' : World} {a b nb nb' : Nat}
theorem swN_twice (a b j : Nat) : swN a b (swN a b j) = j := by
 unfold swN
 repeat' split
 all_goals first | omega | (subst_vars; omega) | (subst_vars; contradiction) | rfl
theorem swN_inj {i j : Nat} (h : swN a b i = swN a b j) : i = j := by rw [← swN_twice a b i, h, swN_twice]
theorem swN_old (ha : isNew nb nb' a) (hb : isNew nb nb' b) {j : Nat} (h : ¬ isNew nb nb' j) : swN a b j = j := by
 unfold swN
 rw [if_neg (fun e : j = a => h (by rw [e]; exact ha)), if_neg (fun e : j = b => h (by rw [e]; exact hb))]
theorem swN_new (ha : isNew nb nb' a) (hb : isNew nb nb' b) {j : Nat} : isNew nb nb' (swN a b j) ↔ isNew nb nb' j := by
 unfold swN
 split
 · rename_i e; subst e; exact ⟨fun _ => ha, fun _ => hb⟩
 · split
   · rename_i e; subst e; exact ⟨fun _ => hb, fun _ => ha⟩
   · rfl
theorem swM_at (β : Map) (j : Nat) : swM a b β (swN a b j) = β j := by rw [swM, swN_twice]
theorem swC_rep {c : C} {v : Value} (h : c.rep E β v) : (swC a b c).rep E (swM a b β) v := by
 cases c <;> first | exact h | (simp only [swC, C.rep, swM_at] at h ⊢; exact h)
theorem swL_rep : ∀ {cs : List C} {vs : List Value}, repL E β cs vs → repL E (swM a b β) (swL a b cs) vs
 | [], [], _ => trivial
 | c :: cs, v :: vs, h => ⟨swC_rep h.1, swL_rep h.2⟩
 | [], _ :: _, h => h.elim
 | _ :: _, [], h => h.elim
theorem swW_rep {c : W} {v : Value} (h : c.rep E β v) : (swW a b c).rep E (swM a b β) v := by
 cases c with
 | c x => exact swC_rep h
 | g xs => obtain ⟨cs, e, h⟩ := h; exact ⟨cs, e, swL_rep h⟩
theorem swWs_rep : ∀ {cs : List W} {vs : List Value}, repWs E β cs vs → repWs E (swM a b β) (swWs a b cs) vs
 | [], [], _ => trivial
 | c :: cs, v :: vs, h => ⟨swW_rep h.1, swWs_rep h.2⟩
 | [], _ :: _, h => h.elim
 | _ :: _, [], h => h.elim
theorem swV_rep {c : V} {v : Value} (h : c.rep E β v) : (swV a b c).rep E (swM a b β) v := by
 cases c with
 | w x => exact swW_rep h
 | t xs => obtain ⟨cs, e, h⟩ := h; exact ⟨cs, e, swWs_rep h⟩
 | u => trivial
theorem swL_get : ∀ {cs : List C} {i : Nat} {x : C}, (swL a b cs)[i]? = some x → ∃ c, cs[i]? = some c ∧ x = swC a b c
 | c :: cs, 0, x, h => by simp [swL] at h; exact ⟨c, rfl, h.symm⟩
 | c :: cs, i + 1, x, h => by simp only [swL, List.getElem?_cons_succ] at h; obtain ⟨y, h1, h2⟩ := swL_get h; exact ⟨y, by simpa using h1, h2⟩
 | [], _, _, h => by simp [swL] at h
theorem swL_len : ∀ (cs : List C), (swL a b cs).length = cs.length
 | [] => rfl
 | c :: cs => by simp [swL, swL_len cs]
theorem swB_rep {k : Blk} {pl : Place} (h : k.rep E β w pl) : (swB a b k).rep E (swM a b β) w pl := by
 cases k with
 | row ks l => exact h
 | mix ks l => exact h
 | cells xs =>
   refine ⟨by show (swL a b xs).length ≤ _; rw [swL_len]; exact h.1, fun i x hx => ?_⟩
   obtain ⟨c, h1, rfl⟩ := swL_get hx
   obtain ⟨v, h2, h3⟩ := h.2 i c h1
   exact ⟨v, h2, swC_rep h3⟩
theorem hasK_sw : ∀ (e : List (Nat × Option MB)) (j : Nat), hasK (swE a b e) (swN a b j) = hasK e j
 | [], j => rfl
 | (k, m) :: e, j => by
   simp only [swE, hasK, hasK_sw e j]
   by_cases h : k = j
   · subst h; simp
   · have h2 : swN a b k ≠ swN a b j := fun e => h (swN_inj e)
     have e1 : Nat.beq k j = false := by rw [← Bool.not_eq_true]; exact fun e => h (Nat.eq_of_beq_eq_true e)
     have e2 : Nat.beq (swN a b k) (swN a b j) = false := by rw [← Bool.not_eq_true]; exact fun e => h2 (Nat.eq_of_beq_eq_true e)
     rw [e1, e2]
theorem lookM_sw : ∀ (e : List (Nat × Option MB)) (j : Nat), lookM (swE a b e) (swN a b j) = swO a b (lookM e j)
 | [], j => rfl
 | (k, m) :: e, j => by
   simp only [swE, lookM]
   by_cases h : k = j
   · subst h; simp
   · have h2 : swN a b k ≠ swN a b j := fun e => h (swN_inj e)
     rw [if_neg (fun e => h (Nat.eq_of_beq_eq_true e)), if_neg (fun e => h2 (Nat.eq_of_beq_eq_true e)), lookM_sw e j]
theorem lookM_sw2 {e : List (Nat × Option MB)} {j : Nat} {m : MB} (h : lookM (swE a b e) j = some m) : ∃ m0, lookM e (swN a b j) = some m0 ∧ m = ⟨m0.rw, swB a b m0.k⟩ := by
 have := lookM_sw (a := a) (b := b) e (swN a b j)
 rw [swN_twice, h] at this
 cases hm : lookM e (swN a b j) with
 | none => rw [hm] at this; cases this
 | some m0 => rw [hm] at this; injection this with this; exact ⟨m0, rfl, this⟩
theorem hasK_sw2 (e : List (Nat × Option MB)) (j : Nat) : hasK (swE a b e) j = hasK e (swN a b j) := by rw [← hasK_sw (a := a) (b := b) e (swN a b j), swN_twice]
theorem lookM_sw3 {e : List (Nat × Option MB)} {j : Nat} (h : lookM e j = none) : lookM (swE a b e) (swN a b j) = none := by rw [lookM_sw, h]; rfl
theorem StepR.swap {bs : Nat → Option MB} {eff : List (Nat × Option MB)} (h : StepR E bs β w nb eff nb' β' w') (hf : ∀ j, nb ≤ j → β j = none) (ha : isNew nb nb' a) (hb : isNew nb nb' b) : StepR E bs β w nb (swE a b eff) nb' (swM a b β') w' where
 ge := h.ge
 le := fun j pl hj => by
   have : ¬ isNew nb nb' j := fun hn => by rw [hf j hn.1] at hj; cases hj
   rw [swM, swN_old ha hb this]; exact h.le j pl hj
 old := fun j hn => by rw [swM, swN_old ha hb hn]; exact h.old j hn
 os := h.os
 tape := h.tape
 output := h.output
 size := h.size
 kept := fun c hc hk => h.kept c hc (fun j pl hj hn hp => hk j pl (by rw [hasK_sw2, swN_old ha hb hn]; exact hj) hn hp)
 mem := fun j m hm => by
   obtain ⟨m0, h1, rfl⟩ := lookM_sw2 hm
   obtain ⟨pl, h2, h3, h4⟩ := h.mem _ m0 h1
   exact ⟨pl, h2, swB_rep h3, h4⟩
 wr := fun j hj hn => by
   rw [hasK_sw2, swN_old ha hb hn] at hj
   exact h.wr j hj hn
 new := fun j pl hn hj hs => by
   obtain ⟨h1, h2⟩ := h.new (swN a b j) pl ((swN_new ha hb).mpr hn) hj hs
   refine ⟨h1, h2.imp id ?_⟩
   rintro ⟨k, pk, a1, a2, a3, a4, a5⟩
   refine ⟨k, pk, by rw [hasK_sw2, swN_old ha hb a3]; exact a1, ?_, a3, a4, a5⟩
   have := lookM_sw3 (a := a) (b := b) a2
   rwa [swN_old ha hb a3] at this
 excl := fun j j' m m' pl pl' hne hn hn' hj hj' hrw hp hp' => by
   obtain ⟨m0, h1, rfl⟩ := lookM_sw2 hj
   obtain ⟨m1, h2, rfl⟩ := lookM_sw2 hj'
   exact h.excl (swN a b j) (swN a b j') m0 m1 pl pl' (fun e => hne (swN_inj e)) ((swN_new ha hb).mpr hn) ((swN_new ha hb).mpr hn') h1 h2 hrw hp hp'
end
def LeafS (lo : Nat) (Φ : Sig) (ρ ρ' : Env) (res : Res) (r : V × St) : Prop :=
 ∃ a b, lo ≤ a ∧ a < res.nb ∧ lo ≤ b ∧ b < res.nb ∧ Leaf Φ ρ ρ' res (swV a b r.1, { r.2 with me := swE a b r.2.me })
theorem tmpl_sw {P : Program} {Φ : Sig} {A : Anns} {cons : List (Nat × Con)} {d : Nat} {f : FuncId} {t : Tmpl} {tree : M (V × St)} (hcons : ConsOk P Φ cons) (hev : funTree (ctxN P A cons d) A f t.vs t.bs t.n (preF t.res) = tree)
   (h : ∀ ρ res, t.res.val (T.den Φ ρ) = some res → ∃ J, tree.ok Φ J (fun _ _ => False) ρ (fun _ ρ' r => LeafS (lenN t.bs) Φ ρ ρ' res r)) : TmplOk P Φ f t := by
 intro ρ res hres args β w hargs hb hm hfree
 obtain ⟨J, hok⟩ := h ρ res hres
 rw [← hev] at hok
 have hX : CallOk (ctxN P A cons d).P Φ (ctxN P A cons d).call := by rw [ctxN_P]; exact ctxN_ok hcons d
 have hc := fun_sound hX (M.ok_bind hok) (preF_ok hres) hargs hb hm hfree
 rw [ctxN_P] at hc
 refine Calls.mono hc ?_
 rintro e w' ⟨x, v, B', ρ', S', β', rfl, ⟨a, b, a1, a2, b1, b2, k1, k2, k3⟩, hv, hd, _⟩
 have st := ((hd.step (v := v) hfree).grow hfree hd.free k3).swap hfree (a := a) (b := b) ⟨a1, a2⟩ ⟨b1, b2⟩
 exact ⟨x, swM a b β', rfl, eqV_rep k1 (swV_rep hv), st.same k2⟩
section
variable {E : Ev} {β β' : Map} {w w' : World} {nb nb' : Nat} {bs : Nat → Option MB} {eff : List (Nat × Option MB)}
theorem StepR.giveUp (h : StepR E bs β w nb eff nb' β' w') {k : Nat} (hk : ¬ isNew nb nb' k) (hb : ∃ m, bs k = some m ∧ m.rw = true) (hn : hasK eff k = false) : StepR E bs β w nb (eff ++ [(k, none)]) nb' β' w' where
 ge := h.ge
 le := h.le
 old := h.old
 os := h.os
 tape := h.tape
 output := h.output
 size := h.size
 kept := fun b hlt hx => h.kept b hlt (fun j pl hj => hx j pl (by rw [hasK_append, hj]; rfl))
 mem := fun j m hm => by
   rw [lookM_append] at hm
   split at hm
   · exact h.mem j m hm
   · simp only [lookM] at hm
     split at hm <;> cases hm
 wr := fun j hj hnew => by
   rw [hasK_append, Bool.or_eq_true] at hj
   rcases hj with hj | hj
   · exact h.wr j hj hnew
   · simp only [hasK, Bool.or_false] at hj
     rw [← Nat.eq_of_beq_eq_true hj]; exact hb
 new := fun j pl hj hp hs => by
   obtain ⟨h1, h2⟩ := h.new j pl hj hp hs
   refine ⟨h1, h2.imp id ?_⟩
   rintro ⟨i, pi, a1, a2, a3⟩
   exact ⟨i, pi, by rw [hasK_append, a1]; rfl, by rw [lookM_append, a1]; exact a2, a3⟩
 excl := fun j j' m m' pl pl' hne hj hj' hm hm' => by
   have key : ∀ {i : Nat} {x : MB}, lookM (eff ++ [(k, none)]) i = some x → lookM eff i = some x := by
     intro i x hx
     rw [lookM_append] at hx
     split at hx
     · exact hx
     · simp only [lookM] at hx
       split at hx <;> cases hx
   exact h.excl j j' m m' pl pl' hne hj hj' (key hm) (key hm')
def mvM (k n : Nat) (β : Map) : Map := fun j => if j = n then β k else β j
theorem mvM_at {k n : Nat} {β : Map} (hn : β n = none) (i : Nat) {pl : Place} (hi : β i = some pl) : mvM k n β (swN k n i) = some pl := by
 unfold mvM swN
 by_cases h1 : i = k
 · subst h1; rw [if_pos rfl, if_pos rfl]; exact hi
 · rw [if_neg h1]
   by_cases h2 : i = n
   · subst h2; rw [hn] at hi; cases hi
   · rw [if_neg h2, if_neg h2]; exact hi
section
variable {k n : Nat}
theorem mvC_rep (hn : β n = none) {c : C} {v : Value} (h : c.rep E β v) : (swC k n c).rep E (mvM k n β) v := by
 cases c <;> first | exact h | (simp only [swC, C.rep] at h ⊢; obtain ⟨pl, h1, h2⟩ := h; exact ⟨pl, mvM_at hn _ h1, h2⟩)
theorem mvL_rep (hn : β n = none) : ∀ {cs : List C} {vs : List Value}, repL E β cs vs → repL E (mvM k n β) (swL k n cs) vs
 | [], [], _ => trivial
 | c :: cs, v :: vs, h => ⟨mvC_rep hn h.1, mvL_rep hn h.2⟩
 | [], _ :: _, h => h.elim
 | _ :: _, [], h => h.elim
theorem mvW_rep (hn : β n = none) {c : W} {v : Value} (h : c.rep E β v) : (swW k n c).rep E (mvM k n β) v := by
 cases c with
 | c x => exact mvC_rep hn h
 | g xs => obtain ⟨cs, e, h⟩ := h; exact ⟨cs, e, mvL_rep hn h⟩
theorem mvWs_rep (hn : β n = none) : ∀ {cs : List W} {vs : List Value}, repWs E β cs vs → repWs E (mvM k n β) (swWs k n cs) vs
 | [], [], _ => trivial
 | c :: cs, v :: vs, h => ⟨mvW_rep hn h.1, mvWs_rep hn h.2⟩
 | [], _ :: _, h => h.elim
 | _ :: _, [], h => h.elim
theorem mvV_rep (hn : β n = none) {c : V} {v : Value} (h : c.rep E β v) : (swV k n c).rep E (mvM k n β) v := by
 cases c with
 | w x => exact mvW_rep hn h
 | t xs => obtain ⟨cs, e, h⟩ := h; exact ⟨cs, e, mvWs_rep hn h⟩
 | u => trivial
theorem mvB_rep (hn : β n = none) {b : Blk} {pl : Place} (h : b.rep E β w pl) : (swB k n b).rep E (mvM k n β) w pl := by
 cases b with
 | row ks l => exact h
 | mix ks l => exact h
 | cells xs =>
   refine ⟨by show (swL k n xs).length ≤ _; rw [swL_len]; exact h.1, fun i x hx => ?_⟩
   obtain ⟨c, h1, rfl⟩ := swL_get hx
   obtain ⟨v, h2, h3⟩ := h.2 i c h1
   exact ⟨v, h2, mvC_rep hn h3⟩
end
theorem StepR.move (h : StepR E bs β w nb eff nb' β' w') (hf : ∀ j, nb ≤ j → β j = none) (hf' : ∀ j, nb' ≤ j → β' j = none) (hin : inHeap β w) {E0 : Ev} (hm0 : memRep E0 β w bs) {k : Nat} (hk : k < nb) {mk : MB} (he : lookM eff k = some mk) (hke : hasK eff k = true) (hne : hasK eff nb' = false) (hrw : mk.rw = true) :
   StepR E bs β w nb (swE k nb' eff ++ [(k, none)]) (nb' + 1) (mvM k nb' β') w' := by
 have hge := h.ge
 have hkn : ∀ {x}, ¬ isNew nb x k := fun hn => by have := hn.1; omega
 have hfree : β' nb' = none := hf' nb' (Nat.le_refl _)
 have hkey : ∀ j, j ≠ k → j ≠ nb' → hasK (swE k nb' eff) j = hasK eff j := fun j h1 h2 => by rw [hasK_sw2]; unfold swN; rw [if_neg h1, if_neg h2]
 have hat : ∀ j, j ≠ k → j ≠ nb' → swN k nb' j = j := fun j h1 h2 => by unfold swN; rw [if_neg h1, if_neg h2]
 have hswk : hasK (swE k nb' eff) k = false := by rw [hasK_sw2]; unfold swN; rw [if_pos rfl]; exact hne
 have hlk : lookM (swE k nb' eff ++ [(k, none)]) k = none := by
   rw [lookM_append, hswk]; simp [lookM]
 have hlo : ∀ j, j ≠ k → lookM (swE k nb' eff ++ [(k, none)]) j = lookM (swE k nb' eff) j := fun j hj => by
   rw [lookM_append]
   split
   · rfl
   · rename_i hh
     have h1 : lookM (swE k nb' eff) j = none := lookM_none (by simpa using hh)
     have h2 : Nat.beq k j = false := by rw [← Bool.not_eq_true]; exact fun e => hj (Nat.eq_of_beq_eq_true e).symm
     rw [h1, lookM, h2]; rfl
 have hsub : ∀ {j m}, j ≠ k → lookM (swE k nb' eff ++ [(k, none)]) j = some m → ∃ m0, lookM eff (swN k nb' j) = some m0 ∧ m = ⟨m0.rw, swB k nb' m0.k⟩ := fun hj hm => by rw [hlo _ hj] at hm; exact lookM_sw2 hm
 obtain ⟨mb, hbk, hbrw⟩ := h.wr k hke hkn
 obtain ⟨pk, hpk, hpr⟩ := hm0.1 k mb hbk
 have hpk' : β' k = some pk := h.le k pk hpk
 refine { ge := by omega, le := fun j pl hj => ?_, old := fun j hj => ?_, os := h.os, tape := h.tape, output := h.output, size := h.size, kept := fun b hlt hx => h.kept b hlt (fun j pl hj hn hp hs => ?_), mem := fun j m hj => ?_, wr := fun j hj hn => ?_, new := fun j pl hn hp hs => ?_, excl := fun j j' m m' pl pl' hjj hn hn' hl hl' hr hp hp' hs hs' => ?_ }
 · unfold mvM
   rw [if_neg (fun e => by rw [e, hf nb' hge] at hj; cases hj)]
   exact h.le j pl hj
 · unfold mvM
   have hj1 : j ≠ nb' := fun e => hj ⟨by omega, by omega⟩
   rw [if_neg hj1]
   exact h.old j (fun hn => hj ⟨hn.1, by have := hn.2; omega⟩)
 · have hlt2 : j < nb := by
     rcases Nat.lt_or_ge j nb with h1 | h1
     · exact h1
     · rw [hf j h1] at hp; cases hp
   by_cases hjk : j = k
   · subst hjk
     exact hx j pl (by rw [hasK_append]; simp [hasK]) (fun hh => by have := hh.1; omega) hp hs
   · exact hx j pl (by rw [hasK_append, hkey j hjk (by omega), hj]; rfl) (fun hh => by have := hh.1; omega) hp hs
 · by_cases hjk : j = k
   · subst hjk; rw [hlk] at hj; cases hj
   · obtain ⟨m0, h1, rfl⟩ := hsub hjk hj
     obtain ⟨pl, h2, h3, h4⟩ := h.mem _ m0 h1
     have := mvM_at (k := k) hfree _ h2
     rw [swN_twice] at this
     exact ⟨pl, this, mvB_rep hfree h3, h4⟩
 · rw [hasK_append, Bool.or_eq_true] at hj
   by_cases hjk : j = k
   · subst hjk; exact ⟨mb, hbk, hbrw⟩
   · rcases hj with hj | hj
     · have hjn : j ≠ nb' := fun e => hn ⟨by omega, by omega⟩
       rw [hkey j hjk hjn] at hj
       exact h.wr j hj (fun hh => hn ⟨hh.1, by have := hh.2; omega⟩)
     · simp only [hasK, Bool.or_false] at hj
       exact absurd (Nat.eq_of_beq_eq_true hj).symm hjk
 · have hjk : j ≠ k := fun e => by have := hn.1; omega
   by_cases hjn : j = nb'
   · subst hjn
     have hpe : pl = pk := by
       unfold mvM at hp
       rw [if_pos rfl, hpk'] at hp
       injection hp with hp; exact hp.symm
     subst hpe
     refine ⟨Nat.lt_of_lt_of_le (hin k pl hpk hs) h.size, .inr ⟨k, pl, by rw [hasK_append]; simp [hasK], hlk, hkn, hpk, hs, rfl⟩⟩
   · have hp' : β' j = some pl := by unfold mvM at hp; rwa [if_neg hjn] at hp
     obtain ⟨h1, h2⟩ := h.new j pl ⟨hn.1, by have := hn.2; omega⟩ hp' hs
     refine ⟨h1, h2.imp id ?_⟩
     rintro ⟨i, pi, a1, a2, a3, a4, a5⟩
     have hik : i ≠ k := fun e => by rw [e, he] at a2; cases a2
     have hilt : i < nb := by
       rcases Nat.lt_or_ge i nb with h1 | h1
       · exact h1
       · rw [hf i h1] at a4; cases a4
     refine ⟨i, pi, by rw [hasK_append, hkey i hik (by omega), a1]; rfl, ?_, fun hh => by have := hh.1; omega, a4, a5⟩
     rw [hlo i hik, ← hat i hik (by omega), lookM_sw, a2]; rfl
 · have hjk : j ≠ k := fun e => by have := hn.1; omega
   have hjk' : j' ≠ k := fun e => by have := hn'.1; omega
   obtain ⟨m0, a1, a2⟩ := hsub hjk hl
   obtain ⟨m0', b1, b2⟩ := hsub hjk' hl'
   have far : ∀ {i : Nat} {pi : Place}, i ≠ nb' → isNew nb (nb' + 1) i → mvM k nb' β' i = some pi → pi.sz ≠ 0 → pk.sz ≠ 0 → pi.b ≠ pk.b := by
     intro i pi hi hin' hpi hsi hsk e
     have hpi' : β' i = some pi := by unfold mvM at hpi; rwa [if_neg hi] at hpi
     obtain ⟨_, h2⟩ := h.new i pi ⟨hin'.1, by have := hin'.2; omega⟩ hpi' hsi
     rcases h2 with h2 | ⟨q, pq, c1, c2, c3, c4, c5, c6⟩
     · have := hin k pk hpk hsk
       omega
     · have hqk : q ≠ k := fun e => by rw [e, he] at c2; cases c2
       obtain ⟨mq, hmq, hmr⟩ := h.wr q c1 c3
       have := hm0.2 k q mb mq pk pq (fun e => hqk e.symm) hbk hmq hbrw hpk c4 hsk c5
       exact this (by rw [← e, c6])
   by_cases hjn : j = nb'
   · subst hjn
     have hpe : pl = pk := by
       unfold mvM at hp
       rw [if_pos rfl, hpk'] at hp
       injection hp with hp; exact hp.symm
     subst hpe
     exact fun e => far (fun e => hjj e.symm) hn' hp' hs' hs e.symm
   · by_cases hjn' : j' = nb'
     · subst hjn'
       have hpe : pl' = pk := by
         unfold mvM at hp'
         rw [if_pos rfl, hpk'] at hp'
         injection hp' with hp'; exact hp'.symm
       subst hpe
       exact far hjn hn hp hs hs'
     · rw [hat j hjk hjn] at a1
       rw [hat j' hjk' hjn'] at b1
       have q1 : β' j = some pl := by unfold mvM at hp; rwa [if_neg hjn] at hp
       have q2 : β' j' = some pl' := by unfold mvM at hp'; rwa [if_neg hjn'] at hp'
       exact h.excl j j' m0 m0' pl pl' hjj ⟨hn.1, by have := hn.2; omega⟩ ⟨hn'.1, by have := hn'.2; omega⟩ a1 b1 (by rw [a2] at hr; exact hr) q1 q2 hs hs'
end
def LeafG (bs : Bs) (k : Nat) (Φ : Sig) (ρ ρ' : Env) (res : Res) (r : V × St) : Prop :=
 Leaf Φ ρ ρ' res r ∨
 (k < lenN bs ∧ (∃ m, look bs k = some m ∧ m.rw = true) ∧ hasK r.2.me k = false ∧ Leaf Φ ρ ρ' res (r.1, { r.2 with me := r.2.me ++ [(k, none)] })) ∨
 (k < lenN bs ∧ (∃ m, lookM r.2.me k = some m ∧ m.rw = true) ∧ hasK r.2.me k = true ∧ hasK r.2.me r.2.nb = false ∧ Leaf Φ ρ ρ' res (swV k r.2.nb r.1, { r.2 with me := swE k r.2.nb r.2.me ++ [(k, none)], nb := r.2.nb + 1 }))
theorem tmpl_gv {P : Program} {Φ : Sig} {A : Anns} {cons : List (Nat × Con)} {d : Nat} {f : FuncId} {t : Tmpl} {tree : M (V × St)} (k : Nat) (hcons : ConsOk P Φ cons) (hev : funTree (ctxN P A cons d) A f t.vs t.bs t.n (preF t.res) = tree)
   (h : ∀ ρ res, t.res.val (T.den Φ ρ) = some res → ∃ J, tree.ok Φ J (fun _ _ => False) ρ (fun _ ρ' r => LeafG t.bs k Φ ρ ρ' res r)) : TmplOk P Φ f t := by
 intro ρ res hres args β w hargs hb hm hfree
 obtain ⟨J, hok⟩ := h ρ res hres
 rw [← hev] at hok
 have hX : CallOk (ctxN P A cons d).P Φ (ctxN P A cons d).call := by rw [ctxN_P]; exact ctxN_ok hcons d
 have hc := fun_sound hX (M.ok_bind hok) (preF_ok hres) hargs hb hm hfree
 rw [ctxN_P] at hc
 refine Calls.mono hc ?_
 rintro e w' ⟨x, v, B', ρ', S', β', rfl, hl, hv, hd, _⟩
 have st0 := hd.step (v := v) hfree
 rcases hl with ⟨k1, k2, k3⟩ | ⟨hk, hbk, hno, k1, k2, k3⟩ | ⟨hk, ⟨mk, hmk, hrk⟩, hke, hne, k1, k2, k3⟩
 · exact ⟨x, β', rfl, eqV_rep k1 hv, (st0.same k2).grow hfree hd.free k3⟩
 · exact ⟨x, β', rfl, eqV_rep k1 hv, ((st0.giveUp (k := k) (fun hn => by have := hn.1; omega) hbk hno).same k2).grow hfree hd.free k3⟩
 · have st1 := st0.move hfree hd.free hb hm hk hmk hke hne hrk
   refine ⟨x, _, rfl, eqV_rep k1 (mvV_rep (hd.free _ (Nat.le_refl _)) hv), (st1.same k2).grow hfree (fun j hj => ?_) k3⟩
   unfold mvM
   rw [if_neg (fun e => by rw [e] at hj; exact absurd hj (Nat.not_succ_le_self _))]
   exact hd.free j (Nat.le_of_succ_le hj)
end Go.Proofs.YtfhjlimdakphcaaGreat.Sx
set_option linter.unusedVariables false
set_option linter.unusedSimpArgs false
namespace Go.Proofs.YtfhjlimdakphcaaGreat.Sx
open Go
def outs : Nat → List Nat
 | 1 => List.range' 14 59
 | 2 => List.range' 1 13 ++ List.range' 17 56
 | 3 => List.range' 1 16 ++ List.range' 29 44
 | 4 => List.range' 1 28 ++ List.range' 65 8
 | 5 => List.range' 1 64 ++ List.range' 71 2
 | 6 => List.range' 1 70
 | _ => []
def headIs (H : List Int) : Prop := (1 ≤ g H 0 ∧ g H 0 ≤ 6) ∧ ∀ i ∈ outs (g H 0).toNat, g H i = 0
instance (H : List Int) : Decidable (headIs H) := by unfold headIs; infer_instance
def chkF : Nat → List Int → Int
 | 2, h => if 7 < g h 0 then 60 else if 4095 < g h 1 then 60 else 0
 | 4, h => if 1048576 ≤ g h 1 then 80 else 0
 | 5, h => if 64 ≤ g h 4 then 90 else 0
 | _, _ => 0
theorem chk_wr {k : Nat} (hk : 1 ≤ k ∧ k ≤ 6) {h p : List Int} (hc : ¬ chkF k h = 0) : wrFail k h p = chkF k h := by
 have : k = 1 ∨ k = 2 ∨ k = 3 ∨ k = 4 ∨ k = 5 ∨ k = 6 := by omega
 rcases this with rfl | rfl | rfl | rfl | rfl | rfl
 · exact absurd rfl hc
 · have hc : ¬ (if 7 < g h 0 then (60 : Int) else if 4095 < g h 1 then 60 else 0) = 0 := hc
   show (if 7 < g h 0 ∨ 4095 < g h 1 then (60 : Int) else if 2044 < p.length then 5 else 0) = if 7 < g h 0 then (60 : Int) else if 4095 < g h 1 then 60 else 0
   by_cases c1 : 7 < g h 0
   · rw [if_pos c1, if_pos (.inl c1)]
   · by_cases c2 : 4095 < g h 1
     · rw [if_neg c1, if_pos c2, if_pos (.inr c2)]
     · rw [if_neg c1, if_neg c2] at hc; exact absurd rfl hc
 · exact absurd rfl hc
 · have hc : ¬ (if 1048576 ≤ g h 1 then (80 : Int) else 0) = 0 := hc
   show (if 1048576 ≤ g h 1 then (80 : Int) else if 2008 < p.length then 5 else 0) = if 1048576 ≤ g h 1 then (80 : Int) else 0
   by_cases c1 : 1048576 ≤ g h 1
   · rw [if_pos c1, if_pos c1]
   · rw [if_neg c1] at hc; exact absurd rfl hc
 · have hc : ¬ (if 64 ≤ g h 4 then (90 : Int) else 0) = 0 := hc
   show (if 64 ≤ g h 4 then (90 : Int) else if 2028 < p.length then 5 else 0) = if 64 ≤ g h 4 then (90 : Int) else 0
   by_cases c1 : 64 ≤ g h 4
   · rw [if_pos c1, if_pos c1]
   · rw [if_neg c1] at hc; exact absurd rfl hc
 · exact absurd rfl hc
def ckErr (H : List Int) : Int := if headIs H then chkF (g H 0).toNat (hdFields (g H 0).toNat H) else 120
def pushErr (H p : List Int) : Int := if headIs H then wrFail (g H 0).toNat (hdFields (g H 0).toNat H) p else 120
def pushRow (H p : List Int) : List Int := headRow H p ++ p
def szErr (k : Int) : Int := if 1 ≤ k ∧ k ≤ 6 then 0 else 120
def popErr (p : List Int) (k : Int) : Int := if 1 ≤ k ∧ k ≤ 6 then rdErr k.toNat p else 120
def popHead (p : List Int) (k : Int) : List Int := headOf k.toNat (rdRow k.toNat p)
def popRest (p : List Int) (k : Int) : List Int := p.drop (hdSize k.toNat)
structure WrSig (Φ : Sig) : Prop extends PbSig Φ where
 ck : ∀ x y z, Φ 72 x y z = .i (ckErr x.list)
 puE : ∀ x y z, Φ 70 x y z = .i (pushErr x.list y.list)
 puR : ∀ x y z, Φ 71 x y z = .l (pushRow x.list y.list)
 szN : ∀ x y z, Φ 73 x y z = .i (hdSize x.int.toNat)
 szE : ∀ x y z, Φ 74 x y z = .i (szErr x.int)
 poE : ∀ x y z, Φ 75 x y z = .i (popErr x.list y.int)
 poH : ∀ x y z, Φ 76 x y z = .l (popHead x.list y.int)
 poR : ∀ x y z, Φ 77 x y z = .l (popRest x.list y.int)
def andZ : List Nat → T
 | [] => .bol true
 | [i] => .c2 .eq (.num 0) (.var i)
 | i :: j :: l => .c2 .and (.c2 .eq (.num 0) (.var i)) (andZ (j :: l))
section
variable {Φ : Sig} {ρ ρ' : Env}
theorem andZ_t : ∀ (l : List Nat), (T.den Φ ρ (andZ l)).bool = true ↔ ∀ i ∈ l, (ρ i).int = 0
 | [] => by simp [andZ]
 | [i] => by
   rw [andZ, eq_t, den_var, den_num]
   simp [eq_comm]
 | i :: j :: l => by
   rw [andZ, and_t, andZ_t (j :: l), eq_t, den_var, den_num]
   constructor
   · rintro ⟨h1, h2⟩ x hx
     rcases List.mem_cons.mp hx with e | e
     · rw [e]; exact h1.symm
     · exact h2 x e
   · exact fun h => ⟨(h i List.mem_cons_self).symm, fun x hx => h x (List.mem_cons_of_mem _ hx)⟩
theorem vars_g (Φ : Sig) (ρ : Env) {i : Nat} (h : i < 73) : g (T.den Φ ρ (varsT 0 73)).list i = (ρ i).int := by rw [g, vars_get Φ ρ 73 0 i h, Nat.zero_add]; rfl
theorem outs_lt {k i : Nat} (h : i ∈ outs k) : i < 73 := by
 unfold outs at h
 split at h <;> simp only [List.mem_append, List.mem_range', List.not_mem_nil] at h <;> omega
theorem headIs_vars {k : Nat} (hk : 1 ≤ k ∧ k ≤ 6) (h0 : (ρ 0).int = k) : headIs (T.den Φ ρ (varsT 0 73)).list ↔ (T.den Φ ρ (andZ (outs k))).bool = true := by
 rw [headIs, vars_g Φ ρ (by decide), h0, Int.toNat_natCast, andZ_t]
 constructor
 · rintro ⟨_, h⟩ i hi
   have := h i hi
   rwa [vars_g Φ ρ (outs_lt hi)] at this
 · exact fun h => ⟨by omega, fun i hi => by rw [vars_g Φ ρ (outs_lt hi)]; exact h i hi⟩
theorem not_head_vars (h : (ρ 0).int < 1 ∨ 6 < (ρ 0).int) : ¬ headIs (T.den Φ ρ (varsT 0 73)).list := by
 rw [headIs, vars_g Φ ρ (by decide)]
 rintro ⟨h1, _⟩; omega
theorem fields_vars {k : Nat} (hk : 1 ≤ k ∧ k ≤ 6) : hdFields k (T.den Φ ρ (varsT 0 73)).list = (T.den Φ ρ (varsT (hdOff k) (hdKinds k).length)).list := by
 have : k = 1 ∨ k = 2 ∨ k = 3 ∨ k = 4 ∨ k = 5 ∨ k = 6 := by omega
 rcases this with rfl | rfl | rfl | rfl | rfl | rfl <;> exact (vars_sub Φ ρ (m := 73) (by decide)).symm
def csVal (E : Ev) : List (T × Int) → Int
 | [] => 0
 | (t, e) :: cs => if (E t).bool = true then e else csVal E cs
def csOf : Nat → List (T × Int)
 | 2 => [(.c2 .lt (.num 7) (.var 14), 60), (.c2 .lt (.num 4095) (.var 15), 60)]
 | 4 => [(.c2 .le (.num 1048576) (.var 30), 80)]
 | 5 => [(.c2 .le (.num 64) (.var 69), 90)]
 | _ => []
theorem cs_is {k : Nat} (hk : 1 ≤ k ∧ k ≤ 6) : csVal (T.den Φ ρ) (csOf k) = chkF k (hdFields k (T.den Φ ρ (varsT 0 73)).list) := by
 rw [fields_vars hk]
 have : k = 1 ∨ k = 2 ∨ k = 3 ∨ k = 4 ∨ k = 5 ∨ k = 6 := by omega
 rcases this with rfl | rfl | rfl | rfl | rfl | rfl
 · rfl
 · simp only [csVal, csOf, lt_t, den_var, den_num]; rfl
 · rfl
 · simp only [csVal, csOf, le_t, den_var, den_num]; rfl
 · simp only [csVal, csOf, le_t, den_var, den_num]; rfl
 · rfl
theorem cs_ne {k : Nat} : ∀ {t : T} {e : Int}, (t, e) ∈ csOf k → ¬ e = 0 := by
 intro t e h
 unfold csOf at h
 split at h <;> simp at h
 · rcases h with ⟨_, rfl⟩ | ⟨_, rfl⟩ <;> decide
 · obtain ⟨_, rfl⟩ := h; decide
 · obtain ⟨_, rfl⟩ := h; decide
def errR (e : T) (n nv : Nat) : V × St := (.w (.c (.i .i64 e)), ⟨[], [], n, nv, []⟩)
def ckChain (n : Nat) (x : M (V × St)) : List (T × Int) → M (V × St)
 | [] => x
 | (t, e) :: cs => .split t (.ret (errR (.num e) n 73)) (ckChain n x cs)
def ckTree (k n1 n2 n3 : Nat) : M (V × St) := .split (.c1 .not (andZ (outs k))) (.ret (errR (.num 120) n1 73)) (ckChain n2 (.ret (errR (.num 0) n3 73)) (csOf k))
def ckRes : Res := ⟨.c (.i .i64 (.fn 72 (varsT 0 73) .nil .nil)), [], 200⟩
theorem leaf_ck (hΦ : WrSig Φ) {e : Int} {n nv : Nat} (h : ckErr (T.den Φ ρ (varsT 0 73)).list = e) (hn : n ≤ 200) : Leaf Φ ρ ρ ckRes (errR (.num e) n nv) := by
 refine ⟨⟨rfl, ?_⟩, trivial, hn⟩
 show e = (T.den Φ ρ (.fn 72 (varsT 0 73) .nil .nil)).int
 rw [den_fn, hΦ.ck]; exact h.symm
theorem ckChain_ok {J : Inv} {B : BK} {K : BK → Env → V × St → Prop} {n : Nat} {x : M (V × St)} : ∀ {cs : List (T × Int)}, (∀ e, (¬ csVal (T.den Φ ρ) cs = 0 ∨ ∃ t, (t, e) ∈ cs) → csVal (T.den Φ ρ) cs = e → K B ρ (errR (.num e) n 73)) → (csVal (T.den Φ ρ) cs = 0 → x.ok Φ J B ρ K) → (∀ t e, (t, e) ∈ cs → ¬ e = 0) → (ckChain n x cs).ok Φ J B ρ K
 | [], _, h2, _ => h2 rfl
 | (t, e) :: cs, h1, h2, h3 => by
   refine ⟨fun c => ?_, fun c => ?_⟩
   · exact h1 e (.inr ⟨t, by simp⟩) (by rw [csVal, if_pos c])
   · have hv : csVal (T.den Φ ρ) ((t, e) :: cs) = csVal (T.den Φ ρ) cs := by rw [csVal, if_neg (by rw [c]; decide)]
     rw [hv] at h1 h2
     exact ckChain_ok (fun e' he' hv' => h1 e' (he'.imp id fun ⟨t', ht'⟩ => ⟨t', by simp [ht']⟩) hv') h2 (fun t' e' h' => h3 t' e' (by simp [h']))
theorem ck_kind (hΦ : WrSig Φ) {k n1 n2 n3 : Nat} {B : BK} (hk : 1 ≤ k ∧ k ≤ 6) (h0 : (ρ 0).int = k) (hn : n1 ≤ 200 ∧ n2 ≤ 200 ∧ n3 ≤ 200) : (ckTree k n1 n2 n3).ok Φ eqJ B ρ (fun _ ρ' r => Leaf Φ ρ ρ' ckRes r) := by
 have g0 : g (T.den Φ ρ (varsT 0 73)).list 0 = k := (vars_g Φ ρ (by decide)).trans h0
 refine ⟨fun c => ?_, fun c => ?_⟩
 · rw [not_t] at c
   refine leaf_ck hΦ ?_ hn.1
   rw [ckErr, if_neg (fun h => by rw [(headIs_vars hk h0).mp h] at c; cases c)]
 · rw [not_f] at c
   have hE : ckErr (T.den Φ ρ (varsT 0 73)).list = csVal (T.den Φ ρ) (csOf k) := by
     rw [ckErr, if_pos ((headIs_vars hk h0).mpr c), g0, Int.toNat_natCast, cs_is hk]
   exact ckChain_ok (fun e _ hv => leaf_ck hΦ (hE.trans hv) hn.2.1) (fun hv => leaf_ck hΦ (hE.trans hv) hn.2.2) (fun t e h => cs_ne h)
theorem hid_some {x : O Res} {res : Res} (h : (hid x).val (T.den Φ ρ) = some res) : x.val (T.den Φ ρ) = some res := by
 simpa only [hid, O.val, den_bol, D.bool_b, if_true] using h
def bndT (i : Nat) (up : Bool) : T := if up then .c2 .le (.var i) (.num (kmax (kAt kHead i))) else .c2 .le (.num 0) (.var i)
def chksB (x : M (V × St)) : List (Nat × Bool) → M (V × St)
 | [] => x
 | (i, up) :: l => .chk (bndT i up) (chksB x l)
def HeadOk (ρ : Env) : Prop := ∀ i k, kHead[i]? = some k → kmin k ≤ (ρ (0 + i)).int ∧ (ρ (0 + i)).int ≤ kmax k
theorem kinH_some {x : O Res} {res : Res} (h : (kinH 0 x).val (T.den Φ ρ) = some res) : HeadOk ρ ∧ x.val (T.den Φ ρ) = some res := by
 replace h := chk_some h
 obtain ⟨h1, h⟩ := h
 refine ⟨fun i k hk => ?_, h⟩
 have hi : i < 73 := (List.getElem?_eq_some_iff.1 hk).1
 have h1 : inKinds kHead 0 (T.den Φ ρ (varsT 0 73)).list = true := h1
 rw [inKinds_iff] at h1
 have h2 := h1 i _ (vars_nth Φ ρ 73 0 i hi)
 have : kAt kHead (0 + i) = k := by rw [Nat.zero_add, kAt, kHead_len, Nat.mod_eq_of_lt hi, List.getD_eq_getElem?_getD, hk]; rfl
 rw [this] at h2; exact h2
set_option maxRecDepth 100000 in
theorem kmin_head : ∀ i : Fin 73, kmin (kAt kHead i.val) = 0 ∧ kHead[i.val]? = some (kAt kHead i.val) := by decide
theorem chksB_ok {J : Inv} {B : BK} {K : BK → Env → V × St → Prop} {x : M (V × St)} (hh : HeadOk ρ) (hx : x.ok Φ J B ρ K) : ∀ {l : List (Nat × Bool)}, (l.all fun p => decide (p.1 < 73)) = true → (chksB x l).ok Φ J B ρ K
 | [], _ => hx
 | (i, up) :: l, h => by
   simp only [List.all_cons, Bool.and_eq_true, decide_eq_true_eq] at h
   refine ⟨?_, chksB_ok hh hx h.2⟩
   have hi := kmin_head ⟨i, h.1⟩
   have hb := hh i _ hi.2
   rw [Nat.zero_add] at hb
   unfold bndT
   split
   · rw [le_t, den_var, den_num]; exact hb.2
   · rw [le_t, den_var, den_num]; exact (hi.1 ▸ hb.1 : (0 : Int) ≤ (ρ i).int)
def puErrR (e : T) (n : Nat) : V × St := (.t [.c .sn, .c (.i .i64 e)], ⟨[], [], n, 74, []⟩)
def puOkR (k j n : Nat) (F : T) : V × St := (.t [.c (.s j 1 0 (.num 0) (.c2 .add (.num (.ofNat (hdSize k))) (.c1 .len (.var 73)))), .c (.i .i64 (.num 0))], ⟨[], [(j, some ⟨true, .row [.u8] (.c2 .app (.c2 .take (.num (.ofNat (hdSize k))) (.fn (30 + k) F (.var 73) .nil)) (.var 73))⟩)], n, 74, []⟩)
def puChain (n : Nat) (x : M (V × St)) : List (T × Int) → M (V × St)
 | [] => x
 | (t, e) :: cs => .split t (.ret (puErrR (.num e) n)) (puChain n x cs)
def puTree (k j n1 n2 n3 n4 : Nat) (F : T) (bl : List (Nat × Bool)) : M (V × St) :=
 .split (.c1 .not (andZ (outs k))) (.ret (puErrR (.num 120) n1)) (puChain n2 (chksB
   (.split (.c2 .eq (.fn (40 + k) F (.var 73) .nil) (.num 0))
     (.chk (.c1 (.kin [.u8]) (.fn (30 + k) F (.var 73) .nil)) (.chk (.c2 .eq (.c1 .len (.fn (30 + k) F (.var 73) .nil)) (.num (.ofNat (hdSize k)))) (.ret (puOkR k j n3 F))))
     (.ret (puErrR (.fn (40 + k) F (.var 73) .nil) n4))) bl) (csOf k))
def puOkRes (j : Nat) : Res := ⟨.t [.c (.s j 1 0 (.num 0) (.c1 .len (puRow (varsT 0 73) (.var 73)))), .c (.i .i64 (.num 0))], [(j, some ⟨true, .row [.u8] (puRow (varsT 0 73) (.var 73))⟩)], 300⟩
def puErrRes : Res := ⟨.t [.c .sn, .c (.i .i64 (puErr (varsT 0 73) (.var 73)))], [], 300⟩
structure PuRes (Φ : Sig) (ρ : Env) (j : Nat) (res : Res) : Prop where
 sig : WrSig Φ
 or : (pushErr (T.den Φ ρ (varsT 0 73)).list (ρ 73).list = 0 ∧ res = puOkRes j) ∨ (¬ pushErr (T.den Φ ρ (varsT 0 73)).list (ρ 73).list = 0 ∧ res = puErrRes)
theorem pu_res (hΦ : WrSig Φ) {j : Nat} {res : Res} (h : (puRes (varsT 0 73) (.var 73) j 300).val (T.den Φ ρ) = some res) : PuRes Φ ρ j res := by
 have he : (T.den Φ ρ (puErr (varsT 0 73) (.var 73))).int = pushErr (T.den Φ ρ (varsT 0 73)).list (ρ 73).list := by rw [puErr, den_fn, hΦ.puE]; rfl
 refine ⟨hΦ, ?_⟩
 simp only [puRes, O.val] at h
 split at h
 · rename_i c
   rw [eq_t, he] at c
   refine .inl ⟨c, ?_⟩
   repeat' (split at h)
   all_goals first | (cases h; done) | skip
   injection h with h
   exact h.symm
 · rename_i c
   have c : (T.den Φ ρ (.c2 .eq (puErr (varsT 0 73) (.var 73)) (.num 0))).bool = false := by simpa using c
   rw [eq_f, he] at c
   injection h with h
   exact .inr ⟨c, h.symm⟩
theorem leaf_pu_err {j n : Nat} {res : Res} {t : T} {e : Int} (hr : PuRes Φ ρ j res) (he : pushErr (T.den Φ ρ (varsT 0 73)).list (ρ 73).list = e) (h0 : ¬ e = 0) (ht : (T.den Φ ρ t).int = e) (hn : n ≤ 300) : Leaf Φ ρ ρ res (puErrR t n) := by
 rcases hr.or with ⟨h, _⟩ | ⟨_, rfl⟩
 · rw [he] at h; exact absurd h h0
 · refine ⟨⟨trivial, ⟨rfl, ?_⟩, trivial⟩, trivial, hn⟩
   rw [ht]
   show e = (T.den Φ ρ (puErr (varsT 0 73) (.var 73))).int
   rw [puErr, den_fn, hr.sig.puE]; exact he.symm
theorem leaf_pu_ok {k j n : Nat} {res : Res} {F : T} (hr : PuRes Φ ρ j res) (hk : 1 ≤ k ∧ k ≤ 6) (h0 : (ρ 0).int = k) (hF : (T.den Φ ρ F).list = hdFields k (T.den Φ ρ (varsT 0 73)).list) (he : pushErr (T.den Φ ρ (varsT 0 73)).list (ρ 73).list = 0) (hn : n ≤ 300) : Leaf Φ ρ ρ res (puOkR k j n F) := by
 have g0 : g (T.den Φ ρ (varsT 0 73)).list 0 = k := (vars_g Φ ρ (by decide)).trans h0
 have hw : (T.den Φ ρ (puRow (varsT 0 73) (.var 73))).list = wrGood k (hdFields k (T.den Φ ρ (varsT 0 73)).list) (ρ 73).list ++ (ρ 73).list := by
   rw [puRow, den_fn, hr.sig.puR]
   show pushRow _ _ = _
   rw [pushRow, headRow, g0, Int.toNat_natCast]; rfl
 have hl := wr_len hk (hdFields k (T.den Φ ρ (varsT 0 73)).list) (ρ 73).list
 have hg : (T.den Φ ρ (.fn (30 + k) F (.var 73) .nil)).list = wrGood k (hdFields k (T.den Φ ρ (varsT 0 73)).list) (ρ 73).list := by
   rw [den_fn, hr.sig.wrRow k _ _ _ hk.1 hk.2, hF]; rfl
 rcases hr.or with ⟨_, rfl⟩ | ⟨h, _⟩
 · refine ⟨⟨⟨rfl, rfl, rfl, rfl, ?_⟩, ⟨rfl, rfl⟩, trivial⟩, ⟨rfl, rfl, ⟨rfl, ?_⟩, trivial⟩, hn⟩
   · rw [int_len, hw, int_add, int_len, List.length_append, hl]; rfl
   · rw [hw]
     show (T.den Φ ρ (.c2 .app (.c2 .take (.num (.ofNat (hdSize k))) (.fn (30 + k) F (.var 73) .nil)) (.var 73))).list = _
     rw [list_app, list_take, hg]
     show (wrGood k _ _).take (hdSize k) ++ _ = _
     rw [List.take_of_length_le (by rw [hl]; exact Nat.le_refl _)]; rfl
 · exact absurd he h
theorem puChain_ok {J : Inv} {B : BK} {K : BK → Env → V × St → Prop} {n : Nat} {x : M (V × St)} : ∀ {cs : List (T × Int)}, (∀ e, ¬ e = 0 → csVal (T.den Φ ρ) cs = e → K B ρ (puErrR (.num e) n)) → (csVal (T.den Φ ρ) cs = 0 → x.ok Φ J B ρ K) → (∀ t e, (t, e) ∈ cs → ¬ e = 0) → (puChain n x cs).ok Φ J B ρ K
 | [], _, h2, _ => h2 rfl
 | (t, e) :: cs, h1, h2, h3 => by
   refine ⟨fun c => ?_, fun c => ?_⟩
   · exact h1 e (h3 t e (by simp)) (by rw [csVal, if_pos c])
   · have hv : csVal (T.den Φ ρ) ((t, e) :: cs) = csVal (T.den Φ ρ) cs := by rw [csVal, if_neg (by rw [c]; decide)]
     rw [hv] at h1 h2
     exact puChain_ok h1 h2 (fun t' e' h' => h3 t' e' (by simp [h']))
theorem pu_kind {k j n1 n2 n3 n4 : Nat} {B : BK} {res : Res} {F : T} {Lf : V × St → Prop} (hr : PuRes Φ ρ j res) (hk : 1 ≤ k ∧ k ≤ 6) (h0 : (ρ 0).int = k) (hg : GoodInts (hdKinds k) (hdFields k (T.den Φ ρ (varsT 0 73)).list)) (hF : (T.den Φ ρ F).list = hdFields k (T.den Φ ρ (varsT 0 73)).list)
   (hL : ∀ e n, Leaf Φ ρ ρ res (puErrR e n) → Lf (puErrR e n)) {j' : Nat} (hL2 : Leaf Φ ρ ρ res (puOkR k j n3 F) → Lf (puOkR k j' n3 F))
   (hn : n1 ≤ 300 ∧ n2 ≤ 300 ∧ n3 ≤ 300 ∧ n4 ≤ 300) {bl : List (Nat × Bool)} (hh : HeadOk ρ) (hbl : (bl.all fun p => decide (p.1 < 73)) = true) : (puTree k j' n1 n2 n3 n4 F bl).ok Φ eqJ B ρ (fun _ _ r => Lf r) := by
 have g0 : g (T.den Φ ρ (varsT 0 73)).list 0 = k := (vars_g Φ ρ (by decide)).trans h0
 have hw : (T.den Φ ρ (.fn (40 + k) F (.var 73) .nil)).int = wrFail k (hdFields k (T.den Φ ρ (varsT 0 73)).list) (ρ 73).list := by
   rw [den_fn, hr.sig.wrErr k _ _ _ hk.1 hk.2, hF]; rfl
 have hgd : (T.den Φ ρ (.fn (30 + k) F (.var 73) .nil)).list = wrGood k (hdFields k (T.den Φ ρ (varsT 0 73)).list) (ρ 73).list := by
   rw [den_fn, hr.sig.wrRow k _ _ _ hk.1 hk.2, hF]; rfl
 refine ⟨fun c => ?_, fun c => ?_⟩
 · rw [not_t] at c
   refine hL _ _ (leaf_pu_err (e := 120) hr ?_ (by decide) rfl hn.1)
   rw [pushErr, if_neg (fun h => by rw [(headIs_vars hk h0).mp h] at c; cases c)]
 · rw [not_f] at c
   have hE : pushErr (T.den Φ ρ (varsT 0 73)).list (ρ 73).list = wrFail k (hdFields k (T.den Φ ρ (varsT 0 73)).list) (ρ 73).list := by
     rw [pushErr, if_pos ((headIs_vars hk h0).mpr c), g0, Int.toNat_natCast]
   refine puChain_ok (fun e he hv => hL _ _ (leaf_pu_err hr ?_ he rfl hn.2.1)) (fun hv => ?_) (fun t e h => cs_ne h)
   · rw [cs_is hk] at hv
     rw [hE, chk_wr hk (by rw [hv]; exact he), hv]
   refine chksB_ok hh ?_ hbl
   refine ⟨fun d => ?_, fun d => ?_⟩
   · rw [eq_t, hw] at d
     have d : wrFail k (hdFields k (T.den Φ ρ (varsT 0 73)).list) (ρ 73).list = 0 := d
     refine ⟨?_, ?_, hL2 (leaf_pu_ok hr hk h0 hF (hE.trans d) hn.2.2.1)⟩
     · rw [bytes_t, hgd]
       have : k = 1 ∨ k = 2 ∨ k = 3 ∨ k = 4 ∨ k = 5 ∨ k = 6 := by omega
       rcases this with rfl | rfl | rfl | rfl | rfl | rfl
       · exact bytesLink hg d
       · exact bytesTag hg d
       · exact bytesNet4 hg d
       · exact bytesNet6 hg d
       · exact bytesSeg hg d
       · exact bytesDgram hg d
     · rw [eq_t, int_len, hgd, wr_len hk]; rfl
   · rw [eq_f, hw] at d
     exact hL _ _ (leaf_pu_err hr hE d hw hn.2.2.2)
theorem good_fields {k : Nat} (hk : 1 ≤ k ∧ k ≤ 6) (hh : HeadOk ρ) : GoodInts (hdKinds k) (hdFields k (T.den Φ ρ (varsT 0 73)).list) := by
 rw [fields_vars hk]
 have : k = 1 ∨ k = 2 ∨ k = 3 ∨ k = 4 ∨ k = 5 ∨ k = 6 := by omega
 rcases this with rfl | rfl | rfl | rfl | rfl | rfl <;> exact good_vars hh (by decide)
theorem sizes_at {v : Nat} {k : Nat} (hk : k ≤ 6) (h : (ρ v).int = k) : (T.den Φ ρ (.c2 .rd (.cons (.num 0) (.cons (.num 14) (.cons (.num 4) (.cons (.num 20) (.cons (.num 40) (.cons (.num 20) (.cons (.num 8) .nil))))))) (.var v))).int = hdSize k := by
 rw [int_rd, den_var, h, Int.toNat_natCast]
 have : k = 0 ∨ k = 1 ∨ k = 2 ∨ k = 3 ∨ k = 4 ∨ k = 5 ∨ k = 6 := by omega
 rcases this with rfl | rfl | rfl | rfl | rfl | rfl | rfl <;> rfl
def rC (F : T) : Nat → List IntKind → List C → List C
 | _, [], t => t
 | i, k :: ks, t => .i k (.wr k (.c2 .rd F (.num (.ofNat i)))) :: rC F (i + 1) ks t
def hdC : Nat → T → T → List C
 | 1, x, F => .i .u8 x :: rC F 0 kLink (zeroC' (kTag ++ (kNet4 ++ (kNet6 ++ (kSeg ++ kDgram)))))
 | 2, x, F => .i .u8 x :: (zeroC' kLink ++ rC F 0 kTag (zeroC' (kNet4 ++ (kNet6 ++ (kSeg ++ kDgram)))))
 | 3, x, F => .i .u8 x :: (zeroC' (kLink ++ kTag) ++ rC F 0 kNet4 (zeroC' (kNet6 ++ (kSeg ++ kDgram))))
 | 4, x, F => .i .u8 x :: (zeroC' (kLink ++ (kTag ++ kNet4)) ++ rC F 0 kNet6 (zeroC' (kSeg ++ kDgram)))
 | 5, x, F => .i .u8 x :: (zeroC' (kLink ++ (kTag ++ (kNet4 ++ kNet6))) ++ rC F 0 kSeg (zeroC' kDgram))
 | 6, x, F => .i .u8 x :: (zeroC' (kLink ++ (kTag ++ (kNet4 ++ (kNet6 ++ kSeg)))) ++ rC F 0 kDgram [])
 | _, _, _ => []
theorem wrap_wrap (k : IntKind) (z : Int) : k.wrap (k.wrap z) = k.wrap z := wrap_is (wrap_range k z).1 (wrap_range k z).2
theorem cells_zero' : ∀ ks : List IntKind, cellsAre (T.den Φ ρ) ks (zeroC' ks) (zL ks.length [])
 | [] => trivial
 | k :: ks => ⟨rfl, (wrap0 k).symm, cells_zero' ks⟩
theorem cells_zero_app : ∀ (ks ks2 : List IntKind) {cs : List C} {zs : List Int}, cellsAre (T.den Φ ρ) ks2 cs zs → cellsAre (T.den Φ ρ) (ks ++ ks2) (zeroC' ks ++ cs) (zL ks.length zs)
 | [], _, _, _, h => h
 | k :: ks, ks2, _, _, h => ⟨rfl, (wrap0 k).symm, cells_zero_app ks ks2 h⟩
theorem cells_rC {F : T} {r : List Int} (hF : (T.den Φ ρ F).list = r) : ∀ (ks ks2 : List IntKind) (i : Nat) {cs : List C} {zs : List Int}, cellsAre (T.den Φ ρ) ks2 cs zs → cellsAre (T.den Φ ρ) (ks ++ ks2) (rC F i ks cs) (rL r i ks zs)
 | [], _, _, _, _, h => h
 | k :: ks, ks2, i, _, _, h => ⟨rfl, by
     rw [int_wr, int_rd, hF, wrap_wrap]; rfl, cells_rC hF ks ks2 (i + 1) h⟩
theorem cells_head {k : Nat} {x F : T} {r : List Int} (hk : 1 ≤ k ∧ k ≤ 6) (hx : (T.den Φ ρ x).int = k) (hF : (T.den Φ ρ F).list = r) : cellsAre (T.den Φ ρ) kHead (hdC k x F) (headOf k r) := by
 have n0 : cellsAre (T.den Φ ρ) [] [] [] := trivial
 have : k = 1 ∨ k = 2 ∨ k = 3 ∨ k = 4 ∨ k = 5 ∨ k = 6 := by omega
 rcases this with rfl | rfl | rfl | rfl | rfl | rfl
 · exact ⟨rfl, hx, cells_rC hF kLink _ 0 (cells_zero' _)⟩
 · exact ⟨rfl, hx, cells_zero_app kLink _ (cells_rC hF kTag _ 0 (cells_zero' _))⟩
 · exact ⟨rfl, hx, cells_zero_app (kLink ++ kTag) _ (cells_rC hF kNet4 _ 0 (cells_zero' _))⟩
 · exact ⟨rfl, hx, cells_zero_app (kLink ++ (kTag ++ kNet4)) _ (cells_rC hF kNet6 _ 0 (cells_zero' _))⟩
 · exact ⟨rfl, hx, cells_zero_app (kLink ++ (kTag ++ (kNet4 ++ kNet6))) _ (cells_rC hF kSeg _ 0 (cells_zero' _))⟩
 · exact ⟨rfl, hx, cells_zero_app (kLink ++ (kTag ++ (kNet4 ++ (kNet6 ++ kSeg)))) _ (cells_rC hF kDgram [] 0 n0)⟩
def poOkRes (j : Nat) : Res := ⟨.t [.g (rdCells (poHead (.var 0) (.var 1)) 0 kHead), .c (.s j 1 0 (.num 0) (.c1 .len (poRest (.var 0) (.var 1)))), .c (.i .i64 (.num 0))], [(j, some ⟨true, .row [.u8] (poRest (.var 0) (.var 1))⟩)], 300⟩
def poErrRes : Res := ⟨.t [.g (zeroC' kHead), .c .sn, .c (.i .i64 (poErr (.var 0) (.var 1)))], [], 300⟩
structure PoRes (Φ : Sig) (ρ : Env) (j : Nat) (res : Res) : Prop where
 sig : WrSig Φ
 or : (popErr (ρ 0).list (ρ 1).int = 0 ∧ res = poOkRes j) ∨ (¬ popErr (ρ 0).list (ρ 1).int = 0 ∧ res = poErrRes)
theorem po_res (hΦ : WrSig Φ) {j : Nat} {res : Res} (h : (poRes (.var 0) (.var 1) j 300).val (T.den Φ ρ) = some res) : PoRes Φ ρ j res := by
 have he : (T.den Φ ρ (poErr (.var 0) (.var 1))).int = popErr (ρ 0).list (ρ 1).int := by rw [poErr, den_fn, hΦ.poE]; rfl
 refine ⟨hΦ, ?_⟩
 simp only [poRes, O.val] at h
 split at h
 · rename_i c
   rw [eq_t, he] at c
   refine .inl ⟨c, ?_⟩
   repeat' (split at h)
   all_goals first | (cases h; done) | skip
   injection h with h
   exact h.symm
 · rename_i c
   have c : (T.den Φ ρ (.c2 .eq (poErr (.var 0) (.var 1)) (.num 0))).bool = false := by simpa using c
   rw [eq_f, he] at c
   injection h with h
   exact .inr ⟨c, h.symm⟩
theorem zero_eqL : ∀ ks : List IntKind, eqL (T.den Φ ρ) (T.den Φ ρ) (zeroC' ks) (zeroC' ks)
 | [] => trivial
 | k :: ks => ⟨⟨rfl, rfl⟩, zero_eqL ks⟩
def poErrR (e : T) (n : Nat) : V × St := (.t [.g (zeroC' kHead), .c .sn, .c (.i .i64 e)], ⟨[], [], n, 2, []⟩)
theorem leaf_po_err {j n : Nat} {res : Res} {t : T} {e : Int} (hr : PoRes Φ ρ j res) (he : popErr (ρ 0).list (ρ 1).int = e) (h0 : ¬ e = 0) (ht : (T.den Φ ρ t).int = e) (hn : n ≤ 300) : Leaf Φ ρ ρ res (poErrR t n) := by
 rcases hr.or with ⟨h, _⟩ | ⟨_, rfl⟩
 · rw [he] at h; exact absurd h h0
 · refine ⟨⟨zero_eqL kHead, trivial, ⟨rfl, ?_⟩, trivial⟩, trivial, hn⟩
   rw [ht]
   show e = (T.den Φ ρ (poErr (.var 0) (.var 1))).int
   rw [poErr, den_fn, hr.sig.poE]; exact he.symm
def poOkR (k j n : Nat) (x s r : T) : V × St := (.t [.g (hdC k x (.fn (10 + k) (.var 0) .nil .nil)), .c (.s j 1 0 (.num 0) s), .c (.i .i64 (.num 0))], ⟨[], [(j, some ⟨true, .row [.u8] r⟩)], n, 2, []⟩)
theorem leaf_po_ok {k j n : Nat} {res : Res} {x s r : T} (hr : PoRes Φ ρ j res) (hk : 1 ≤ k ∧ k ≤ 6) (h1 : (ρ 1).int = k) (hx : (T.den Φ ρ x).int = k) (hz : rdErr k (ρ 0).list = 0) (hs : (T.den Φ ρ s).int = ((ρ 0).list.drop (hdSize k)).length) (hrr : (T.den Φ ρ r).list = (ρ 0).list.drop (hdSize k)) (hn : n ≤ 300) : Leaf Φ ρ ρ res (poOkR k j n x s r) := by
 have he : popErr (ρ 0).list (ρ 1).int = 0 := by rw [popErr, h1, if_pos (by omega), Int.toNat_natCast]; exact hz
 have hF : (T.den Φ ρ (.fn (10 + k) (.var 0) .nil .nil)).list = rdRow k (ρ 0).list := by rw [den_fn, hr.sig.rdRow k _ _ _ hk.1 hk.2]; rfl
 have hH : (T.den Φ ρ (poHead (.var 0) (.var 1))).list = headOf k (rdRow k (ρ 0).list) := by
   rw [poHead, den_fn, hr.sig.poH]
   show popHead (ρ 0).list (ρ 1).int = _
   rw [popHead, h1, Int.toNat_natCast]
 have hR : (T.den Φ ρ (poRest (.var 0) (.var 1))).list = (ρ 0).list.drop (hdSize k) := by
   rw [poRest, den_fn, hr.sig.poR]
   show popRest (ρ 0).list (ρ 1).int = _
   rw [popRest, h1, Int.toNat_natCast]
 rcases hr.or with ⟨_, rfl⟩ | ⟨h, _⟩
 · refine ⟨⟨?_, ⟨rfl, rfl, rfl, rfl, by rw [hs, int_len, hR]⟩, ⟨rfl, rfl⟩, trivial⟩, ⟨rfl, rfl, ⟨rfl, by rw [hrr, hR]⟩, trivial⟩, hn⟩
   exact cells_eqL hH kHead _ _ 0 (cells_head hk hx hF) (fun i _ => by rw [Nat.zero_add])
 · exact absurd he h
end
end Go.Proofs.YtfhjlimdakphcaaGreat.Sx
set_option linter.unusedVariables false
set_option linter.unusedSimpArgs false
namespace Go.Proofs.YtfhjlimdakphcaaGreat.Sx
open Go
theorem zL_get : ∀ (n : Nat) (t : List Int) (i : Nat), (zL n t)[i]? = if i < n then some 0 else t[i - n]?
 | 0, t, i => rfl
 | n + 1, t, 0 => rfl
 | n + 1, t, i + 1 => by
   show (zL n t)[i]? = _
   rw [zL_get n t i, show i + 1 - (n + 1) = i - n from by omega]
   by_cases h : i < n
   · rw [if_pos h, if_pos (by omega)]
   · rw [if_neg h, if_neg (by omega)]
theorem rL_get (r : List Int) : ∀ (ks : List IntKind) (j : Nat) (t : List Int) (i : Nat), (rL r j ks t)[i]? = if i < ks.length then some ((ks[i]?.getD .u8).wrap (r[j + i]?.getD 0)) else t[i - ks.length]?
 | [], j, t, i => rfl
 | k :: ks, j, t, 0 => rfl
 | k :: ks, j, t, i + 1 => by
   show (rL r (j + 1) ks t)[i]? = _
   rw [rL_get r ks (j + 1) t i, show j + 1 + i = j + (i + 1) from by omega]
   by_cases h : i < ks.length
   · rw [if_pos h, if_pos (by simpa using h)]; rfl
   · rw [if_neg h, if_neg (by simpa using h)]
     congr 1
     simp only [List.length_cons]; omega
theorem head_shape {k : Nat} (hk : 1 ≤ k ∧ k ≤ 6) (r : List Int) : headOf k r = (k : Int) :: zL (hdOff k - 1) (rL r 0 (hdKinds k) (zL (73 - hdOff k - (hdKinds k).length) [])) := by
 have : k = 1 ∨ k = 2 ∨ k = 3 ∨ k = 4 ∨ k = 5 ∨ k = 6 := by omega
 rcases this with rfl | rfl | rfl | rfl | rfl | rfl <;> rfl
theorem off_in {k : Nat} (hk : 1 ≤ k ∧ k ≤ 6) : 1 ≤ hdOff k ∧ hdOff k + (hdKinds k).length ≤ 73 := by
 have : k = 1 ∨ k = 2 ∨ k = 3 ∨ k = 4 ∨ k = 5 ∨ k = 6 := by omega
 rcases this with rfl | rfl | rfl | rfl | rfl | rfl <;> decide
theorem off_kind {k : Nat} (hk : 1 ≤ k ∧ k ≤ 6) {j : Nat} (hj : j < (hdKinds k).length) : kHead[hdOff k + j]? = (hdKinds k)[j]? := by
 have key : ∀ k : Fin 7, ∀ j : Fin (hdKinds k.val).length, 1 ≤ k.val → kHead[hdOff k.val + j.val]? = (hdKinds k.val)[j.val]? := by decide
 exact key ⟨k, by omega⟩ ⟨j, hj⟩ hk.1
theorem mem_outs {k : Nat} (hk : 1 ≤ k ∧ k ≤ 6) {i : Nat} : i ∈ outs k ↔ 1 ≤ i ∧ i < 73 ∧ (i < hdOff k ∨ hdOff k + (hdKinds k).length ≤ i) := by
 have : k = 1 ∨ k = 2 ∨ k = 3 ∨ k = 4 ∨ k = 5 ∨ k = 6 := by omega
 rcases this with rfl | rfl | rfl | rfl | rfl | rfl
 · show i ∈ List.range' 14 59 ↔ 1 ≤ i ∧ i < 73 ∧ (i < 1 ∨ 14 ≤ i)
   rw [List.mem_range'_1]; omega
 · show i ∈ List.range' 1 13 ++ List.range' 17 56 ↔ 1 ≤ i ∧ i < 73 ∧ (i < 14 ∨ 17 ≤ i)
   rw [List.mem_append, List.mem_range'_1, List.mem_range'_1]; omega
 · show i ∈ List.range' 1 16 ++ List.range' 29 44 ↔ 1 ≤ i ∧ i < 73 ∧ (i < 17 ∨ 29 ≤ i)
   rw [List.mem_append, List.mem_range'_1, List.mem_range'_1]; omega
 · show i ∈ List.range' 1 28 ++ List.range' 65 8 ↔ 1 ≤ i ∧ i < 73 ∧ (i < 29 ∨ 65 ≤ i)
   rw [List.mem_append, List.mem_range'_1, List.mem_range'_1]; omega
 · show i ∈ List.range' 1 64 ++ List.range' 71 2 ↔ 1 ≤ i ∧ i < 73 ∧ (i < 65 ∨ 71 ≤ i)
   rw [List.mem_append, List.mem_range'_1, List.mem_range'_1]; omega
 · show i ∈ List.range' 1 70 ↔ 1 ≤ i ∧ i < 73 ∧ (i < 71 ∨ 73 ≤ i)
   rw [List.mem_range'_1]; omega
theorem head_get {k : Nat} (hk : 1 ≤ k ∧ k ≤ 6) (r : List Int) {i : Nat} (h1 : 1 ≤ i) (h2 : i < 73) : (headOf k r)[i]? = if i < hdOff k ∨ hdOff k + (hdKinds k).length ≤ i then some 0 else some (((hdKinds k)[i - hdOff k]?.getD .u8).wrap (r[i - hdOff k]?.getD 0)) := by
 have ho := off_in hk
 obtain ⟨j, rfl⟩ : ∃ j, i = j + 1 := ⟨i - 1, by omega⟩
 rw [head_shape hk, List.getElem?_cons_succ, zL_get]
 by_cases c1 : j < hdOff k - 1
 · rw [if_pos c1, if_pos (.inl (by omega))]
 · rw [if_neg c1, rL_get]
   by_cases c2 : j - (hdOff k - 1) < (hdKinds k).length
   · rw [if_pos c2, if_neg (by omega), Nat.zero_add, show j - (hdOff k - 1) = j + 1 - hdOff k from by omega]
   · rw [if_neg c2, zL_get, if_pos (by omega), if_pos (.inr (by omega))]
theorem g_of {l : List Int} {i : Nat} (h : i < l.length) : l[i]? = some (g l i) := by rw [g, List.getElem?_eq_getElem h]; rfl
theorem fields_get {k : Nat} (hk : 1 ≤ k ∧ k ≤ 6) {H : List Int} {j : Nat} (hj : j < (hdKinds k).length) : (hdFields k H)[j]? = H[hdOff k + j]? := by
 rw [hdFields, List.getElem?_take, if_pos hj, List.getElem?_drop]
theorem fields_good {k : Nat} (hk : 1 ≤ k ∧ k ≤ 6) {H : List Int} (hH : GoodInts kHead H) : GoodInts (hdKinds k) (hdFields k H) := by
 have ho := off_in hk
 have hl : H.length = 73 := hH.1.symm
 refine ⟨by rw [hdFields, List.length_take, List.length_drop]; omega, fun i q z h1 h2 => ?_⟩
 have hi : i < (hdKinds k).length := (List.getElem?_eq_some_iff.1 h1).1
 rw [fields_get hk hi] at h2
 exact hH.2 (hdOff k + i) q z ((off_kind hk hi).trans h1) h2
theorem headOf_fields {H : List Int} (hH : GoodInts kHead H) (h : headIs H) : headOf (g H 0).toNat (hdFields (g H 0).toNat H) = H := by
 obtain ⟨h1, h2⟩ := h
 obtain ⟨k, hk⟩ := Int.eq_ofNat_of_zero_le (show 0 ≤ g H 0 by omega)
 rw [hk, Int.toNat_natCast] at h2 ⊢
 have hk6 : 1 ≤ k ∧ k ≤ 6 := by omega
 have hl : H.length = 73 := hH.1.symm
 apply List.ext_getElem?
 intro i
 by_cases h73 : i < 73
 · by_cases h0 : i = 0
   · subst h0
     rw [g_of (l := H) (by omega), hk, head_shape hk6]; rfl
   · rw [head_get hk6 _ (by omega) h73]
     split
     · rename_i c
       rw [g_of (by omega), h2 i ((mem_outs hk6).mpr ⟨by omega, h73, c⟩)]
     · rename_i c
       have hj : i - hdOff k < (hdKinds k).length := by omega
       rw [fields_get hk6 hj, show hdOff k + (i - hdOff k) = i from by omega, g_of (by omega)]
       have hkk := off_kind hk6 hj
       rw [show hdOff k + (i - hdOff k) = i from by omega] at hkk
       obtain ⟨q, hq⟩ : ∃ q, (hdKinds k)[i - hdOff k]? = some q := ⟨_, List.getElem?_eq_getElem hj⟩
       have hr := hH.2 i q _ (hkk.trans hq) (g_of (by omega))
       rw [hq]
       show some (q.wrap (g H i)) = _
       rw [wrap_is hr.1 hr.2]
 · rw [List.getElem?_eq_none (by rw [head_len _ _ hk6]; omega), List.getElem?_eq_none (by omega)]
theorem fields_head {k : Nat} (hk : 1 ≤ k ∧ k ≤ 6) {r : List Int} (hr : GoodInts (hdKinds k) r) : hdFields k (headOf k r) = r := by
 have ho := off_in hk
 apply List.ext_getElem?
 intro i
 by_cases hi : i < (hdKinds k).length
 · rw [fields_get hk hi, head_get hk _ (by omega) (by omega), if_neg (by omega), show hdOff k + i - hdOff k = i from by omega]
   obtain ⟨q, hq⟩ : ∃ q, (hdKinds k)[i]? = some q := ⟨_, List.getElem?_eq_getElem hi⟩
   have hri : i < r.length := by rw [← hr.1]; exact hi
   have hb := hr.2 i q _ hq (g_of hri)
   rw [hq, g_of hri]
   show some (q.wrap (g r i)) = _
   rw [wrap_is hb.1 hb.2]
 · have h1 : r.length = (hdKinds k).length := hr.1.symm
   rw [List.getElem?_eq_none (by rw [hdFields, List.length_take]; omega), List.getElem?_eq_none (by omega)]
theorem head_kind0 {k : Nat} (hk : 1 ≤ k ∧ k ≤ 6) (r : List Int) : g (headOf k r) 0 = k := by rw [g, head_kind r hk]; rfl
theorem head_is {k : Nat} (hk : 1 ≤ k ∧ k ≤ 6) (r : List Int) : headIs (headOf k r) := by
 rw [headIs, head_kind0 hk, Int.toNat_natCast]
 refine ⟨by omega, fun i hi => ?_⟩
 obtain ⟨h1, h2, h3⟩ := (mem_outs hk).mp hi
 rw [g, head_get hk _ h1 h2, if_pos h3]; rfl
theorem each_good {ks : List IntKind} {l : List Int} (h : eachK ks l) : GoodInts ks l := by
 refine ⟨(each_len h).symm, ?_⟩
 have get : ∀ (ks : List IntKind) (l : List Int), eachK ks l → ∀ (i : Nat) (k : IntKind) (z : Int), ks[i]? = some k → l[i]? = some z → kmin k ≤ z ∧ z ≤ kmax k := by
   intro ks
   induction ks with
   | nil => intro l h i k z h1; simp at h1
   | cons k ks ih =>
     intro l h i q z h1 h2
     cases l with
     | nil => simp at h2
     | cons y l => cases i with
       | zero => simp at h1 h2; subst h1 h2; exact h.1
       | succ i => exact ih l h.2 i q z (by simpa using h1) (by simpa using h2)
 exact get ks l h
theorem head_good {k : Nat} (hk : 1 ≤ k ∧ k ≤ 6) (r : List Int) : GoodInts kHead (headOf k r) := each_good (each_head k r hk)
theorem back_k {k : Nat} (hk : 1 ≤ k ∧ k ≤ 6) {h p : List Int} (hh : GoodInts (hdKinds k) h) (hf : wrFail k h p = 0) : rdErr k (wrGood k h p ++ p) = 0 ∧ rdRow k (wrGood k h p ++ p) = h := by
 have : k = 1 ∨ k = 2 ∨ k = 3 ∨ k = 4 ∨ k = 5 ∨ k = 6 := by omega
 rcases this with rfl | rfl | rfl | rfl | rfl | rfl
 · exact backLink hh hf
 · exact backTag hh hf
 · exact backNet4 hh hf
 · exact backNet6 hh hf
 · exact backSeg hh hf
 · exact backDgram hh hf
theorem again_k {k : Nat} (hk : 1 ≤ k ∧ k ≤ 6) {p : List Int} (hb : Bytes p) (hl : p.length ≤ 2048) (hz : rdErr k p = 0) : wrFail k (rdRow k p) (p.drop (hdSize k)) = 0 ∧ wrGood k (rdRow k p) (p.drop (hdSize k)) = p.take (hdSize k) := by
 have : k = 1 ∨ k = 2 ∨ k = 3 ∨ k = 4 ∨ k = 5 ∨ k = 6 := by omega
 rcases this with rfl | rfl | rfl | rfl | rfl | rfl
 · exact againLink hb hl hz
 · exact againTag hb hl hz
 · exact againNet4 hb hl hz
 · exact againNet6 hb hl hz
 · exact againSeg hb hl hz
 · exact againDgram hb hl hz
theorem bytes_k {k : Nat} (hk : 1 ≤ k ∧ k ≤ 6) {h p : List Int} (hh : GoodInts (hdKinds k) h) (hf : wrFail k h p = 0) : Bytes (wrGood k h p) := by
 have : k = 1 ∨ k = 2 ∨ k = 3 ∨ k = 4 ∨ k = 5 ∨ k = 6 := by omega
 rcases this with rfl | rfl | rfl | rfl | rfl | rfl
 · exact bytesLink hh hf
 · exact bytesTag hh hf
 · exact bytesNet4 hh hf
 · exact bytesNet6 hh hf
 · exact bytesSeg hh hf
 · exact bytesDgram hh hf
theorem kinds_k {k : Nat} (hk : 1 ≤ k ∧ k ≤ 6) {p : List Int} (hb : Bytes p) (hz : rdErr k p = 0) : GoodInts (hdKinds k) (rdRow k p) := by
 rw [rdRow, if_pos hz]
 have : k = 1 ∨ k = 2 ∨ k = 3 ∨ k = 4 ∨ k = 5 ∨ k = 6 := by omega
 rcases this with rfl | rfl | rfl | rfl | rfl | rfl
 · exact kindsLink hb
 · exact kindsTag hb
 · exact kindsNet4 hb
 · exact kindsNet6 hb
 · exact kindsSeg hb
 · exact kindsDgram hb
theorem size_k {k : Nat} (hk : 1 ≤ k ∧ k ≤ 6) {h p : List Int} (hf : wrFail k h p = 0) : hdSize k + p.length ≤ 2048 := by
 have : k = 1 ∨ k = 2 ∨ k = 3 ∨ k = 4 ∨ k = 5 ∨ k = 6 := by omega
 rcases this with rfl | rfl | rfl | rfl | rfl | rfl <;> simp only [wrFail] at hf <;> (repeat' split at hf) <;> first | (cases hf; done) | (simp only [hdSize]; omega)
structure Pushed (H p q : List Int) (k : Nat) : Prop where
 kind : 1 ≤ k ∧ k ≤ 6
 at0 : g H 0 = k
 bytes : Bytes q
 len : q.length = hdSize k + p.length
 short : q.length ≤ 2048
 err : rdErr k q = 0
 head : headOf k (rdRow k q) = H
 rest : q.drop (hdSize k) = p
theorem pushed {H p : List Int} (hH : GoodInts kHead H) (hp : Bytes p) (h : pushErr H p = 0) : ∃ k, Pushed H p (pushRow H p) k := by
 rw [pushErr] at h
 split at h
 case isFalse => cases h
 rename_i hi
 obtain ⟨k, hk⟩ := Int.eq_ofNat_of_zero_le (show 0 ≤ g H 0 by have := hi.1; omega)
 have hk6 : 1 ≤ k ∧ k ≤ 6 := by have := hi.1; omega
 have hho := headOf_fields hH hi
 have hq : pushRow H p = wrGood k (hdFields k H) p ++ p := by rw [pushRow, headRow, hk, Int.toNat_natCast]
 rw [hk, Int.toNat_natCast] at h hho
 have hg := fields_good hk6 hH
 have hb := back_k hk6 hg h
 have hl := wr_len hk6 (hdFields k H) p
 have hs := size_k hk6 h
 refine ⟨k, hk6, hk, ?_, ?_, ?_, ?_, ?_, ?_⟩ <;> rw [hq]
 · intro z hz
   rcases List.mem_append.mp hz with hz | hz
   · exact bytes_k hk6 hg h z hz
   · exact hp z hz
 · rw [List.length_append, hl]
 · rw [List.length_append, hl]; exact hs
 · exact hb.1
 · rw [hb.2]; exact hho
 · rw [List.drop_append_of_le_length (by rw [hl]; exact Nat.le_refl _), List.drop_of_length_le (by rw [hl]; exact Nat.le_refl _)]; rfl
theorem popped {p : List Int} {k : Nat} (hk : 1 ≤ k ∧ k ≤ 6) (hb : Bytes p) (hl : p.length ≤ 2048) (hz : rdErr k p = 0) : pushErr (headOf k (rdRow k p)) (p.drop (hdSize k)) = 0 ∧ pushRow (headOf k (rdRow k p)) (p.drop (hdSize k)) = p ∧ ckErr (headOf k (rdRow k p)) = 0 := by
 have hf := fields_head hk (kinds_k hk hb hz)
 have ha := again_k hk hb hl hz
 have h0 := head_kind0 hk (rdRow k p)
 have hi := head_is hk (rdRow k p)
 refine ⟨?_, ?_, ?_⟩
 · rw [pushErr, if_pos hi, h0, Int.toNat_natCast, hf]; exact ha.1
 · rw [pushRow, headRow, h0, Int.toNat_natCast, hf, ha.2, List.take_append_drop]
 · rw [ckErr, if_pos hi, h0, Int.toNat_natCast, hf]
   by_cases c : chkF k (rdRow k p) = 0
   · exact c
   · have := chk_wr hk (p := p.drop (hdSize k)) c
     rw [ha.1] at this; exact this.symm
end Go.Proofs.YtfhjlimdakphcaaGreat.Sx
set_option linter.unusedVariables false
set_option linter.unusedSimpArgs false
namespace Go.Proofs.YtfhjlimdakphcaaGreat.Sx
open Go
def hdAt (l : List Int) (i : Nat) : List Int := (l.drop (73 * i)).take 73
def rowsOf (l : List Int) : List (List Int) := (List.range (l.length / 73)).map (hdAt l)
def putH (E : List Int → List Int → Int) : List (List Int) → List Int → Int × List Int
 | [], p => (0, p)
 | h :: hs, p => if (putH E hs p).1 = 0 then (if E h (putH E hs p).2 = 0 then (0, headRow h (putH E hs p).2 ++ (putH E hs p).2) else (E h (putH E hs p).2, [])) else ((putH E hs p).1, [])
def stkErr (l p : List Int) : Int := if 8 < (rowsOf l).length then 3 else (putH pushErr (rowsOf l) p).1
def bringI (i n : Int) : Int := if i.tmod n < 0 then i.tmod n + n else i.tmod n
theorem bring_range (i : Int) {n : Int} (h : 1 ≤ n) : 0 ≤ bringI i n ∧ bringI i n < n := by
 unfold bringI
 have h1 := Int.tmod_lt_of_pos i (show 0 < n by omega)
 have h2 := Int.lt_tmod_of_pos i (show 0 < n by omega)
 split <;> omega
def netOf (c : List Int) : Int := if (g c 1).tmod 3 = 1 then 2048 else if (g c 1).tmod 3 = 2 then 34525 else 4660
def transOf (c : List Int) : Int := if (g c 2).tmod 3 = 1 then 6 else if (g c 2).tmod 3 = 2 then 17 else 99
def tagsOf (c : List Int) : Nat := (bringI (g c 0) 6).toNat
def linkF (c : List Int) (t : Int) : List Int := (c.drop 3).take 12 ++ [t]
def tagF (c : List Int) (t : Int) : List Int := [g c 16 % 8, g c 17 % 4096, t]
def net4F (c : List Int) (t : Int) : List Int := g c 19 :: g c 20 :: t :: (c.drop 22).take 9
def net6F (c : List Int) (t : Int) : List Int := g c 31 :: g c 32 % 1048576 :: t :: (c.drop 34).take 33
def segF (c : List Int) : List Int := (c.drop 67).take 4 ++ [g c 71 % 64, g c 72]
def dgramF (c : List Int) : List Int := [g c 73, g c 74]
def tagsR (c : List Int) : Nat → List (List Int)
 | 0 => []
 | j + 1 => headOf 2 (tagF c (if j = 0 then netOf c else 33024)) :: tagsR c j
def transL (c : List Int) : List (List Int) := if transOf c = 6 then [headOf 5 (segF c)] else if transOf c = 17 then [headOf 6 (dgramF c)] else []
def netL (c : List Int) : List (List Int) := if netOf c = 2048 then headOf 3 (net4F c (transOf c)) :: transL c else if netOf c = 34525 then headOf 4 (net6F c (transOf c)) :: transL c else []
def linkH (c : List Int) : List Int := headOf 1 (linkF c (if 0 < tagsOf c then 33024 else netOf c))
def chainHeads (c : List Int) : List (List Int) := linkH c :: (tagsR c (tagsOf c) ++ netL c)
def dataOf (m : List Int) (f t : Int) : List Int := (m.drop f.toNat).take (t.toNat - f.toNat)
def onMem (m ft h : List Int) : List Int :=
 if g ft 0 < hdSize (g h 0).toNat then List.replicate 64 0 ++ (pushRow h (dataOf m (g ft 0) (g ft 1)) ++ List.replicate 64 0)
 else m.take ((g ft 0).toNat - hdSize (g h 0).toNat) ++ (headRow h (dataOf m (g ft 0) (g ft 1)) ++ m.drop (g ft 0).toNat)
def onFrom (f n : Int) : Int := if f < n then 64 else f - n
def newMem (b : List Int) (h t : Int) : List Int := List.replicate h.toNat 0 ++ (b ++ List.replicate t.toNat 0)
theorem rows_len (l : List Int) : (rowsOf l).length = l.length / 73 := by simp [rowsOf]
theorem rows_get {l : List Int} {i : Nat} (h : i < l.length / 73) : (rowsOf l)[i]? = some (hdAt l i) := by
 rw [rowsOf, List.getElem?_map, List.getElem?_range h]; rfl
theorem rows_drop {l : List Int} {i : Nat} (h : i < l.length / 73) : (rowsOf l).drop i = hdAt l i :: (rowsOf l).drop (i + 1) := by
 rw [List.drop_eq_getElem_cons (by rw [rows_len]; exact h)]
 congr 1
 have := rows_get h
 rw [List.getElem?_eq_getElem (by rw [rows_len]; exact h)] at this
 injection this
theorem rows_all {l : List Int} : (rowsOf l).drop (l.length / 73) = [] := List.drop_of_length_le (by rw [rows_len]; exact Nat.le_refl _)
theorem hdAt_good {l : List Int} {i n : Nat} (hk : inKinds kHead 0 l = true) (hl : l.length = 73 * n) (hi : i < n) : GoodInts kHead (hdAt l i) := by
 rw [inKinds_iff] at hk
 have h73 : (hdAt l i).length = 73 := by rw [hdAt, List.length_take, List.length_drop]; omega
 refine ⟨by rw [h73]; rfl, fun j k z h1 h2 => ?_⟩
 have hj : j < 73 := (List.getElem?_eq_some_iff.1 h1).1
 rw [hdAt, List.getElem?_take, if_pos hj, List.getElem?_drop] at h2
 have := hk _ _ h2
 have e : kAt kHead (0 + (73 * i + j)) = k := by
   rw [Nat.zero_add, kAt, kHead_len, Nat.mul_add_mod, Nat.mod_eq_of_lt hj, List.getD_eq_getElem?_getD, h1]; rfl
 rw [e] at this; exact this
end Go.Proofs.YtfhjlimdakphcaaGreat.Sx
set_option linter.unusedVariables false
set_option linter.unusedSimpArgs false
namespace Go.Proofs.YtfhjlimdakphcaaGreat.Sx
open Go
def whGo (rows : List Int) (k : Int) : Nat → Nat → Nat → Bool × Nat
 | 0, _, _ => (false, 0)
 | n + 1, i, a => if rows[73 * i]?.getD 0 = k then (true, a) else whGo rows k n (i + 1) (a + hdSize (rows[73 * i]?.getD 0).toNat)
structure WhR where
 a : Int
 n : Int
 b : Bool
 e : Int
def whOf (p : List Int) (k : Int) : WhR :=
 if k < 1 ∨ 6 < k then ⟨0, 0, false, 120⟩ else if (peelOf p).2.2 = 0 then
   (if (whGo (peelOf p).1 k ((peelOf p).1.length / 73) 0 0).1 = true then ⟨(whGo (peelOf p).1 k ((peelOf p).1.length / 73) 0 0).2, hdSize k.toNat, true, 0⟩ else ⟨0, 0, false, 0⟩)
 else ⟨0, 0, false, (peelOf p).2.2⟩
def ΦP : Sig := fun f x y z => match f with
 | 1 => .i (ocs (wsum x.list))
 | 2 => .i (ocs x.int)
 | 11 => .l (rdRow 1 x.list) | 12 => .l (rdRow 2 x.list) | 13 => .l (rdRow 3 x.list) | 14 => .l (rdRow 4 x.list) | 15 => .l (rdRow 5 x.list) | 16 => .l (rdRow 6 x.list)
 | 21 => .i (rdErr 1 x.list) | 22 => .i (rdErr 2 x.list) | 23 => .i (rdErr 3 x.list) | 24 => .i (rdErr 4 x.list) | 25 => .i (rdErr 5 x.list) | 26 => .i (rdErr 6 x.list)
 | 31 => .l (wrGood 1 x.list y.list) | 32 => .l (wrGood 2 x.list y.list) | 33 => .l (wrGood 3 x.list y.list) | 34 => .l (wrGood 4 x.list y.list) | 35 => .l (wrGood 5 x.list y.list) | 36 => .l (wrGood 6 x.list y.list)
 | 41 => .i (wrFail 1 x.list y.list) | 42 => .i (wrFail 2 x.list y.list) | 43 => .i (wrFail 3 x.list y.list) | 44 => .i (wrFail 4 x.list y.list) | 45 => .i (wrFail 5 x.list y.list) | 46 => .i (wrFail 6 x.list y.list)
 | 50 => .l (peelOf x.list).1
 | 51 => .i (peelOf x.list).2.2
 | 52 => .i ((peelOf x.list).1.length / 73 : Nat)
 | 53 => .l (x.list.drop (peelOf x.list).2.1)
 | 54 => .i (nextK x.list)
 | 55 => .i (whOf x.list y.int).a
 | 56 => .b (whOf x.list y.int).b
 | 57 => .i (whOf x.list y.int).e
 | 58 => .i (whOf x.list y.int).n
 | 60 => .i (headErr x.list y.list)
 | 61 => .l (headRow x.list y.list)
 | 62 => .i (putH headErr (rowsOf x.list) y.list).1
 | 63 => .l (putH headErr (rowsOf x.list) y.list).2
 | 64 => .l (chainHeads x.list).flatten
 | 65 => .i (chainHeads x.list).length
 | 66 => .i (bringI x.int y.int)
 | 70 => .i (pushErr x.list y.list)
 | 71 => .l (pushRow x.list y.list)
 | 72 => .i (ckErr x.list)
 | 73 => .i (hdSize x.int.toNat)
 | 74 => .i (szErr x.int)
 | 75 => .i (popErr x.list y.int)
 | 76 => .l (popHead x.list y.int)
 | 77 => .l (popRest x.list y.int)
 | 80 => .i (stkErr x.list y.list)
 | 81 => .l (putH pushErr (rowsOf x.list) y.list).2
 | 82 => .l (onMem x.list y.list z.list)
 | 83 => .l (newMem x.list y.int z.int)
 | 84 => .i (onFrom x.int y.int)
 | _ => .i 0
theorem six {P : Nat → Prop} (h1 : P 1) (h2 : P 2) (h3 : P 3) (h4 : P 4) (h5 : P 5) (h6 : P 6) : ∀ k, 1 ≤ k → k ≤ 6 → P k := by
 intro k a b
 have : k = 1 ∨ k = 2 ∨ k = 3 ∨ k = 4 ∨ k = 5 ∨ k = 6 := by omega
 rcases this with rfl | rfl | rfl | rfl | rfl | rfl <;> assumption
theorem sigW : WrSig ΦP where
 sum := fun _ _ _ => rfl
 ocs := fun _ _ _ => rfl
 rdRow := fun k x y z h1 h2 => six (P := fun k => ΦP (10 + k) x y z = .l (rdRow k x.list)) rfl rfl rfl rfl rfl rfl k h1 h2
 rdErr := fun k x y z h1 h2 => six (P := fun k => ΦP (20 + k) x y z = .i (rdErr k x.list)) rfl rfl rfl rfl rfl rfl k h1 h2
 wrRow := fun k x y z h1 h2 => six (P := fun k => ΦP (30 + k) x y z = .l (wrGood k x.list y.list)) rfl rfl rfl rfl rfl rfl k h1 h2
 wrErr := fun k x y z h1 h2 => six (P := fun k => ΦP (40 + k) x y z = .i (wrFail k x.list y.list)) rfl rfl rfl rfl rfl rfl k h1 h2
 row := fun _ _ _ => rfl
 err := fun _ _ _ => rfl
 num := fun _ _ _ => rfl
 rest := fun _ _ _ => rfl
 next := fun _ _ _ => rfl
 hbErr := fun _ _ _ => rfl
 hbRow := fun _ _ _ => rfl
 ck := fun _ _ _ => rfl
 puE := fun _ _ _ => rfl
 puR := fun _ _ _ => rfl
 szN := fun _ _ _ => rfl
 szE := fun _ _ _ => rfl
 poE := fun _ _ _ => rfl
 poH := fun _ _ _ => rfl
 poR := fun _ _ _ => rfl
end Go.Proofs.YtfhjlimdakphcaaGreat.Sx
set_option linter.unusedVariables false
set_option linter.unusedSimpArgs false
namespace Go.Proofs.YtfhjlimdakphcaaGreat.Sx
open Go Go.RowKit
abbrev Rd (l : Nat) : Fence := Fence.wide.inRound l
section
variable {P : Program} {l n : Nat}
theorem callsIn_rd {f : FuncId} {args : Array Value} {w : World} {R : Ending → World → Prop} (h : Calls P f args w R) : CallsIn (Rd l) n P f args w R := (callsIn_wide (n := n)).2 h
theorem rowsIn_rd {row : String} {args : Array Value} {w : World} {R : Value → World → Prop} (h : Rows P row args w R) : RowsIn (Rd l) n P row args w R :=
 fun c cs _ => let ⟨v, w', r, s⟩ := h c cs; ⟨v, w', r, stepsIn_wide.2 s⟩
theorem depth_rd {q : Prop} : (Rd l).depth.isSome = true → q := fun h => by cases h
theorem op_in {o : Oper} {a : Act} {w : World} {K : Act → World → Prop} {Q : Exit → Act → World → Prop} (hd : ∀ c, o.op ≠ .defer c) (h : o.wp P a w K Q) : o.wpIn (Rd l) n P a w K Q := by
 refine ⟨fun _ _ => trivial, ?_⟩
 rw [Oper.semAt_eq _ _ _ hd]
 unfold Oper.wp at h
 generalize (execOp a.eval o).run P w = r at h ⊢
 cases r with
 | ok nx w' =>
   cases nx with
   | value v => exact h
   | skip => exact h
   | defer d => exact h
   | enter f args => exact ⟨depth_rd, callsIn_rd h⟩
   | row r args => exact ⟨depth_rd, rowsIn_rd h⟩
   | _ => exact h.elim
 | halt x w' => cases x <;> first | exact h | exact h.elim
def calmOp (o : Oper) : Bool := match o.op with
 | .defer _ => false
 | _ => true
theorem calm_ne {o : Oper} (h : calmOp o = true) : ∀ c, o.op ≠ .defer c := fun c e => by simp [calmOp, e] at h
def calmOps : List Oper → Bool
 | [] => true
 | o :: l => calmOp o && calmOps l
theorem calm_at : ∀ {l : List Oper}, calmOps l = true → ∀ {i : Nat} {o : Oper}, l[i]? = some o → calmOp o = true
 | [], _, i, o, h => by simp at h
 | x :: l, hc, 0, o, h => by
   simp only [calmOps, Bool.and_eq_true] at hc
   simp only [List.getElem?_cons_zero, Option.some.injEq] at h
   subst h; exact hc.1
 | x :: l, hc, i + 1, o, h => by
   simp only [calmOps, Bool.and_eq_true] at hc
   exact calm_at hc.2 (by simpa using h)
section
variable {ops : Array Oper} {Q : Exit → Act → World → Prop} (hops : calmOps ops.toList = true) (hQ : ∀ a w, ¬ Q .outgrown a w)
include hops hQ
theorem ops_in : ∀ (is : List Nat) (a : Act) (w : World), wpOps P ops Q is a w → wpOpsIn (Rd l) n P ops Q is a w
 | [], a, w, h => h
 | i :: is, a, w, h => by
   simp only [wpOps] at h
   simp only [wpOpsIn]
   cases ho : ops[i]? with
   | none => rw [ho] at h; exact ops_in is a w h
   | some o =>
     rw [ho] at h
     simp only at h ⊢
     split at h
     · rename_i hw
       rw [if_pos hw]
       rcases h with h | ⟨_, a', w', h⟩
       · exact Oper.wpIn_mono (fun a w h => ops_in is a w h) (op_in (calm_ne (calm_at hops (by rw [Array.getElem?_toList]; exact ho))) h)
       · exact (hQ _ _ h).elim
     · rename_i hw
       rw [if_neg hw]
       exact ⟨fun _ _ => trivial, ops_in is _ w h⟩
theorem any_in : ∀ (fuel : Nat) (listed : Array Bool) (a : Act) (w : World), wpAny P .any ops Q fuel listed a w → wpAnyIn (Rd l) n P .any ops Q fuel listed a w
 | 0, _, _, _, h => h
 | fuel + 1, listed, a, w, h => by
   refine ⟨h.1, fun i hi => ?_⟩
   have h := h.2 i hi
   unfold wpOp at h
   unfold wpOpIn
   cases ho : ops[i]? with
   | none => rw [ho] at h; exact any_in fuel _ a w h
   | some o =>
     rw [ho] at h
     simp only at h ⊢
     split at h
     · rename_i hw
       rw [if_pos hw]
       rcases h with h | ⟨_, a', w', h⟩
       · exact Oper.wpIn_mono (fun a w h => any_in fuel _ a w h) (op_in (calm_ne (calm_at hops (by rw [Array.getElem?_toList]; exact ho))) h)
       · exact (hQ _ _ h).elim
     · rename_i hw
       rw [if_neg hw]
       exact ⟨fun _ _ => trivial, any_in fuel _ _ w h⟩
theorem RegW.wpIn {id : Nat} {draw : Bool} {a : Act} {w : World} (h : RegW P ops draw Q a w) : (Code.region id ops draw).wpIn (Rd l) n P Q a w := by
 cases draw with
 | true => exact wpIn_region_any h.1 (any_in hops hQ _ _ _ _ h.2)
 | false => exact wpIn_region (ops_in hops hQ _ _ _ h)
end
end
def plainC : Code → Bool
 | .skip => true
 | .label _ => true
 | .ret => true
 | .exit _ => true
 | .region _ ops _ => calmOps ops.toList
 | .seq a b => plainC a && plainC b
 | .cond _ a b => plainC a && plainC b
 | .block _ a => plainC a
 | _ => false
section
variable {Φ : Sig} {J : Inv} {en : En} {X : Ctx} {L : Nat → St → Ann} {l n : Nat}
theorem post_out {K : BK → Env → Ex × St → Prop} {B : BK} {ρ : Env} {S : St} {β : Map} (a : Act) (w : World) : ¬ Post Φ en K B ρ S β .outgrown a w := by
 rintro ⟨_, _, ⟨ex, _⟩, _, _, h, _⟩
 cases ex <;> cases h
theorem code_in (hX : CallOk X.P Φ X.call) : ∀ (c : Code), plainC c = true → ∀ (S : St) (B : BK) (ρ : Env) (K : BK → Env → Ex × St → Prop), (evCode X L en.n c S).ok Φ J B ρ K → ∀ (β : Map) (a : Act) (w : World), Sim Φ ρ en S β a w → c.wpIn (Rd l) n X.P (Post Φ en K B ρ S β) a w := by
 intro c
 induction c with
 | skip => intro _ S B ρ K h β a w hs; exact wpIn_skip ⟨B, ρ, _, β, h, rfl, hs, After.refl _ _ _, fun _ _ => rfl⟩
 | label l => intro _ S B ρ K h β a w hs; exact wpIn_label ⟨B, ρ, _, β, h, rfl, hs, After.refl _ _ _, fun _ _ => rfl⟩
 | ret => intro _ S B ρ K h β a w hs; exact wpIn_ret ⟨B, ρ, _, β, h, rfl, hs, After.refl _ _ _, fun _ _ => rfl⟩
 | exit i => intro _ S B ρ K h β a w hs; exact wpIn_exit ⟨B, ρ, _, β, h, rfl, hs, After.refl _ _ _, fun _ _ => rfl⟩
 | region id ops draw =>
   intro hp S B ρ K h β a w hs
   simp only [evCode] at h
   obtain ⟨S', h1, h2⟩ := M.ok_lift (M.ok_bind h)
   exact RegW.wpIn hp post_out (region_reg hX h1 hs (fun a' w' β' g1 g2 => ⟨B, ρ, (.norm, S'), β', h2, rfl, g1, g2, fun _ _ => rfl⟩))
 | seq x y ihx ihy =>
   intro hp S B ρ K h β a w hs
   simp only [plainC, Bool.and_eq_true] at hp
   simp only [evCode] at h
   refine wpIn_seq (wpIn_mono (ihx hp.1 S B ρ _ (M.ok_bind h) β a w hs) ?_)
   rintro e a' w' ⟨B', ρ', ⟨ex, S'⟩, β', h1, h2, h3, h4, h5⟩
   subst h2
   cases ex with
   | norm => exact wpIn_mono (ihy hp.2 S' B' ρ' K h1 β' a' w' h3) (fun e a w hp => hp.then h4 h5)
   | exit i => exact ⟨B', ρ', _, β', h1, rfl, h3, h4, h5⟩
   | ret => exact ⟨B', ρ', _, β', h1, rfl, h3, h4, h5⟩
 | cond c x y ihx ihy =>
   intro hp S B ρ K h β a w hs
   simp only [plainC, Bool.and_eq_true] at hp
   simp only [evCode] at h
   split at h
   · rename_i t ht
     obtain ⟨d, hd, hc⟩ := hs.cur
     have hv := opdV_rep hc.tm c
     rw [ht] at hv
     simp only [V.rep, W.rep, C.rep] at hv
     rw [← nrmB_ok hs.fa] at hv
     split at h
     · rename_i hdec
       have := decF_ok hs.fa hdec
       rw [this] at hv
       exact wpIn_cond_true hv (ihx hp.1 S B ρ K h β a w hs)
     · rename_i hdec
       have := decF_ok hs.fa hdec
       rw [this] at hv
       exact wpIn_cond_false hv (ihy hp.2 S B ρ K h β a w hs)
     · refine wpIn_cond_split hv (fun e => ?_) (fun e => ?_)
       · exact wpIn_mono (ihx hp.1 _ B ρ K (h.1 e) β a w (hs.facts (addF_ok e hs.fa))) (fun _ _ _ ⟨B2, ρ2, r, β2, k1, k2, k3, k4, k5⟩ => ⟨B2, ρ2, r, β2, k1, k2, k3, k4.of_facts, k5⟩)
       · exact wpIn_mono (ihy hp.2 _ B ρ K (h.2 e) β a w (hs.facts (addF_ok e hs.fa))) (fun _ _ _ ⟨B2, ρ2, r, β2, k1, k2, k3, k4, k5⟩ => ⟨B2, ρ2, r, β2, k1, k2, k3, k4.of_facts, k5⟩)
   · exact h.elim
 | block i x ih =>
   intro hp S B ρ K h β a w hs
   simp only [evCode] at h
   refine wpIn_block (wpIn_mono (ih hp S B ρ _ (M.ok_bind h) β a w hs) ?_)
   rintro e a' w' ⟨B', ρ', ⟨ex, S'⟩, β', h1, h2, h3, h4, h5⟩
   subst h2
   cases ex with
   | norm => exact ⟨B', ρ', _, β', h1, rfl, h3, h4, h5⟩
   | exit j =>
     simp only [Ex.to, Exit.inBlock]
     simp only at h1
     split at h1
     · rename_i e
       rw [if_pos (Nat.eq_of_beq_eq_true e)]
       exact ⟨B', ρ', _, β', h1, rfl, h3, h4, h5⟩
     · rename_i e
       rw [if_neg (fun e' => e (by rw [e']; exact Nat.beq_refl _))]
       exact ⟨B', ρ', _, β', h1, rfl, h3, h4, h5⟩
   | ret => exact ⟨B', ρ', _, β', h1, rfl, h3, h4, h5⟩
 | _ => intro hp; cases hp
end
end Go.Proofs.YtfhjlimdakphcaaGreat.Sx
