/- Sx: texts of this claim put together: SkA, SkM, TPeSame, PeS, PsA, PsM, PcK0, SkI, SkG, TWsSize, TWsSizeR, TWcChk, TWcChkR, TWuPush, TWuPushR, TWoPop, TWoPopR, TWdLink, TWrLink, HdWLink, TWdTag, TWrTag, HdWTag, TWdNet4, TWrNet4, HdWNet4, TWdNet6, TWrNet6, HdWNet6. Conditions: none. -/
import Derived.Test.YtfhjlimdakphcaaGreatQ4
import Derived.Test.YtfhjlimdakphcaaGreatProg
import Derived.KernelRfl
import Derived.RangeFuncBox
import Derived.RangeFuncLeaves
import Derived.RangeFuncNested
import Derived.Shelf.Abstract
import Derived.WalkKit
import Derived.OwnWalkIn
import Derived.TacticsInMore
import Derived.LoopNIn
import Derived.LoopIn
import Derived.RangeFuncMany
set_option linter.unusedVariables false
namespace Go.Proofs.YtfhjlimdakphcaaGreat.Sx
open Go
def stkOk (x : O Res) : O Res := short 0 (bytes 0 (.chk (.c2 .le (.num 0) (.var 1)) (.chk (.c2 .le (.var 1) (.num 140737488351232)) (.chk (.c2 .eq (.c1 .len (.var 2)) (.c2 .mul (.var 1) (.num 73))) (.chk (.c1 (.kin kHead) (.var 2)) x)))))
def slcHd (j n : Nat) : V := .c (.s j 73 0 (.num 0) (.var n))
def rowHd (v : Nat) : MB := ⟨false, .row kHead (.var v)⟩
def stkErrT : T := .fn 80 (.var 2) (.var 0) .nil
def stkRowT : T := .fn 81 (.var 2) (.var 0) .nil
def stkRes (j nb : Nat) : O Res :=
 .split (.c2 .eq stkErrT (.num 0))
   (.chk (.c1 (.kin [.u8]) stkRowT) (.chk (.c2 .le (.c1 .len stkRowT) (.num 140737488351232))
     (.ret ⟨.t [.c (.s j 1 0 (.num 0) (.c1 .len stkRowT)), .c (.i .i64 (.num 0))], [(j, some ⟨true, .row [.u8] stkRowT⟩)], nb⟩)))
   (.ret ⟨.t [.c .sn, .c (.i .i64 stkErrT)], [], nb⟩)
def tStack (j : Nat) : Tmpl := ⟨[slc 0 0, slcHd 1 1], [(0, rowB 0), (1, rowHd 2)], 3, stkOk (stkRes j 400)⟩
def rngOf : Code → Option (Code × Code)
 | .rangeFunc _ _ a b => some (a, b)
 | .seq a b => match rngOf a with
   | some x => some x
   | none => rngOf b
 | .cond _ a b => match rngOf a with
   | some x => some x
   | none => rngOf b
 | .block _ a => rngOf a
 | .loop a => rngOf a
 | _ => none
def fstC : Code → Code
 | .seq a _ => a
 | c => c
def sndC : Code → Code
 | .seq _ b => b
 | c => c
def skS0 : St := ⟨initTm (tStack 3).vs 0, someMe (tStack 3).bs, 2, 3, preF (tStack 3).res⟩
def skFs : Facts := [(.c2 .le (.num 0) (.var 1), true), (.c2 .le (.var 1) (.num 255), true), (.c2 .le (.c1 .len (.var 0)) (.num 140737488351232), true), (.c1 (.kin [.u8]) (.var 0), true), (.c1 (.kin kHead) (varsT 1 73), true)]
def skBs : Bs := [(0, ⟨true, .cells [.s 1 1 0 (.num 0) (.c1 .len (.var 0))]⟩), (1, ⟨true, .row [.u8] (.var 0)⟩), (2, ⟨true, .cells [.sn]⟩), (3, ⟨true, .cells [.i .i64 (.num 0)]⟩)]
def ptrV (j : Nat) : V := .c (.p j (.num 0) 0 0)
def skA0 : St := ⟨[(2, ptrV 0), (4, ptrV 2), (5, ptrV 3), (18, .w (.g (cellsV 1 kHead)))], someMe skBs, 4, 74, skFs⟩
def skBs2 : Bs := [(0, ⟨true, .cells [.s 1 1 0 (.num 0) (.c1 .len (.var 0))]⟩), (1, rowB 0), (2, ⟨true, .cells [.sn]⟩), (3, ⟨true, .cells [.i .i64 (.num 0)]⟩), (4, ⟨false, .cells (cellsV 1 kHead)⟩)]
def skB0 : St := ⟨[(2, ptrV 0), (4, ptrV 2), (5, ptrV 3), (7, ptrV 4)], someMe skBs2, 5, 74, skFs⟩
def consSk : List (Nat × Con) := (39, tClone.con) :: (41, (tPush 74).con) :: []
def noAnn : Nat → St → Ann := fun _ _ => .unroll 0
def annsSk : Anns := fun f i S => match f, i with
 | 19, 5 => match look S.tm 6 with
   | some (.w (.c (.s jq _ _ _ _))) => .inv 0 ⟨[(7, .c (.i .i64 (.var S.nv))), (6, .c (.s S.nb 1 0 (.num 0) (.var (S.nv + 1))))], [(jq, none)], [⟨true, .row [.u8] (.var (S.nv + 2))⟩], 3,
     [(.c2 .le (.num (-1)) (.var S.nv), true), (.c2 .lt (.var S.nv) (.var 1), true), (.c2 .le (.num 0) (.var (S.nv + 1)), true), (.c2 .le (.var (S.nv + 1)) (.num 140737488351232), true), (.c2 .eq (.c1 .len (.var (S.nv + 2))) (.var (S.nv + 1)), true), (.c1 (.kin [.u8]) (.var (S.nv + 2)), true)]⟩
   | _ => .unroll 1
 | _, _ => .unroll 40
def tSameL : Tmpl := ⟨[slcH 0 0, slcH 1 2], [(0, rowH 1), (1, rowH 3)], 4, inR 0 0 140737488351232 (inR 2 0 140737488351232 (kinds kHead 1 (kinds kHead 3 (.chk (.c2 .eq (.c1 .len (.var 1)) (.c2 .mul (.var 0) (.num 73))) (.chk (.c2 .eq (.c1 .len (.var 3)) (.c2 .mul (.var 2) (.num 73))) (.ret ⟨.c (.b (.c2 .leq (.var 1) (.var 3))), [], 2⟩))))))⟩
def annsSt : Anns := fun f i S => match f, i with
 | 4, 9 => turnAll 0 11 7 S
 | _, _ => .unroll 40
def consSt : List (Nat × Con) := (17, tTrue.con) :: (14, tEq.con) :: (20, tSameL.con) :: (18, (tStack 3).con) :: (19, (tStack 3).con) :: []
def tWStacks : Tmpl := ⟨[slc 0 0, slcHd 1 1], [(0, rowB 0), (1, rowHd 2)], 3, stkOk (.chk (.c2 .le (.c2 .mul (.var 1) (.num 100)) (.num 140737488355328)) (truth 100000))⟩
def consSr : List (Nat × Con) := (12, (tPush 68).con) :: []
end Go.Proofs.YtfhjlimdakphcaaGreat.Sx
set_option linter.unusedVariables false
set_option linter.unusedSimpArgs false
namespace Go.Proofs.YtfhjlimdakphcaaGreat.Sx
open Go
theorem put_drop_eq {E : List Int → List Int → Int} {p : List Int} : ∀ {hs : List (List Int)} {k : Nat}, ¬ (putH E (hs.drop k) p).1 = 0 → (putH E hs p).1 = (putH E (hs.drop k) p).1
 | hs, 0, h => rfl
 | [], k + 1, h => by simp only [List.drop_nil]
 | x :: hs, k + 1, h => by
   have e := put_drop_eq (hs := hs) (k := k) h
   rw [List.drop_succ_cons, ← e, putH, if_neg (by rw [e]; exact h)]
theorem put_step {hs : List (List Int)} {x p q : List Int} (h : putH pushErr hs p = (0, q)) : putH pushErr (x :: hs) p = if pushErr x q = 0 then (0, pushRow x q) else (pushErr x q, []) := by
 simp only [putH, h, if_true]; rfl
structure StkIn (L p : List Int) (n : Nat) : Prop where
 len : L.length = 73 * n
 kin : inKinds kHead 0 L = true
 bytes : Bytes p
 short : p.length ≤ 140737488351232
theorem StkIn.rows {L p : List Int} {n : Nat} (h : StkIn L p n) : L.length / 73 = n := by have := h.len; omega
theorem StkIn.good {L p : List Int} {n : Nat} (h : StkIn L p n) {i : Nat} (hi : i < n) : GoodInts kHead (hdAt L i) := hdAt_good h.kin h.len hi
structure StkAt (L p : List Int) (k : Nat) (q : List Int) : Prop where
 put : putH pushErr ((rowsOf L).drop k) p = (0, q)
 bytes : Bytes q
 short : q.length ≤ 140737488351232
theorem StkIn.start {L p : List Int} {n : Nat} (h : StkIn L p n) : StkAt L p n p := by
 have := rows_all (l := L)
 rw [h.rows] at this
 exact ⟨by rw [this]; rfl, h.bytes, h.short⟩
theorem StkAt.step {L p q : List Int} {n i : Nat} (hi : StkIn L p n) (h : StkAt L p (i + 1) q) (hn : i < n) (he : pushErr (hdAt L i) q = 0) : StkAt L p i (pushRow (hdAt L i) q) ∧ (pushRow (hdAt L i) q).length ≤ 2048 := by
 obtain ⟨k, P⟩ := pushed (hi.good hn) h.bytes he
 refine ⟨⟨?_, P.bytes, by have := P.short; omega⟩, P.short⟩
 rw [rows_drop (by rw [hi.rows]; exact hn), put_step h.put, if_pos he]
theorem StkAt.err {L p q : List Int} {n i : Nat} (hi : StkIn L p n) (h : StkAt L p (i + 1) q) (hn : i < n) (h8 : n ≤ 8) (he : ¬ pushErr (hdAt L i) q = 0) : stkErr L p = pushErr (hdAt L i) q := by
 have e : (putH pushErr ((rowsOf L).drop i) p).1 = pushErr (hdAt L i) q := by rw [rows_drop (by rw [hi.rows]; exact hn), put_step h.put, if_neg he]
 rw [stkErr, if_neg (by rw [rows_len, hi.rows]; omega), put_drop_eq (k := i) (by rw [e]; exact he), e]
theorem StkAt.all {L p q : List Int} {n : Nat} (hi : StkIn L p n) (h : StkAt L p 0 q) (h8 : n ≤ 8) : stkErr L p = 0 ∧ (putH pushErr (rowsOf L) p).2 = q := by
 have := h.put
 rw [List.drop_zero] at this
 rw [stkErr, if_neg (by rw [rows_len, hi.rows]; omega), this]
 exact ⟨rfl, rfl⟩
theorem StkIn.many {L p : List Int} {n : Nat} (hi : StkIn L p n) (h8 : 8 < n) : stkErr L p = 3 := by rw [stkErr, if_pos (by rw [rows_len, hi.rows]; exact h8)]
section
variable {ρ : Env}
theorem stk_some {x : O Res} {res : Res} (h : (stkOk x).val (T.den ΦP ρ) = some res) : ∃ n : Nat, (ρ 1).int = n ∧ n ≤ 140737488351232 ∧ StkIn (ρ 2).list (ρ 0).list n ∧ x.val (T.den ΦP ρ) = some res := by
 obtain ⟨hs, h⟩ := short_some h
 obtain ⟨hb, h⟩ := bytes_some h
 obtain ⟨h0, h⟩ := chk_some h
 obtain ⟨h1, h⟩ := chk_some h
 obtain ⟨hl, h⟩ := chk_some h
 obtain ⟨hk, h⟩ := chk_some h
 rw [le_t, den_var] at h0 h1
 replace h0 : (0 : Int) ≤ (ρ 1).int := h0
 replace h1 : (ρ 1).int ≤ (140737488351232 : Int) := h1
 rw [eq_t, int_len, int_mul, den_var, den_var] at hl
 replace hl : ((ρ 2).list.length : Int) = (ρ 1).int * 73 := hl
 obtain ⟨n, hn⟩ := Int.eq_ofNat_of_zero_le h0
 rw [hn] at hl h1
 exact ⟨n, hn, by omega, ⟨by omega, hk, hb, hs⟩, h⟩
structure StkRes (ρ : Env) (j nb : Nat) (res : Res) : Prop where
 or : (stkErr (ρ 2).list (ρ 0).list = 0 ∧ res = ⟨.t [.c (.s j 1 0 (.num 0) (.c1 .len stkRowT)), .c (.i .i64 (.num 0))], [(j, some ⟨true, .row [.u8] stkRowT⟩)], nb⟩) ∨
   (¬ stkErr (ρ 2).list (ρ 0).list = 0 ∧ res = ⟨.t [.c .sn, .c (.i .i64 stkErrT)], [], nb⟩)
theorem stk_res {j nb : Nat} {res : Res} (h : (stkRes j nb).val (T.den ΦP ρ) = some res) : StkRes ρ j nb res := by
 have he : (T.den ΦP ρ stkErrT).int = stkErr (ρ 2).list (ρ 0).list := rfl
 refine ⟨?_⟩
 simp only [stkRes, O.val] at h
 split at h
 · rename_i c
   rw [eq_t, he] at c
   refine .inl ⟨c, ?_⟩
   repeat' (split at h)
   all_goals first | (cases h; done) | skip
   injection h with h
   exact h.symm
 · rename_i c
   have c : (T.den ΦP ρ (.c2 .eq stkErrT (.num 0))).bool = false := by simpa using c
   rw [eq_f, he] at c
   injection h with h
   exact .inr ⟨c, h.symm⟩
end
end Go.Proofs.YtfhjlimdakphcaaGreat.Sx
set_option maxRecDepth 100000
namespace Go.Proofs.YtfhjlimdakphcaaGreat.Sx
open Go
end Go.Proofs.YtfhjlimdakphcaaGreat.Sx
set_option linter.unusedVariables false
set_option linter.unusedSimpArgs false
namespace Go.Proofs.YtfhjlimdakphcaaGreat.Sx
open Go
def idxT (m : T) : Nat → T
 | 0 => m
 | j + 1 => .c2 .add m (.num (.ofNat (j + 1)))
def eqAt (a b m : T) (j : Nat) : T := .c2 .eq (.c2 .rd a (idxT m j)) (.c2 .rd b (idxT m j))
def eqsT (a b m : T) : Nat → Nat → T
 | j, 0 => eqAt a b m j
 | j, n + 1 => .c2 .and (eqAt a b m j) (eqsT a b m (j + 1) n)
section
variable {Φ : Sig} {ρ : Env} {a b m : T} {M : Nat}
theorem den_idx (hM : (T.den Φ ρ m).int = M) : ∀ j, (T.den Φ ρ (idxT m j)).int = ((M + j : Nat) : Int)
 | 0 => hM
 | j + 1 => by show (T.den Φ ρ m).int + (Int.ofNat (j + 1)) = _; rw [hM]; simp only [Int.ofNat_eq_natCast]; omega
theorem eqAt_iff (hM : (T.den Φ ρ m).int = M) (j : Nat) : (T.den Φ ρ (eqAt a b m j)).bool = true ↔ (T.den Φ ρ a).list[M + j]?.getD 0 = (T.den Φ ρ b).list[M + j]?.getD 0 := by
 rw [eqAt, eq_t, int_rd, int_rd, den_idx hM, Int.toNat_natCast]
theorem eqs_iff (hM : (T.den Φ ρ m).int = M) : ∀ (n j : Nat), (T.den Φ ρ (eqsT a b m j n)).bool = true ↔ ∀ i, j ≤ i → i ≤ j + n → (T.den Φ ρ a).list[M + i]?.getD 0 = (T.den Φ ρ b).list[M + i]?.getD 0
 | 0, j => by
   rw [eqsT, eqAt_iff hM]
   exact ⟨fun h i h1 h2 => by rw [show i = j from by omega]; exact h, fun h => h j (Nat.le_refl _) (by omega)⟩
 | n + 1, j => by
   rw [eqsT, and_t, eqAt_iff hM, eqs_iff hM n (j + 1)]
   constructor
   · rintro ⟨h1, h2⟩ i a1 a2
     rcases Nat.eq_or_lt_of_le a1 with e | e
     · rw [← e]; exact h1
     · exact h2 i e (by omega)
   · exact fun h => ⟨h j (Nat.le_refl _) (by omega), fun i a1 a2 => h i (by omega) (by omega)⟩
end
theorem take_many {a b : List Int} {i n : Nat} (h : a.take i = b.take i) (ha : i + n ≤ a.length) (hb : i + n ≤ b.length) (e : ∀ j, j < n → a[i + j]?.getD 0 = b[i + j]?.getD 0) : a.take (i + n) = b.take (i + n) := by
 apply List.ext_getElem?
 intro j
 rw [List.getElem?_take, List.getElem?_take]
 split
 · rename_i hj
   by_cases hji : j < i
   · have := congrArg (fun l => l[j]?) h
     simp only [List.getElem?_take, if_pos hji] at this
     exact this
   · have := e (j - i) (by omega)
     rw [show i + (j - i) = j from by omega, List.getElem?_eq_getElem (by omega), List.getElem?_eq_getElem (by omega)] at this
     rw [List.getElem?_eq_getElem (by omega), List.getElem?_eq_getElem (by omega)]
     simpa using this
 · rfl
def sameJ : Inv := ⟨fun _ ρ ds => ∃ i : Nat, (nthD ds 0).int = i ∧ (i : Int) ≤ (ρ 0).int ∧ (ρ 1).list.take (73 * i) = (ρ 3).list.take (73 * i), fun _ ρ ds => (ρ 0).int.toNat - (nthD ds 0).int.toNat⟩
end Go.Proofs.YtfhjlimdakphcaaGreat.Sx
set_option linter.unusedVariables false
namespace Go.Proofs.YtfhjlimdakphcaaGreat.Sx
open Go
end Go.Proofs.YtfhjlimdakphcaaGreat.Sx
set_option linter.unusedVariables false
set_option linter.unusedSimpArgs false
namespace Go.Proofs.YtfhjlimdakphcaaGreat.Sx
open Go
end Go.Proofs.YtfhjlimdakphcaaGreat.Sx
set_option linter.unusedVariables false
set_option linter.unusedSimpArgs false
namespace Go.Proofs.YtfhjlimdakphcaaGreat.Sx
open Go
def cellT (F m : T) : Nat → Nat → T
 | _, 0 => .nil
 | 0, n + 1 => .cons (.c2 .rd F m) (cellT F m 1 n)
 | j + 1, n + 1 => .cons (.c2 .rd F (.c2 .add m (.num (.ofNat (j + 1))))) (cellT F m (j + 2) n)
section
variable {Φ : Sig} {ρ : Env}
theorem den_cellT {F m : T} {l : List Int} {M : Nat} (hF : (T.den Φ ρ F).list = l) (hm : (T.den Φ ρ m).int = M) : ∀ (n j : Nat), M + j + n ≤ l.length → (T.den Φ ρ (cellT F m j n)).list = (l.drop (M + j)).take n
 | 0, _, _ => by simp [cellT]
 | n + 1, 0, h => by
   rw [cellT, list_cons, den_cellT hF hm n 1 (by omega), int_rd, hF, hm, Int.toNat_natCast]
   exact cons_take (by omega) rfl rfl
 | n + 1, j + 1, h => by
   rw [cellT, list_cons, den_cellT hF hm n (j + 2) (by omega), int_rd, int_add, hF, hm]
   have : ((M : Int) + (T.den Φ ρ (.num (.ofNat (j + 1)))).int).toNat = M + (j + 1) := by show ((M : Int) + ((j + 1 : Nat) : Int)).toNat = _; omega
   rw [this]
   exact cons_take (by omega) rfl rfl
theorem den_hdAt {F m : T} {l : List Int} {i n : Nat} (hF : (T.den Φ ρ F).list = l) (hm : (T.den Φ ρ m).int = i) (hl : l.length = 73 * n) (hi : i < n) : (T.den Φ ρ (cellT F (.c2 .mul m (.num 73)) 0 73)).list = hdAt l i := by
 rw [den_cellT hF (M := 73 * i) (by rw [int_mul, hm]; show (i : Int) * 73 = _; omega) 73 0 (by omega), Nat.add_zero]; rfl
end
end Go.Proofs.YtfhjlimdakphcaaGreat.Sx
set_option linter.unusedVariables false
set_option linter.unusedSimpArgs false
namespace Go.Proofs.YtfhjlimdakphcaaGreat.Sx
open Go Go.RowKit Go.Shelf Go.Proofs
structure Hold (p : Prop) : Prop where
 out : p
attribute [local go_sem] Oper.semAt_some
theorem backward_in (F : Fence) (n : Nat) (h5 : F.fn 42) (hro : F.round = none) (a : Option Addr) (len cap : Nat) (w : World) :
   CallsIn F n Go.Proofs.Tryz.prog 42 #[.slice a len cap] w fun e w' => e = .returned (.func (.func 67) #[] #[.pointer (some ⟨w.heap.size, 0, none⟩)]) ∧ w' = w.alloc (.cells #[.slice a len cap] 64) := by
 refine callsIn_of_wp Go.Proofs.Tryz.func42 rfl h5 ?_ hro
 simp only [Go.Proofs.Tryz.ntmps42, List.size_toArray, List.length_cons, List.length_nil, Nat.reduceAdd, Nat.reduceSub, Array.replicate_succ, Array.replicate_zero, List.push_toArray, List.append_toArray, List.nil_append, List.cons_append]
 gi_wp2
 go_ret
 exact ⟨rfl, rfl⟩
theorem wpListIn_load {F : Fence} {n : Nat} {P : Program} (w : World) {ops : Array Oper} {rest : List Oper} {o : Oper} {a : Act} {Q : Exit → Act → World → Prop}
   (hg : o.guard = none) (t : TypeId) (x : Operand) (hop : o.op = Op.load t x) (xv v : Value) (hx : a.eval x = xv) (hrun : (Instr.loadAt t xv).run P w = .ok v w) (hK : wpListIn F n P ops Q rest (a.put o.dst v) w) : wpListIn F n P ops Q (o :: rest) a w := by
 refine wpListIn_plain hg fun K hK' => ?_
 unfold Oper.wpIn
 refine ⟨?_, ?_⟩
 · simp [Oper.about, hop]
 · rw [Oper.semAt_plain F _ _ (by rw [hop]; intro c hc'; cases hc')]
   simp [execOp, hop, hx, hrun, Result.andThen]
   exact hK' _ _ hK
theorem rev_take {n k m : Nat} (h : n = m + 1 + k) : (List.range n).reverse.take (k + 1) = (List.range n).reverse.take k ++ [m] := by
 rw [List.take_add_one, List.getElem?_reverse (by simp; omega), List.length_range, List.getElem?_range (by omega)]
 simp; omega
set_option maxRecDepth 100000 in
set_option maxHeartbeats 2000000 in
theorem iter_in (F : Fence) (n : Nat) (h7 : F.fn 67) (hro : F.round = none) (hn : 1 ≤ n) (l Bs b off len cap : Nat) (hv : Nat → Value) (hreach : len ≤ 140737488351232) (J Jx : List Nat → World → Prop) (Kp : World → World → Prop)
   (hY : ∀ pre (x : Nat) W, x < len → J pre W → pre.length < len → YieldAt F (n - 1) Go.Proofs.Tryz.prog l #[.int .i64 x, hv x] W fun e W' =>
     (e = .returned (.bool true) ∧ J (pre ++ [x]) W' ∧ Kp W W') ∨ (e = .returned (.bool false) ∧ Jx (pre ++ [x]) W'))
   (W : World) (hKt : ∀ {A B C : World}, Kp A B → Kp B C → Kp A C) (hKr : Kp W W) (hBs : ∀ W', Kp W W' → W'.cell? ⟨Bs, 0, none⟩ = some (.slice (some ⟨b, off, none⟩) len cap))
   (hld : ∀ i, i < len → ∀ W', Kp W W' → (Instr.loadAt 49 (.pointer (some ⟨b, off + i * 73, none⟩))).run Go.Proofs.Tryz.prog W' = .ok (hv i) W') (h0 : J [] W) :
   CallsIn F n Go.Proofs.Tryz.prog 67 #[.func (.yield l) #[] #[], .pointer (some ⟨Bs, 0, none⟩)] W fun e W' => (∃ v, e = .returned v) ∧
     ((∃ ys, ys = (List.range len).reverse ∧ J ys W') ∨ (∃ pre, (∃ k, k ≤ len ∧ pre = (List.range len).reverse.take k) ∧ Jx pre W')) := by
 refine callsIn_of_wp Go.Proofs.Tryz.func67 rfl h7 ?_ hro
 simp only [Go.Proofs.Tryz.ntmps67, List.size_toArray, List.length_cons, List.length_nil, Nat.reduceAdd, Nat.reduceSub, Array.replicate_succ, Array.replicate_zero, List.push_toArray, List.append_toArray, List.nil_append, List.cons_append]
 have hb0 := hBs W hKr
 gi_wp2
 gi_loopw [3] (fun i wr => ∃ k : Nat, k ≤ len ∧ i = .int .i64 ((len : Int) - 1 - k) ∧ J ((List.range len).reverse.take k) wr ∧ Kp W wr)
   (fun i _ => ((intOf i) + 1).toNat)
 case atStart => exact ⟨0, Nat.zero_le _, by simp, h0, hKr⟩
 case round =>
   obtain ⟨k, hk, rfl, hJs, hnx⟩ := hrel
   have hb1 := hBs wr hnx
   by_cases hlt : k < len
   · obtain ⟨m, hm⟩ : ∃ m : Nat, len = m + 1 + k := ⟨len - 1 - k, by omega⟩
     obtain ⟨fn, tmps, assign, body, hy, hR⟩ := hY _ m wr (by omega) hJs (by simp; omega)
     have hml : m < len := by omega
     rw [show (len : Int) - 1 - k = m from by omega]
     have A : Hold (len = m + 1 + k) := ⟨hm⟩
     clear hm
     gi_wp2_with (first | (refine wpListIn_load _ rfl 49 _ rfl _ _ rfl (hld m hml _ hnx) ?_) | gi_in)
     refine hR.mono ?_
     rintro e W3 (⟨rfl, hJ3, hk3⟩ | ⟨rfl, hJx3⟩)
     · gi_wp2
       go_roundw
       case rel => exact ⟨k + 1, by omega, by have := A.out; simp; omega, by rw [rev_take A.out]; exact hJ3, hKt hnx hk3⟩
       case measure => simp [intOf]
     · gi_wp2
       refine bodyPost_ret (results_none rfl _ _ _) rfl ?_
       exact ⟨⟨_, rfl⟩, .inr ⟨_, ⟨k + 1, by omega, (rev_take A.out).symm⟩, hJx3⟩⟩
   · obtain rfl : k = len := by omega
     rw [show (k : Int) - 1 - k = -1 from by omega]
     gi_wp2
     go_end0
     exact ⟨⟨_, rfl⟩, .inl ⟨_, rfl, by rw [List.take_of_length_le (by simp)] at hJs; exact hJs⟩⟩
set_option maxRecDepth 100000 in
set_option maxHeartbeats 1000000 in
theorem iter_nil_in (F : Fence) (n : Nat) (h7 : F.fn 67) (hro : F.round = none) (l Bs : Nat) (J : List Nat → World → Prop) (W : World) (cap : Nat) (a : Option Addr) (hBs : W.cell? ⟨Bs, 0, none⟩ = some (.slice a 0 cap)) (h0 : J [] W) :
   CallsIn F n Go.Proofs.Tryz.prog 67 #[.func (.yield l) #[] #[], .pointer (some ⟨Bs, 0, none⟩)] W fun e W' => (∃ v, e = .returned v) ∧ J [] W' := by
 refine callsIn_of_wp Go.Proofs.Tryz.func67 rfl h7 ?_ hro
 simp only [Go.Proofs.Tryz.ntmps67, List.size_toArray, List.length_cons, List.length_nil, Nat.reduceAdd, Nat.reduceSub, Array.replicate_succ, Array.replicate_zero, List.push_toArray, List.append_toArray, List.nil_append, List.cons_append]
 gi_wp2
 gi_loopw [3] (fun i wr => i = .int .i64 (-1) ∧ J [] wr) (fun _ _ => 0)
 case atStart => exact ⟨rfl, h0⟩
 case round =>
   obtain ⟨rfl, hJs⟩ := hrel
   gi_wp2
   go_end0
   exact ⟨⟨_, rfl⟩, hJs⟩
end Go.Proofs.YtfhjlimdakphcaaGreat.Sx
set_option linter.unusedVariables false
set_option linter.unusedSimpArgs false
namespace Go.Proofs.YtfhjlimdakphcaaGreat.Sx
open Go Go.RowKit
theorem wpIn_piece {F : Fence} {n : Nat} {P : Program} {c c' : Code} {Q : Exit → Act → World → Prop} {a : Act} {w : World} (e : c = c') (h : c'.wpIn F n P Q a w) : c.wpIn F n P Q a w := e ▸ h
def dSt : St := ⟨[], [], 0, 0, []⟩
def stN : M (Ex × St) → Option St
 | .ret (.norm, S) => some S
 | .ret _ => none
 | .split _ a b => match stN a with
   | some S => some S
   | none => stN b
 | .chk _ a => stN a
 | _ => none
def stR : M (Ex × St) → Option St
 | .ret (.ret, S) => some S
 | .ret _ => none
 | .split _ a b => match stR a with
   | some S => some S
   | none => stR b
 | .chk _ a => stR a
 | _ => none
section
variable {Φ : Sig} {ρ : Env} {β : Map} {w : World}
theorem sim_start {vs : List V} {bs : Bs} {nb nv N : Nat} {fa : Facts} {args : List Value} (hfa : fa.hold Φ ρ) (hargs : repVs (T.den Φ ρ) β vs args) (hb : inHeap β w) (hm : memRep (T.den Φ ρ) β w (look bs)) (hfree : ∀ j, nb ≤ j → β j = none) (hsz : args.length ≤ N) :
   Sim Φ ρ ⟨N, someMe bs, β, w, nb, []⟩ ⟨initTm vs 0, someMe bs, nb, nv, fa⟩ β { tmps := args.toArray ++ Array.replicate (N - args.toArray.size) undef, defers := [] } w := by
 have hm' : memRep (T.den Φ ρ) β w (lookM (someMe bs)) := memRep_ext hm (someMe_look bs)
 refine ⟨⟨[], rfl, ?_, hm', hb, ?_, rfl, fun _ => rfl, Run.start _ _ _ _ hfree⟩, hfa, hfree, Nat.le_refl _⟩
 · intro t v hv _
   obtain ⟨_, x, hx, hr⟩ := initTm_look 0 hargs hv
   refine ⟨x, ?_, hr⟩
   rw [Nat.sub_zero] at hx
   rw [Array.getElem?_append_left (by have := (List.getElem?_eq_some_iff.1 hx).1; simpa using this)]
   simpa using hx
 · simp; omega
theorem sim_new {tm : List (Nat × V)} {bs : Bs} {nb nv : Nat} {fa : Facts} {a : Act} (hfa : fa.hold Φ ρ) (ht : tmRep (T.den Φ ρ) β (look tm) a.tmps) (hb : inHeap β w) (hm : memRep (T.den Φ ρ) β w (look bs)) (hfree : ∀ j, nb ≤ j → β j = none) :
   Sim Φ ρ ⟨a.tmps.size, someMe bs, β, w, nb, a.defers⟩ ⟨tm, someMe bs, nb, nv, fa⟩ β a w :=
 ⟨⟨[], rfl, ht, memRep_ext hm (someMe_look bs), hb, rfl, rfl, fun _ => rfl, Run.start _ _ _ _ hfree⟩, hfa, hfree, Nat.le_refl _⟩
end
section
variable {E : Ev} {β β' : Map} {w w' : World} {base d : List (Nat × Option MB)} {nb : Nat}
theorem own_cells {pl : Place} {m : MB} (hr : m.rep E β w pl) (hw : m.rw = true) (hz : pl.sz ≠ 0) : pl.o = 0 ∧ ∃ arr ty, w.heap[pl.b]? = some (.cells arr ty (0, 0)) ∧ pl.sz ≤ arr.size := by
 rcases hr.2 hw with h | h
 · exact absurd h hz
 · exact h
theorem run_block (hr : Run base β w nb d β' w') {k : Nat} (hk : k < w.heap.size) (hne : ∀ j m pl, lookM base j = some m → m.rw = true → β j = some pl → pl.sz ≠ 0 → k ≠ pl.b) : w'.heap[k]? = w.heap[k]? := by
 refine hr.kept k hk (fun j pl hd hj hb hz => ?_)
 obtain ⟨m, hm, hw⟩ := hr.wr j hd hj
 exact hne j m pl hm hw hb hz
theorem run_other (hr : Run base β w nb d β' w') (hm : memRep E β w (lookM base)) {k : Nat} {o : Obj} (hk : w.heap[k]? = some o) (ho : o.isCells = false) : w'.heap[k]? = some o := by
 rw [run_block hr (Array.getElem?_eq_some_iff.1 hk).1 ?_, hk]
 rintro j m pl hj hw hb hz rfl
 obtain ⟨pl', hb', hrep⟩ := hm.1 j m hj
 rw [hb] at hb'
 injection hb' with hb'
 subst hb'
 obtain ⟨_, arr, ty, hc, _⟩ := own_cells hrep hw hz
 rw [hk] at hc
 injection hc with hc
 subst hc; cases ho
theorem one_cell {me : Nat → Option MB} (hm : memRep E β w me) {j : Nat} {x : C} (hj : me j = some ⟨true, .cells [x]⟩) : ∃ b sz v arr ty, β j = some ⟨b, 0, sz⟩ ∧ sz ≠ 0 ∧ w.heap[b]? = some (.cells arr ty (0, 0)) ∧ w.cell? ⟨b, 0, none⟩ = some v ∧ x.rep E β v := by
 obtain ⟨⟨b, o, sz⟩, hb, hrep⟩ := hm.1 j _ hj
 have hc := hrep.1
 have h1 : 1 ≤ sz := hc.1
 obtain ⟨ho, arr, ty, ha, _⟩ := own_cells hrep rfl (show sz ≠ 0 by omega)
 have ho : o = 0 := ho
 subst ho
 obtain ⟨v, hv, hx⟩ := hc.2 0 x rfl
 exact ⟨b, sz, v, arr, ty, hb, by omega, ha, hv, hx⟩
theorem cell_same {a : Addr} (h : w'.heap[a.block]? = w.heap[a.block]?) : w'.cell? a = w.cell? a := by simp only [World.cell?, h]
theorem mem_same {me : Nat → Option MB} (hm : memRep E β w me) (h : ∀ j m pl, me j = some m → β j = some pl → pl.sz ≠ 0 → w'.heap[pl.b]? = w.heap[pl.b]?) : memRep E β w' me :=
 ⟨fun j m hj => by obtain ⟨pl, hb, hr⟩ := hm.1 j m hj; exact ⟨pl, hb, MB.rep_keep hr (Map.le_refl β) (fun hz => h j m pl hj hb hz)⟩, hm.2⟩
theorem StepR.calm {bs : Nat → Option MB} {nb' : Nat} (hb : Below w.heap.size w w') (hge : nb ≤ nb') (hf : ∀ j, nb ≤ j → β j = none) : StepR E bs β w nb [] nb' β w' where
 ge := hge
 le := Map.le_refl _
 old := fun _ _ => rfl
 os := hb.os
 tape := hb.tape
 output := hb.output
 size := hb.size
 kept := fun b h _ => hb.block b h
 mem := fun j m' h => by cases h
 wr := fun j h => by cases h
 new := fun j p hn hj hs => by rw [hf j hn.1] at hj; cases hj
 excl := fun j j' m m' pl pl' _ _ _ h => by cases h
theorem StepR.fresh_at {bs : Nat → Option MB} {nb' j : Nat} {pl : Place} {m : MB} (hb : Below w.heap.size w w') (hf : ∀ j, nb ≤ j → β j = none) (h1 : nb ≤ j) (h2 : j < nb') (hpl : pl.sz ≠ 0 → w.heap.size ≤ pl.b ∧ pl.b < w'.heap.size) (hm : m.rep E (β.with j pl) w' pl) :
   StepR E bs β w nb [(j, some m)] nb' (β.with j pl) w' where
 ge := by omega
 le := Map.le_with (hf j h1)
 old := fun i hi => Map.with_other β pl (fun e => hi (by subst e; exact ⟨h1, h2⟩))
 os := hb.os
 tape := hb.tape
 output := hb.output
 size := hb.size
 kept := fun b h _ => hb.block b h
 mem := fun i m' h => by
   simp only [lookM] at h
   split at h
   · rename_i e
     injection h with h
     subst h
     rw [← Nat.eq_of_beq_eq_true e]
     exact ⟨pl, Map.with_self _ _ _, hm⟩
   · cases h
 wr := fun i h hn => by
   simp only [hasK, Bool.or_false] at h
   exact absurd (by have := Nat.eq_of_beq_eq_true h; subst this; exact ⟨h1, h2⟩) hn
 new := fun i p hn hj hs => by
   by_cases e : i = j
   · subst e
     rw [Map.with_self] at hj
     injection hj with hj
     subst hj
     exact ⟨(hpl hs).2, .inl (hpl hs).1⟩
   · rw [Map.with_other β pl e, hf i hn.1] at hj; cases hj
 excl := fun i i' m' m'' _ _ hne hn hn' h h' => by
   simp only [lookM] at h h'
   split at h
   · split at h'
     · rename_i e e'
       exact absurd ((Nat.eq_of_beq_eq_true e).symm.trans (Nat.eq_of_beq_eq_true e')) hne
     · cases h'
   · cases h
end
section
variable {F : Fence} {n : Nat} {P : Program} {ops : Array Oper} {Q : Exit → Act → World → Prop} {a : Act} {w : World} {rest : List Oper} {o : Oper}
theorem wpListIn_move (hg : o.guard = none) {x : Operand} (hop : o.op = Op.move x) (hK : wpListIn F n P ops Q rest (a.put o.dst (a.eval x)) w) : wpListIn F n P ops Q (o :: rest) a w := by
 refine wpListIn_plain hg fun K hK' => ?_
 unfold Oper.wpIn
 refine ⟨?_, ?_⟩
 · simp [Oper.about, hop]
 · rw [Oper.semAt_plain F _ _ (by rw [hop]; intro c hc'; cases hc')]
   simp [execOp, hop]
   exact hK' _ _ hK
theorem wpListIn_call1 (hg : o.guard = none) {f : FuncId} {x : Operand} {ats : Array TypeId} (hop : o.op = Op.call { callee := Callee.value (.func f), args := #[x], argTypes := ats }) (hF : F.fn f) (hd : F.depth = none) (eg : ∀ args w, (callFunc f args).run P w = .ok (.enter f args) w)
   (hc : CallsIn F (n - 1) P f #[a.eval x] w fun e w' => ∃ v, e = .returned v ∧ wpListIn F n P ops Q rest (a.put o.dst v) w') : wpListIn F n P ops Q (o :: rest) a w := by
 refine wpListIn_plain hg fun K hK' => ?_
 unfold Oper.wpIn
 refine ⟨?_, ?_⟩
 · intro f' hf'
   simp [Oper.about, hop, resolve, Target.leads, Deferred.ofValue, Act.eval] at hf'
   subst hf'; exact hF
 · rw [Oper.semAt_plain F _ _ (by rw [hop]; intro c hc'; cases hc')]
   have e : (execOp a.eval o).run P w = .ok (.enter f #[a.eval x]) w := by
     simp [execOp, hop, resolve, Deferred.ofValue, invoke, Act.eval, eg]
   rw [e]
   refine ⟨fun h => (by rw [hd] at h; cases h), hc.mono ?_⟩
   rintro e w' ⟨v, rfl, h⟩
   exact hK' _ _ h
end
end Go.Proofs.YtfhjlimdakphcaaGreat.Sx
set_option maxRecDepth 100000
namespace Go.Proofs.YtfhjlimdakphcaaGreat.Sx
open Go
def treeWsSize : M (V × St) :=
(.split (.c2 .lt (.var 0) (.num 1))
 (.ret (.t [.c (.i .i64 (.num 0)), .c (.i .i64 (.num 120))], ⟨[], [], 2, 1, []⟩))
 (.split (.c2 .lt (.num 6) (.var 0))
 (.ret (.t [.c (.i .i64 (.num 0)), .c (.i .i64 (.num 120))], ⟨[], [], 2, 1, []⟩))
 (.split (.c2 .eq (.var 0) (.num 1))
 (.ret (.t [.c (.i .i64 (.num 14)), .c (.i .i64 (.num 0))], ⟨[], [], 3, 1, []⟩))
 (.split (.c2 .eq (.var 0) (.num 2))
 (.ret (.t [.c (.i .i64 (.num 4)), .c (.i .i64 (.num 0))], ⟨[], [], 3, 1, []⟩))
 (.split (.c2 .eq (.var 0) (.num 3))
 (.ret (.t [.c (.i .i64 (.num 20)), .c (.i .i64 (.num 0))], ⟨[], [], 3, 1, []⟩))
 (.split (.c2 .eq (.var 0) (.num 4))
 (.ret (.t [.c (.i .i64 (.num 40)), .c (.i .i64 (.num 0))], ⟨[], [], 3, 1, []⟩))
 (.split (.c2 .eq (.var 0) (.num 5))
 (.ret (.t [.c (.i .i64 (.num 20)), .c (.i .i64 (.num 0))], ⟨[], [], 3, 1, []⟩))
 (.split (.c2 .eq (.var 0) (.num 6))
 (.ret (.t [.c (.i .i64 (.num 8)), .c (.i .i64 (.num 0))], ⟨[], [], 3, 1, []⟩))
 (.fail 11)))))))))
theorem treeWsSize_is : funTree (ctxN Go.Proofs.Tryz.prog annsWr [] 8) annsWr 22 tSize.vs tSize.bs tSize.n (preF tSize.res) = treeWsSize := by kernel_rfl
end Go.Proofs.YtfhjlimdakphcaaGreat.Sx
set_option maxRecDepth 100000
namespace Go.Proofs.YtfhjlimdakphcaaGreat.Sx
open Go
def treeWsSizeR : M (V × St) :=
(.split (.c2 .lt (.num 6) (.var 0))
 (.ret (.t [.c (.i .i64 (.num 0)), .c (.i .i64 (.num 120))], ⟨[], [], 1, 1, []⟩))
 (.split (.c2 .eq (.c2 .rd (.cons (.num 0) (.cons (.num 14) (.cons (.num 4) (.cons (.num 20) (.cons (.num 40) (.cons (.num 20) (.cons (.num 8) .nil))))))) (.var 0)) (.num 0))
 (.ret (.t [.c (.i .i64 (.num 0)), .c (.i .i64 (.num 120))], ⟨[], [], 1, 1, []⟩))
 (.ret (.t [.c (.i .i64 (.c2 .rd (.cons (.num 0) (.cons (.num 14) (.cons (.num 4) (.cons (.num 20) (.cons (.num 40) (.cons (.num 20) (.cons (.num 8) .nil))))))) (.var 0))), .c (.i .i64 (.num 0))], ⟨[], [], 1, 1, []⟩))))
theorem treeWsSizeR_is : funTree (ctxN Go.Proofs.Tryz.prog annsWr [] 8) annsWr 44 tSize.vs tSize.bs tSize.n (preF tSize.res) = treeWsSizeR := by kernel_rfl
end Go.Proofs.YtfhjlimdakphcaaGreat.Sx
set_option maxRecDepth 100000
namespace Go.Proofs.YtfhjlimdakphcaaGreat.Sx
open Go
def xWcChk0 : T := (.c2 .and (.c2 .eq (.num 0) (.var 65)) (.c2 .and (.c2 .eq (.num 0) (.var 66)) (.c2 .and (.c2 .eq (.num 0) (.var 67)) (.c2 .and (.c2 .eq (.num 0) (.var 68)) (.c2 .and (.c2 .eq (.num 0) (.var 69)) (.c2 .and (.c2 .eq (.num 0) (.var 70)) (.c2 .and (.c2 .eq (.num 0) (.var 71)) (.c2 .eq (.num 0) (.var 72)))))))))
def xWcChk1 : T := (.c2 .and (.c2 .eq (.num 0) (.var 29)) (.c2 .and (.c2 .eq (.num 0) (.var 30)) (.c2 .and (.c2 .eq (.num 0) (.var 31)) (.c2 .and (.c2 .eq (.num 0) (.var 32)) (.c2 .and (.c2 .eq (.num 0) (.var 33)) (.c2 .and (.c2 .eq (.num 0) (.var 34)) (.c2 .and (.c2 .eq (.num 0) (.var 35)) (.c2 .and (.c2 .eq (.num 0) (.var 36)) (.c2 .and (.c2 .eq (.num 0) (.var 37)) (.c2 .and (.c2 .eq (.num 0) (.var 38)) (.c2 .and (.c2 .eq (.num 0) (.var 39)) (.c2 .and (.c2 .eq (.num 0) (.var 40)) (.c2 .and (.c2 .eq (.num 0) (.var 41)) (.c2 .and (.c2 .eq (.num 0) (.var 42)) (.c2 .and (.c2 .eq (.num 0) (.var 43)) (.c2 .and (.c2 .eq (.num 0) (.var 44)) (.c2 .and (.c2 .eq (.num 0) (.var 45)) (.c2 .and (.c2 .eq (.num 0) (.var 46)) (.c2 .and (.c2 .eq (.num 0) (.var 47)) (.c2 .and (.c2 .eq (.num 0) (.var 48)) (.c2 .and (.c2 .eq (.num 0) (.var 49)) (.c2 .and (.c2 .eq (.num 0) (.var 50)) (.c2 .and (.c2 .eq (.num 0) (.var 51)) (.c2 .and (.c2 .eq (.num 0) (.var 52)) (.c2 .and (.c2 .eq (.num 0) (.var 53)) (.c2 .and (.c2 .eq (.num 0) (.var 54)) (.c2 .and (.c2 .eq (.num 0) (.var 55)) (.c2 .and (.c2 .eq (.num 0) (.var 56)) (.c2 .and (.c2 .eq (.num 0) (.var 57)) (.c2 .and (.c2 .eq (.num 0) (.var 58)) (.c2 .and (.c2 .eq (.num 0) (.var 59)) (.c2 .and (.c2 .eq (.num 0) (.var 60)) (.c2 .and (.c2 .eq (.num 0) (.var 61)) (.c2 .and (.c2 .eq (.num 0) (.var 62)) (.c2 .and (.c2 .eq (.num 0) (.var 63)) (.c2 .and (.c2 .eq (.num 0) (.var 64)) xWcChk0))))))))))))))))))))))))))))))))))))
def xWcChk2 : T := (.c2 .and (.c2 .eq (.num 0) (.var 17)) (.c2 .and (.c2 .eq (.num 0) (.var 18)) (.c2 .and (.c2 .eq (.num 0) (.var 19)) (.c2 .and (.c2 .eq (.num 0) (.var 20)) (.c2 .and (.c2 .eq (.num 0) (.var 21)) (.c2 .and (.c2 .eq (.num 0) (.var 22)) (.c2 .and (.c2 .eq (.num 0) (.var 23)) (.c2 .and (.c2 .eq (.num 0) (.var 24)) (.c2 .and (.c2 .eq (.num 0) (.var 25)) (.c2 .and (.c2 .eq (.num 0) (.var 26)) (.c2 .and (.c2 .eq (.num 0) (.var 27)) (.c2 .and (.c2 .eq (.num 0) (.var 28)) xWcChk1))))))))))))
def treeWcChk : M (V × St) :=
(.split (.c2 .lt (.var 0) (.num 1))
 (.ret (.w (.c (.i .i64 (.num 120))), ⟨[], [], 6, 73, []⟩))
 (.split (.c2 .lt (.num 6) (.var 0))
 (.ret (.w (.c (.i .i64 (.num 120))), ⟨[], [], 6, 73, []⟩))
 (.split (.c2 .eq (.var 0) (.num 1))
 (.split (.c1 .not (.c2 .and (.c2 .eq (.num 0) (.var 14)) (.c2 .and (.c2 .eq (.num 0) (.var 15)) (.c2 .and (.c2 .eq (.num 0) (.var 16)) xWcChk2))))
 (.ret (.w (.c (.i .i64 (.num 120))), ⟨[], [], 10, 73, []⟩))
 (.ret (.w (.c (.i .i64 (.num 0))), ⟨[], [], 12, 73, []⟩)))
 (.split (.c2 .eq (.var 0) (.num 2))
 (.split (.c1 .not (.c2 .and (.c2 .eq (.num 0) (.var 1)) (.c2 .and (.c2 .eq (.num 0) (.var 2)) (.c2 .and (.c2 .eq (.num 0) (.var 3)) (.c2 .and (.c2 .eq (.num 0) (.var 4)) (.c2 .and (.c2 .eq (.num 0) (.var 5)) (.c2 .and (.c2 .eq (.num 0) (.var 6)) (.c2 .and (.c2 .eq (.num 0) (.var 7)) (.c2 .and (.c2 .eq (.num 0) (.var 8)) (.c2 .and (.c2 .eq (.num 0) (.var 9)) (.c2 .and (.c2 .eq (.num 0) (.var 10)) (.c2 .and (.c2 .eq (.num 0) (.var 11)) (.c2 .and (.c2 .eq (.num 0) (.var 12)) (.c2 .and (.c2 .eq (.num 0) (.var 13)) xWcChk2))))))))))))))
 (.ret (.w (.c (.i .i64 (.num 120))), ⟨[], [], 10, 73, []⟩))
 (.split (.c2 .lt (.num 7) (.var 14))
 (.ret (.w (.c (.i .i64 (.num 60))), ⟨[], [], 12, 73, []⟩))
 (.split (.c2 .lt (.num 4095) (.var 15))
 (.ret (.w (.c (.i .i64 (.num 60))), ⟨[], [], 12, 73, []⟩))
 (.ret (.w (.c (.i .i64 (.num 0))), ⟨[], [], 12, 73, []⟩)))))
 (.split (.c2 .eq (.var 0) (.num 3))
 (.split (.c1 .not (.c2 .and (.c2 .eq (.num 0) (.var 1)) (.c2 .and (.c2 .eq (.num 0) (.var 2)) (.c2 .and (.c2 .eq (.num 0) (.var 3)) (.c2 .and (.c2 .eq (.num 0) (.var 4)) (.c2 .and (.c2 .eq (.num 0) (.var 5)) (.c2 .and (.c2 .eq (.num 0) (.var 6)) (.c2 .and (.c2 .eq (.num 0) (.var 7)) (.c2 .and (.c2 .eq (.num 0) (.var 8)) (.c2 .and (.c2 .eq (.num 0) (.var 9)) (.c2 .and (.c2 .eq (.num 0) (.var 10)) (.c2 .and (.c2 .eq (.num 0) (.var 11)) (.c2 .and (.c2 .eq (.num 0) (.var 12)) (.c2 .and (.c2 .eq (.num 0) (.var 13)) (.c2 .and (.c2 .eq (.num 0) (.var 14)) (.c2 .and (.c2 .eq (.num 0) (.var 15)) (.c2 .and (.c2 .eq (.num 0) (.var 16)) xWcChk1)))))))))))))))))
 (.ret (.w (.c (.i .i64 (.num 120))), ⟨[], [], 10, 73, []⟩))
 (.ret (.w (.c (.i .i64 (.num 0))), ⟨[], [], 12, 73, []⟩)))
 (.split (.c2 .eq (.var 0) (.num 4))
 (.split (.c1 .not (.c2 .and (.c2 .eq (.num 0) (.var 1)) (.c2 .and (.c2 .eq (.num 0) (.var 2)) (.c2 .and (.c2 .eq (.num 0) (.var 3)) (.c2 .and (.c2 .eq (.num 0) (.var 4)) (.c2 .and (.c2 .eq (.num 0) (.var 5)) (.c2 .and (.c2 .eq (.num 0) (.var 6)) (.c2 .and (.c2 .eq (.num 0) (.var 7)) (.c2 .and (.c2 .eq (.num 0) (.var 8)) (.c2 .and (.c2 .eq (.num 0) (.var 9)) (.c2 .and (.c2 .eq (.num 0) (.var 10)) (.c2 .and (.c2 .eq (.num 0) (.var 11)) (.c2 .and (.c2 .eq (.num 0) (.var 12)) (.c2 .and (.c2 .eq (.num 0) (.var 13)) (.c2 .and (.c2 .eq (.num 0) (.var 14)) (.c2 .and (.c2 .eq (.num 0) (.var 15)) (.c2 .and (.c2 .eq (.num 0) (.var 16)) (.c2 .and (.c2 .eq (.num 0) (.var 17)) (.c2 .and (.c2 .eq (.num 0) (.var 18)) (.c2 .and (.c2 .eq (.num 0) (.var 19)) (.c2 .and (.c2 .eq (.num 0) (.var 20)) (.c2 .and (.c2 .eq (.num 0) (.var 21)) (.c2 .and (.c2 .eq (.num 0) (.var 22)) (.c2 .and (.c2 .eq (.num 0) (.var 23)) (.c2 .and (.c2 .eq (.num 0) (.var 24)) (.c2 .and (.c2 .eq (.num 0) (.var 25)) (.c2 .and (.c2 .eq (.num 0) (.var 26)) (.c2 .and (.c2 .eq (.num 0) (.var 27)) (.c2 .and (.c2 .eq (.num 0) (.var 28)) xWcChk0)))))))))))))))))))))))))))))
 (.ret (.w (.c (.i .i64 (.num 120))), ⟨[], [], 10, 73, []⟩))
 (.split (.c2 .le (.num 1048576) (.var 30))
 (.ret (.w (.c (.i .i64 (.num 80))), ⟨[], [], 12, 73, []⟩))
 (.ret (.w (.c (.i .i64 (.num 0))), ⟨[], [], 12, 73, []⟩))))
 (.split (.c2 .eq (.var 0) (.num 5))
 (.split (.c1 .not (.c2 .and (.c2 .eq (.num 0) (.var 1)) (.c2 .and (.c2 .eq (.num 0) (.var 2)) (.c2 .and (.c2 .eq (.num 0) (.var 3)) (.c2 .and (.c2 .eq (.num 0) (.var 4)) (.c2 .and (.c2 .eq (.num 0) (.var 5)) (.c2 .and (.c2 .eq (.num 0) (.var 6)) (.c2 .and (.c2 .eq (.num 0) (.var 7)) (.c2 .and (.c2 .eq (.num 0) (.var 8)) (.c2 .and (.c2 .eq (.num 0) (.var 9)) (.c2 .and (.c2 .eq (.num 0) (.var 10)) (.c2 .and (.c2 .eq (.num 0) (.var 11)) (.c2 .and (.c2 .eq (.num 0) (.var 12)) (.c2 .and (.c2 .eq (.num 0) (.var 13)) (.c2 .and (.c2 .eq (.num 0) (.var 14)) (.c2 .and (.c2 .eq (.num 0) (.var 15)) (.c2 .and (.c2 .eq (.num 0) (.var 16)) (.c2 .and (.c2 .eq (.num 0) (.var 17)) (.c2 .and (.c2 .eq (.num 0) (.var 18)) (.c2 .and (.c2 .eq (.num 0) (.var 19)) (.c2 .and (.c2 .eq (.num 0) (.var 20)) (.c2 .and (.c2 .eq (.num 0) (.var 21)) (.c2 .and (.c2 .eq (.num 0) (.var 22)) (.c2 .and (.c2 .eq (.num 0) (.var 23)) (.c2 .and (.c2 .eq (.num 0) (.var 24)) (.c2 .and (.c2 .eq (.num 0) (.var 25)) (.c2 .and (.c2 .eq (.num 0) (.var 26)) (.c2 .and (.c2 .eq (.num 0) (.var 27)) (.c2 .and (.c2 .eq (.num 0) (.var 28)) (.c2 .and (.c2 .eq (.num 0) (.var 29)) (.c2 .and (.c2 .eq (.num 0) (.var 30)) (.c2 .and (.c2 .eq (.num 0) (.var 31)) (.c2 .and (.c2 .eq (.num 0) (.var 32)) (.c2 .and (.c2 .eq (.num 0) (.var 33)) (.c2 .and (.c2 .eq (.num 0) (.var 34)) (.c2 .and (.c2 .eq (.num 0) (.var 35)) (.c2 .and (.c2 .eq (.num 0) (.var 36)) (.c2 .and (.c2 .eq (.num 0) (.var 37)) (.c2 .and (.c2 .eq (.num 0) (.var 38)) (.c2 .and (.c2 .eq (.num 0) (.var 39)) (.c2 .and (.c2 .eq (.num 0) (.var 40)) (.c2 .and (.c2 .eq (.num 0) (.var 41)) (.c2 .and (.c2 .eq (.num 0) (.var 42)) (.c2 .and (.c2 .eq (.num 0) (.var 43)) (.c2 .and (.c2 .eq (.num 0) (.var 44)) (.c2 .and (.c2 .eq (.num 0) (.var 45)) (.c2 .and (.c2 .eq (.num 0) (.var 46)) (.c2 .and (.c2 .eq (.num 0) (.var 47)) (.c2 .and (.c2 .eq (.num 0) (.var 48)) (.c2 .and (.c2 .eq (.num 0) (.var 49)) (.c2 .and (.c2 .eq (.num 0) (.var 50)) (.c2 .and (.c2 .eq (.num 0) (.var 51)) (.c2 .and (.c2 .eq (.num 0) (.var 52)) (.c2 .and (.c2 .eq (.num 0) (.var 53)) (.c2 .and (.c2 .eq (.num 0) (.var 54)) (.c2 .and (.c2 .eq (.num 0) (.var 55)) (.c2 .and (.c2 .eq (.num 0) (.var 56)) (.c2 .and (.c2 .eq (.num 0) (.var 57)) (.c2 .and (.c2 .eq (.num 0) (.var 58)) (.c2 .and (.c2 .eq (.num 0) (.var 59)) (.c2 .and (.c2 .eq (.num 0) (.var 60)) (.c2 .and (.c2 .eq (.num 0) (.var 61)) (.c2 .and (.c2 .eq (.num 0) (.var 62)) (.c2 .and (.c2 .eq (.num 0) (.var 63)) (.c2 .and (.c2 .eq (.num 0) (.var 64)) (.c2 .and (.c2 .eq (.num 0) (.var 71)) (.c2 .eq (.num 0) (.var 72))))))))))))))))))))))))))))))))))))))))))))))))))))))))))))))))))))
 (.ret (.w (.c (.i .i64 (.num 120))), ⟨[], [], 10, 73, []⟩))
 (.split (.c2 .le (.num 64) (.var 69))
 (.ret (.w (.c (.i .i64 (.num 90))), ⟨[], [], 12, 73, []⟩))
 (.ret (.w (.c (.i .i64 (.num 0))), ⟨[], [], 12, 73, []⟩))))
 (.split (.c2 .eq (.var 0) (.num 6))
 (.split (.c1 .not (.c2 .and (.c2 .eq (.num 0) (.var 1)) (.c2 .and (.c2 .eq (.num 0) (.var 2)) (.c2 .and (.c2 .eq (.num 0) (.var 3)) (.c2 .and (.c2 .eq (.num 0) (.var 4)) (.c2 .and (.c2 .eq (.num 0) (.var 5)) (.c2 .and (.c2 .eq (.num 0) (.var 6)) (.c2 .and (.c2 .eq (.num 0) (.var 7)) (.c2 .and (.c2 .eq (.num 0) (.var 8)) (.c2 .and (.c2 .eq (.num 0) (.var 9)) (.c2 .and (.c2 .eq (.num 0) (.var 10)) (.c2 .and (.c2 .eq (.num 0) (.var 11)) (.c2 .and (.c2 .eq (.num 0) (.var 12)) (.c2 .and (.c2 .eq (.num 0) (.var 13)) (.c2 .and (.c2 .eq (.num 0) (.var 14)) (.c2 .and (.c2 .eq (.num 0) (.var 15)) (.c2 .and (.c2 .eq (.num 0) (.var 16)) (.c2 .and (.c2 .eq (.num 0) (.var 17)) (.c2 .and (.c2 .eq (.num 0) (.var 18)) (.c2 .and (.c2 .eq (.num 0) (.var 19)) (.c2 .and (.c2 .eq (.num 0) (.var 20)) (.c2 .and (.c2 .eq (.num 0) (.var 21)) (.c2 .and (.c2 .eq (.num 0) (.var 22)) (.c2 .and (.c2 .eq (.num 0) (.var 23)) (.c2 .and (.c2 .eq (.num 0) (.var 24)) (.c2 .and (.c2 .eq (.num 0) (.var 25)) (.c2 .and (.c2 .eq (.num 0) (.var 26)) (.c2 .and (.c2 .eq (.num 0) (.var 27)) (.c2 .and (.c2 .eq (.num 0) (.var 28)) (.c2 .and (.c2 .eq (.num 0) (.var 29)) (.c2 .and (.c2 .eq (.num 0) (.var 30)) (.c2 .and (.c2 .eq (.num 0) (.var 31)) (.c2 .and (.c2 .eq (.num 0) (.var 32)) (.c2 .and (.c2 .eq (.num 0) (.var 33)) (.c2 .and (.c2 .eq (.num 0) (.var 34)) (.c2 .and (.c2 .eq (.num 0) (.var 35)) (.c2 .and (.c2 .eq (.num 0) (.var 36)) (.c2 .and (.c2 .eq (.num 0) (.var 37)) (.c2 .and (.c2 .eq (.num 0) (.var 38)) (.c2 .and (.c2 .eq (.num 0) (.var 39)) (.c2 .and (.c2 .eq (.num 0) (.var 40)) (.c2 .and (.c2 .eq (.num 0) (.var 41)) (.c2 .and (.c2 .eq (.num 0) (.var 42)) (.c2 .and (.c2 .eq (.num 0) (.var 43)) (.c2 .and (.c2 .eq (.num 0) (.var 44)) (.c2 .and (.c2 .eq (.num 0) (.var 45)) (.c2 .and (.c2 .eq (.num 0) (.var 46)) (.c2 .and (.c2 .eq (.num 0) (.var 47)) (.c2 .and (.c2 .eq (.num 0) (.var 48)) (.c2 .and (.c2 .eq (.num 0) (.var 49)) (.c2 .and (.c2 .eq (.num 0) (.var 50)) (.c2 .and (.c2 .eq (.num 0) (.var 51)) (.c2 .and (.c2 .eq (.num 0) (.var 52)) (.c2 .and (.c2 .eq (.num 0) (.var 53)) (.c2 .and (.c2 .eq (.num 0) (.var 54)) (.c2 .and (.c2 .eq (.num 0) (.var 55)) (.c2 .and (.c2 .eq (.num 0) (.var 56)) (.c2 .and (.c2 .eq (.num 0) (.var 57)) (.c2 .and (.c2 .eq (.num 0) (.var 58)) (.c2 .and (.c2 .eq (.num 0) (.var 59)) (.c2 .and (.c2 .eq (.num 0) (.var 60)) (.c2 .and (.c2 .eq (.num 0) (.var 61)) (.c2 .and (.c2 .eq (.num 0) (.var 62)) (.c2 .and (.c2 .eq (.num 0) (.var 63)) (.c2 .and (.c2 .eq (.num 0) (.var 64)) (.c2 .and (.c2 .eq (.num 0) (.var 65)) (.c2 .and (.c2 .eq (.num 0) (.var 66)) (.c2 .and (.c2 .eq (.num 0) (.var 67)) (.c2 .and (.c2 .eq (.num 0) (.var 68)) (.c2 .and (.c2 .eq (.num 0) (.var 69)) (.c2 .eq (.num 0) (.var 70))))))))))))))))))))))))))))))))))))))))))))))))))))))))))))))))))))))))
 (.ret (.w (.c (.i .i64 (.num 120))), ⟨[], [], 10, 73, []⟩))
 (.ret (.w (.c (.i .i64 (.num 0))), ⟨[], [], 12, 73, []⟩)))
 (.fail 11)))))))))
theorem treeWcChk_is : funTree (ctxN Go.Proofs.Tryz.prog annsWr [] 8) annsWr 21 tCheck.vs tCheck.bs tCheck.n (preF tCheck.res) = treeWcChk := by kernel_rfl
end Go.Proofs.YtfhjlimdakphcaaGreat.Sx
set_option maxRecDepth 100000
namespace Go.Proofs.YtfhjlimdakphcaaGreat.Sx
open Go
def treeWcChkR : M (V × St) :=
(.split (.c2 .lt (.num 6) (.var 0))
 (.ret (.w (.c (.i .i64 (.num 120))), ⟨[], [], 2, 73, []⟩))
 (.split (.c2 .eq (.c2 .rd (.cons (.num 0) (.cons (.num 14) (.cons (.num 4) (.cons (.num 20) (.cons (.num 40) (.cons (.num 20) (.cons (.num 8) .nil))))))) (.var 0)) (.num 0))
 (.ret (.w (.c (.i .i64 (.num 120))), ⟨[], [], 2, 73, []⟩))
 (.split (.c2 .eq (.var 0) (.num 1))
 (.split (.c1 .not (.c2 .and (.c2 .eq (.num 0) (.var 14)) (.c2 .and (.c2 .eq (.num 0) (.var 15)) (.c2 .and (.c2 .eq (.num 0) (.var 16)) xWcChk2))))
 (.ret (.w (.c (.i .i64 (.num 120))), ⟨[], [], 5, 73, []⟩))
 (.ret (.w (.c (.i .i64 (.num 0))), ⟨[], [], 5, 73, []⟩)))
 (.split (.c2 .eq (.var 0) (.num 2))
 (.split (.c1 .not (.c2 .and (.c2 .eq (.num 0) (.var 1)) (.c2 .and (.c2 .eq (.num 0) (.var 2)) (.c2 .and (.c2 .eq (.num 0) (.var 3)) (.c2 .and (.c2 .eq (.num 0) (.var 4)) (.c2 .and (.c2 .eq (.num 0) (.var 5)) (.c2 .and (.c2 .eq (.num 0) (.var 6)) (.c2 .and (.c2 .eq (.num 0) (.var 7)) (.c2 .and (.c2 .eq (.num 0) (.var 8)) (.c2 .and (.c2 .eq (.num 0) (.var 9)) (.c2 .and (.c2 .eq (.num 0) (.var 10)) (.c2 .and (.c2 .eq (.num 0) (.var 11)) (.c2 .and (.c2 .eq (.num 0) (.var 12)) (.c2 .and (.c2 .eq (.num 0) (.var 13)) xWcChk2))))))))))))))
 (.ret (.w (.c (.i .i64 (.num 120))), ⟨[], [], 5, 73, []⟩))
 (.split (.c2 .lt (.num 7) (.var 14))
 (.ret (.w (.c (.i .i64 (.num 60))), ⟨[], [], 6, 73, []⟩))
 (.split (.c2 .lt (.num 4095) (.var 15))
 (.ret (.w (.c (.i .i64 (.num 60))), ⟨[], [], 6, 73, []⟩))
 (.ret (.w (.c (.i .i64 (.num 0))), ⟨[], [], 6, 73, []⟩)))))
 (.split (.c2 .eq (.var 0) (.num 3))
 (.split (.c1 .not (.c2 .and (.c2 .eq (.num 0) (.var 1)) (.c2 .and (.c2 .eq (.num 0) (.var 2)) (.c2 .and (.c2 .eq (.num 0) (.var 3)) (.c2 .and (.c2 .eq (.num 0) (.var 4)) (.c2 .and (.c2 .eq (.num 0) (.var 5)) (.c2 .and (.c2 .eq (.num 0) (.var 6)) (.c2 .and (.c2 .eq (.num 0) (.var 7)) (.c2 .and (.c2 .eq (.num 0) (.var 8)) (.c2 .and (.c2 .eq (.num 0) (.var 9)) (.c2 .and (.c2 .eq (.num 0) (.var 10)) (.c2 .and (.c2 .eq (.num 0) (.var 11)) (.c2 .and (.c2 .eq (.num 0) (.var 12)) (.c2 .and (.c2 .eq (.num 0) (.var 13)) (.c2 .and (.c2 .eq (.num 0) (.var 14)) (.c2 .and (.c2 .eq (.num 0) (.var 15)) (.c2 .and (.c2 .eq (.num 0) (.var 16)) xWcChk1)))))))))))))))))
 (.ret (.w (.c (.i .i64 (.num 120))), ⟨[], [], 5, 73, []⟩))
 (.ret (.w (.c (.i .i64 (.num 0))), ⟨[], [], 5, 73, []⟩)))
 (.split (.c2 .eq (.var 0) (.num 4))
 (.split (.c1 .not (.c2 .and (.c2 .eq (.num 0) (.var 1)) (.c2 .and (.c2 .eq (.num 0) (.var 2)) (.c2 .and (.c2 .eq (.num 0) (.var 3)) (.c2 .and (.c2 .eq (.num 0) (.var 4)) (.c2 .and (.c2 .eq (.num 0) (.var 5)) (.c2 .and (.c2 .eq (.num 0) (.var 6)) (.c2 .and (.c2 .eq (.num 0) (.var 7)) (.c2 .and (.c2 .eq (.num 0) (.var 8)) (.c2 .and (.c2 .eq (.num 0) (.var 9)) (.c2 .and (.c2 .eq (.num 0) (.var 10)) (.c2 .and (.c2 .eq (.num 0) (.var 11)) (.c2 .and (.c2 .eq (.num 0) (.var 12)) (.c2 .and (.c2 .eq (.num 0) (.var 13)) (.c2 .and (.c2 .eq (.num 0) (.var 14)) (.c2 .and (.c2 .eq (.num 0) (.var 15)) (.c2 .and (.c2 .eq (.num 0) (.var 16)) (.c2 .and (.c2 .eq (.num 0) (.var 17)) (.c2 .and (.c2 .eq (.num 0) (.var 18)) (.c2 .and (.c2 .eq (.num 0) (.var 19)) (.c2 .and (.c2 .eq (.num 0) (.var 20)) (.c2 .and (.c2 .eq (.num 0) (.var 21)) (.c2 .and (.c2 .eq (.num 0) (.var 22)) (.c2 .and (.c2 .eq (.num 0) (.var 23)) (.c2 .and (.c2 .eq (.num 0) (.var 24)) (.c2 .and (.c2 .eq (.num 0) (.var 25)) (.c2 .and (.c2 .eq (.num 0) (.var 26)) (.c2 .and (.c2 .eq (.num 0) (.var 27)) (.c2 .and (.c2 .eq (.num 0) (.var 28)) xWcChk0)))))))))))))))))))))))))))))
 (.ret (.w (.c (.i .i64 (.num 120))), ⟨[], [], 5, 73, []⟩))
 (.split (.c2 .le (.num 1048576) (.var 30))
 (.ret (.w (.c (.i .i64 (.num 80))), ⟨[], [], 6, 73, []⟩))
 (.ret (.w (.c (.i .i64 (.num 0))), ⟨[], [], 6, 73, []⟩))))
 (.split (.c2 .eq (.var 0) (.num 5))
 (.split (.c1 .not (.c2 .and (.c2 .eq (.num 0) (.var 1)) (.c2 .and (.c2 .eq (.num 0) (.var 2)) (.c2 .and (.c2 .eq (.num 0) (.var 3)) (.c2 .and (.c2 .eq (.num 0) (.var 4)) (.c2 .and (.c2 .eq (.num 0) (.var 5)) (.c2 .and (.c2 .eq (.num 0) (.var 6)) (.c2 .and (.c2 .eq (.num 0) (.var 7)) (.c2 .and (.c2 .eq (.num 0) (.var 8)) (.c2 .and (.c2 .eq (.num 0) (.var 9)) (.c2 .and (.c2 .eq (.num 0) (.var 10)) (.c2 .and (.c2 .eq (.num 0) (.var 11)) (.c2 .and (.c2 .eq (.num 0) (.var 12)) (.c2 .and (.c2 .eq (.num 0) (.var 13)) (.c2 .and (.c2 .eq (.num 0) (.var 14)) (.c2 .and (.c2 .eq (.num 0) (.var 15)) (.c2 .and (.c2 .eq (.num 0) (.var 16)) (.c2 .and (.c2 .eq (.num 0) (.var 17)) (.c2 .and (.c2 .eq (.num 0) (.var 18)) (.c2 .and (.c2 .eq (.num 0) (.var 19)) (.c2 .and (.c2 .eq (.num 0) (.var 20)) (.c2 .and (.c2 .eq (.num 0) (.var 21)) (.c2 .and (.c2 .eq (.num 0) (.var 22)) (.c2 .and (.c2 .eq (.num 0) (.var 23)) (.c2 .and (.c2 .eq (.num 0) (.var 24)) (.c2 .and (.c2 .eq (.num 0) (.var 25)) (.c2 .and (.c2 .eq (.num 0) (.var 26)) (.c2 .and (.c2 .eq (.num 0) (.var 27)) (.c2 .and (.c2 .eq (.num 0) (.var 28)) (.c2 .and (.c2 .eq (.num 0) (.var 29)) (.c2 .and (.c2 .eq (.num 0) (.var 30)) (.c2 .and (.c2 .eq (.num 0) (.var 31)) (.c2 .and (.c2 .eq (.num 0) (.var 32)) (.c2 .and (.c2 .eq (.num 0) (.var 33)) (.c2 .and (.c2 .eq (.num 0) (.var 34)) (.c2 .and (.c2 .eq (.num 0) (.var 35)) (.c2 .and (.c2 .eq (.num 0) (.var 36)) (.c2 .and (.c2 .eq (.num 0) (.var 37)) (.c2 .and (.c2 .eq (.num 0) (.var 38)) (.c2 .and (.c2 .eq (.num 0) (.var 39)) (.c2 .and (.c2 .eq (.num 0) (.var 40)) (.c2 .and (.c2 .eq (.num 0) (.var 41)) (.c2 .and (.c2 .eq (.num 0) (.var 42)) (.c2 .and (.c2 .eq (.num 0) (.var 43)) (.c2 .and (.c2 .eq (.num 0) (.var 44)) (.c2 .and (.c2 .eq (.num 0) (.var 45)) (.c2 .and (.c2 .eq (.num 0) (.var 46)) (.c2 .and (.c2 .eq (.num 0) (.var 47)) (.c2 .and (.c2 .eq (.num 0) (.var 48)) (.c2 .and (.c2 .eq (.num 0) (.var 49)) (.c2 .and (.c2 .eq (.num 0) (.var 50)) (.c2 .and (.c2 .eq (.num 0) (.var 51)) (.c2 .and (.c2 .eq (.num 0) (.var 52)) (.c2 .and (.c2 .eq (.num 0) (.var 53)) (.c2 .and (.c2 .eq (.num 0) (.var 54)) (.c2 .and (.c2 .eq (.num 0) (.var 55)) (.c2 .and (.c2 .eq (.num 0) (.var 56)) (.c2 .and (.c2 .eq (.num 0) (.var 57)) (.c2 .and (.c2 .eq (.num 0) (.var 58)) (.c2 .and (.c2 .eq (.num 0) (.var 59)) (.c2 .and (.c2 .eq (.num 0) (.var 60)) (.c2 .and (.c2 .eq (.num 0) (.var 61)) (.c2 .and (.c2 .eq (.num 0) (.var 62)) (.c2 .and (.c2 .eq (.num 0) (.var 63)) (.c2 .and (.c2 .eq (.num 0) (.var 64)) (.c2 .and (.c2 .eq (.num 0) (.var 71)) (.c2 .eq (.num 0) (.var 72))))))))))))))))))))))))))))))))))))))))))))))))))))))))))))))))))))
 (.ret (.w (.c (.i .i64 (.num 120))), ⟨[], [], 5, 73, []⟩))
 (.split (.c2 .le (.num 64) (.var 69))
 (.ret (.w (.c (.i .i64 (.num 90))), ⟨[], [], 6, 73, []⟩))
 (.ret (.w (.c (.i .i64 (.num 0))), ⟨[], [], 6, 73, []⟩))))
 (.split (.c2 .eq (.var 0) (.num 6))
 (.split (.c1 .not (.c2 .and (.c2 .eq (.num 0) (.var 1)) (.c2 .and (.c2 .eq (.num 0) (.var 2)) (.c2 .and (.c2 .eq (.num 0) (.var 3)) (.c2 .and (.c2 .eq (.num 0) (.var 4)) (.c2 .and (.c2 .eq (.num 0) (.var 5)) (.c2 .and (.c2 .eq (.num 0) (.var 6)) (.c2 .and (.c2 .eq (.num 0) (.var 7)) (.c2 .and (.c2 .eq (.num 0) (.var 8)) (.c2 .and (.c2 .eq (.num 0) (.var 9)) (.c2 .and (.c2 .eq (.num 0) (.var 10)) (.c2 .and (.c2 .eq (.num 0) (.var 11)) (.c2 .and (.c2 .eq (.num 0) (.var 12)) (.c2 .and (.c2 .eq (.num 0) (.var 13)) (.c2 .and (.c2 .eq (.num 0) (.var 14)) (.c2 .and (.c2 .eq (.num 0) (.var 15)) (.c2 .and (.c2 .eq (.num 0) (.var 16)) (.c2 .and (.c2 .eq (.num 0) (.var 17)) (.c2 .and (.c2 .eq (.num 0) (.var 18)) (.c2 .and (.c2 .eq (.num 0) (.var 19)) (.c2 .and (.c2 .eq (.num 0) (.var 20)) (.c2 .and (.c2 .eq (.num 0) (.var 21)) (.c2 .and (.c2 .eq (.num 0) (.var 22)) (.c2 .and (.c2 .eq (.num 0) (.var 23)) (.c2 .and (.c2 .eq (.num 0) (.var 24)) (.c2 .and (.c2 .eq (.num 0) (.var 25)) (.c2 .and (.c2 .eq (.num 0) (.var 26)) (.c2 .and (.c2 .eq (.num 0) (.var 27)) (.c2 .and (.c2 .eq (.num 0) (.var 28)) (.c2 .and (.c2 .eq (.num 0) (.var 29)) (.c2 .and (.c2 .eq (.num 0) (.var 30)) (.c2 .and (.c2 .eq (.num 0) (.var 31)) (.c2 .and (.c2 .eq (.num 0) (.var 32)) (.c2 .and (.c2 .eq (.num 0) (.var 33)) (.c2 .and (.c2 .eq (.num 0) (.var 34)) (.c2 .and (.c2 .eq (.num 0) (.var 35)) (.c2 .and (.c2 .eq (.num 0) (.var 36)) (.c2 .and (.c2 .eq (.num 0) (.var 37)) (.c2 .and (.c2 .eq (.num 0) (.var 38)) (.c2 .and (.c2 .eq (.num 0) (.var 39)) (.c2 .and (.c2 .eq (.num 0) (.var 40)) (.c2 .and (.c2 .eq (.num 0) (.var 41)) (.c2 .and (.c2 .eq (.num 0) (.var 42)) (.c2 .and (.c2 .eq (.num 0) (.var 43)) (.c2 .and (.c2 .eq (.num 0) (.var 44)) (.c2 .and (.c2 .eq (.num 0) (.var 45)) (.c2 .and (.c2 .eq (.num 0) (.var 46)) (.c2 .and (.c2 .eq (.num 0) (.var 47)) (.c2 .and (.c2 .eq (.num 0) (.var 48)) (.c2 .and (.c2 .eq (.num 0) (.var 49)) (.c2 .and (.c2 .eq (.num 0) (.var 50)) (.c2 .and (.c2 .eq (.num 0) (.var 51)) (.c2 .and (.c2 .eq (.num 0) (.var 52)) (.c2 .and (.c2 .eq (.num 0) (.var 53)) (.c2 .and (.c2 .eq (.num 0) (.var 54)) (.c2 .and (.c2 .eq (.num 0) (.var 55)) (.c2 .and (.c2 .eq (.num 0) (.var 56)) (.c2 .and (.c2 .eq (.num 0) (.var 57)) (.c2 .and (.c2 .eq (.num 0) (.var 58)) (.c2 .and (.c2 .eq (.num 0) (.var 59)) (.c2 .and (.c2 .eq (.num 0) (.var 60)) (.c2 .and (.c2 .eq (.num 0) (.var 61)) (.c2 .and (.c2 .eq (.num 0) (.var 62)) (.c2 .and (.c2 .eq (.num 0) (.var 63)) (.c2 .and (.c2 .eq (.num 0) (.var 64)) (.c2 .and (.c2 .eq (.num 0) (.var 65)) (.c2 .and (.c2 .eq (.num 0) (.var 66)) (.c2 .and (.c2 .eq (.num 0) (.var 67)) (.c2 .and (.c2 .eq (.num 0) (.var 68)) (.c2 .and (.c2 .eq (.num 0) (.var 69)) (.c2 .eq (.num 0) (.var 70))))))))))))))))))))))))))))))))))))))))))))))))))))))))))))))))))))))))
 (.ret (.w (.c (.i .i64 (.num 120))), ⟨[], [], 5, 73, []⟩))
 (.ret (.w (.c (.i .i64 (.num 0))), ⟨[], [], 5, 73, []⟩)))
 (.split (.c1 .not (.c2 .and (.c2 .eq (.num 0) (.var 1)) (.c2 .and (.c2 .eq (.num 0) (.var 2)) (.c2 .and (.c2 .eq (.num 0) (.var 3)) (.c2 .and (.c2 .eq (.num 0) (.var 4)) (.c2 .and (.c2 .eq (.num 0) (.var 5)) (.c2 .and (.c2 .eq (.num 0) (.var 6)) (.c2 .and (.c2 .eq (.num 0) (.var 7)) (.c2 .and (.c2 .eq (.num 0) (.var 8)) (.c2 .and (.c2 .eq (.num 0) (.var 9)) (.c2 .and (.c2 .eq (.num 0) (.var 10)) (.c2 .and (.c2 .eq (.num 0) (.var 11)) (.c2 .and (.c2 .eq (.num 0) (.var 12)) (.c2 .and (.c2 .eq (.num 0) (.var 13)) (.c2 .and (.c2 .eq (.num 0) (.var 14)) (.c2 .and (.c2 .eq (.num 0) (.var 15)) (.c2 .and (.c2 .eq (.num 0) (.var 16)) xWcChk2)))))))))))))))))
 (.ret (.w (.c (.i .i64 (.num 120))), ⟨[], [], 5, 73, []⟩))
 (.ret (.w (.c (.i .i64 (.num 0))), ⟨[], [], 5, 73, []⟩)))))))))))
theorem treeWcChkR_is : funTree (ctxN Go.Proofs.Tryz.prog annsWr [] 8) annsWr 36 tCheck.vs tCheck.bs tCheck.n (preF tCheck.res) = treeWcChkR := by kernel_rfl
end Go.Proofs.YtfhjlimdakphcaaGreat.Sx
set_option maxRecDepth 100000
namespace Go.Proofs.YtfhjlimdakphcaaGreat.Sx
open Go
def xWuPush3 : T := (.cons (.var 1) (.cons (.var 2) (.cons (.var 3) (.cons (.var 4) (.cons (.var 5) (.cons (.var 6) (.cons (.var 7) (.cons (.var 8) (.cons (.var 9) (.cons (.var 10) (.cons (.var 11) (.cons (.var 12) (.cons (.var 13) .nil)))))))))))))
def xWuPush4 : T := (.cons (.var 17) (.cons (.var 18) (.cons (.var 19) (.cons (.var 20) (.cons (.var 21) (.cons (.var 22) (.cons (.var 23) (.cons (.var 24) (.cons (.var 25) (.cons (.var 26) (.cons (.var 27) (.cons (.var 28) .nil))))))))))))
def xWuPush5 : T := (.cons (.var 29) (.cons (.var 30) (.cons (.var 31) (.cons (.var 32) (.cons (.var 33) (.cons (.var 34) (.cons (.var 35) (.cons (.var 36) (.cons (.var 37) (.cons (.var 38) (.cons (.var 39) (.cons (.var 40) (.cons (.var 41) (.cons (.var 42) (.cons (.var 43) (.cons (.var 44) (.cons (.var 45) (.cons (.var 46) (.cons (.var 47) (.cons (.var 48) (.cons (.var 49) (.cons (.var 50) (.cons (.var 51) (.cons (.var 52) (.cons (.var 53) (.cons (.var 54) (.cons (.var 55) (.cons (.var 56) (.cons (.var 57) (.cons (.var 58) (.cons (.var 59) (.cons (.var 60) (.cons (.var 61) (.cons (.var 62) (.cons (.var 63) (.cons (.var 64) .nil))))))))))))))))))))))))))))))))))))
def treeWuPush : M (V × St) :=
(.split (.c2 .lt (.var 0) (.num 1))
 (.ret (.t [.c (.sn), .c (.i .i64 (.num 120))], ⟨[], [], 7, 74, []⟩))
 (.split (.c2 .lt (.num 6) (.var 0))
 (.ret (.t [.c (.sn), .c (.i .i64 (.num 120))], ⟨[], [], 7, 74, []⟩))
 (.split (.c2 .eq (.var 0) (.num 1))
 (.split (.c1 .not (.c2 .and (.c2 .eq (.num 0) (.var 14)) (.c2 .and (.c2 .eq (.num 0) (.var 15)) (.c2 .and (.c2 .eq (.num 0) (.var 16)) xWcChk2))))
 (.ret (.t [.c (.sn), .c (.i .i64 (.num 120))], ⟨[], [], 11, 74, []⟩))
 (.chk (.c2 .le (.num 0) (.var 1))
 (.chk (.c2 .le (.var 1) (.num 255))
 (.chk (.c2 .le (.num 0) (.var 2))
 (.chk (.c2 .le (.var 2) (.num 255))
 (.chk (.c2 .le (.num 0) (.var 3))
 (.chk (.c2 .le (.var 3) (.num 255))
 (.chk (.c2 .le (.num 0) (.var 4))
 (.chk (.c2 .le (.var 4) (.num 255))
 (.chk (.c2 .le (.num 0) (.var 5))
 (.chk (.c2 .le (.var 5) (.num 255))
 (.chk (.c2 .le (.num 0) (.var 6))
 (.chk (.c2 .le (.var 6) (.num 255))
 (.chk (.c2 .le (.num 0) (.var 7))
 (.chk (.c2 .le (.var 7) (.num 255))
 (.chk (.c2 .le (.num 0) (.var 8))
 (.chk (.c2 .le (.var 8) (.num 255))
 (.chk (.c2 .le (.num 0) (.var 9))
 (.chk (.c2 .le (.var 9) (.num 255))
 (.chk (.c2 .le (.num 0) (.var 10))
 (.chk (.c2 .le (.var 10) (.num 255))
 (.chk (.c2 .le (.num 0) (.var 11))
 (.chk (.c2 .le (.var 11) (.num 255))
 (.chk (.c2 .le (.num 0) (.var 12))
 (.chk (.c2 .le (.var 12) (.num 255))
 (.chk (.c2 .le (.num 0) (.var 13))
 (.chk (.c2 .le (.var 13) (.num 65535))
 (.split (.c2 .eq (.fn 41 xWuPush3 (.var 73) .nil) (.num 0))
 (.chk (.c1 (.kin [.u8]) (.fn 31 xWuPush3 (.var 73) .nil))
 (.chk (.c2 .eq (.c1 .len (.fn 31 xWuPush3 (.var 73) .nil)) (.num 14))
 (.ret (.t [.c (.s 74 1 0 (.num 0) (.c2 .add (.num 14) (.c1 .len (.var 73)))), .c (.i .i64 (.num 0))], ⟨[], [(74, some ⟨true, .row [.u8] (.c2 .app (.c2 .take (.num 14) (.fn 31 xWuPush3 (.var 73) .nil)) (.var 73))⟩)], 75, 74, []⟩))))
 (.ret (.t [.c (.sn), .c (.i .i64 (.fn 41 xWuPush3 (.var 73) .nil))], ⟨[], [], 74, 74, []⟩))))))))))))))))))))))))))))))
 (.split (.c2 .eq (.var 0) (.num 2))
 (.split (.c1 .not (.c2 .and (.c2 .eq (.num 0) (.var 1)) (.c2 .and (.c2 .eq (.num 0) (.var 2)) (.c2 .and (.c2 .eq (.num 0) (.var 3)) (.c2 .and (.c2 .eq (.num 0) (.var 4)) (.c2 .and (.c2 .eq (.num 0) (.var 5)) (.c2 .and (.c2 .eq (.num 0) (.var 6)) (.c2 .and (.c2 .eq (.num 0) (.var 7)) (.c2 .and (.c2 .eq (.num 0) (.var 8)) (.c2 .and (.c2 .eq (.num 0) (.var 9)) (.c2 .and (.c2 .eq (.num 0) (.var 10)) (.c2 .and (.c2 .eq (.num 0) (.var 11)) (.c2 .and (.c2 .eq (.num 0) (.var 12)) (.c2 .and (.c2 .eq (.num 0) (.var 13)) xWcChk2))))))))))))))
 (.ret (.t [.c (.sn), .c (.i .i64 (.num 120))], ⟨[], [], 11, 74, []⟩))
 (.split (.c2 .lt (.num 7) (.var 14))
 (.ret (.t [.c (.sn), .c (.i .i64 (.num 60))], ⟨[], [], 13, 74, []⟩))
 (.split (.c2 .lt (.num 4095) (.var 15))
 (.ret (.t [.c (.sn), .c (.i .i64 (.num 60))], ⟨[], [], 13, 74, []⟩))
 (.chk (.c2 .le (.num 0) (.var 14))
 (.chk (.c2 .le (.num 0) (.var 15))
 (.chk (.c2 .le (.num 0) (.var 16))
 (.chk (.c2 .le (.var 16) (.num 65535))
 (.split (.c2 .eq (.fn 42 (.cons (.var 14) (.cons (.var 15) (.cons (.var 16) .nil))) (.var 73) .nil) (.num 0))
 (.chk (.c1 (.kin [.u8]) (.fn 32 (.cons (.var 14) (.cons (.var 15) (.cons (.var 16) .nil))) (.var 73) .nil))
 (.chk (.c2 .eq (.c1 .len (.fn 32 (.cons (.var 14) (.cons (.var 15) (.cons (.var 16) .nil))) (.var 73) .nil)) (.num 4))
 (.ret (.t [.c (.s 74 1 0 (.num 0) (.c2 .add (.num 4) (.c1 .len (.var 73)))), .c (.i .i64 (.num 0))], ⟨[], [(74, some ⟨true, .row [.u8] (.c2 .app (.c2 .take (.num 4) (.fn 32 (.cons (.var 14) (.cons (.var 15) (.cons (.var 16) .nil))) (.var 73) .nil)) (.var 73))⟩)], 75, 74, []⟩))))
 (.ret (.t [.c (.sn), .c (.i .i64 (.fn 42 (.cons (.var 14) (.cons (.var 15) (.cons (.var 16) .nil))) (.var 73) .nil))], ⟨[], [], 74, 74, []⟩))))))))))
 (.split (.c2 .eq (.var 0) (.num 3))
 (.split (.c1 .not (.c2 .and (.c2 .eq (.num 0) (.var 1)) (.c2 .and (.c2 .eq (.num 0) (.var 2)) (.c2 .and (.c2 .eq (.num 0) (.var 3)) (.c2 .and (.c2 .eq (.num 0) (.var 4)) (.c2 .and (.c2 .eq (.num 0) (.var 5)) (.c2 .and (.c2 .eq (.num 0) (.var 6)) (.c2 .and (.c2 .eq (.num 0) (.var 7)) (.c2 .and (.c2 .eq (.num 0) (.var 8)) (.c2 .and (.c2 .eq (.num 0) (.var 9)) (.c2 .and (.c2 .eq (.num 0) (.var 10)) (.c2 .and (.c2 .eq (.num 0) (.var 11)) (.c2 .and (.c2 .eq (.num 0) (.var 12)) (.c2 .and (.c2 .eq (.num 0) (.var 13)) (.c2 .and (.c2 .eq (.num 0) (.var 14)) (.c2 .and (.c2 .eq (.num 0) (.var 15)) (.c2 .and (.c2 .eq (.num 0) (.var 16)) xWcChk1)))))))))))))))))
 (.ret (.t [.c (.sn), .c (.i .i64 (.num 120))], ⟨[], [], 11, 74, []⟩))
 (.chk (.c2 .le (.num 0) (.var 17))
 (.chk (.c2 .le (.var 17) (.num 255))
 (.chk (.c2 .le (.num 0) (.var 18))
 (.chk (.c2 .le (.var 18) (.num 255))
 (.chk (.c2 .le (.num 0) (.var 19))
 (.chk (.c2 .le (.var 19) (.num 255))
 (.chk (.c2 .le (.num 0) (.var 20))
 (.chk (.c2 .le (.var 20) (.num 65535))
 (.chk (.c2 .le (.num 0) (.var 21))
 (.chk (.c2 .le (.var 21) (.num 255))
 (.chk (.c2 .le (.num 0) (.var 22))
 (.chk (.c2 .le (.var 22) (.num 255))
 (.chk (.c2 .le (.num 0) (.var 23))
 (.chk (.c2 .le (.var 23) (.num 255))
 (.chk (.c2 .le (.num 0) (.var 24))
 (.chk (.c2 .le (.var 24) (.num 255))
 (.chk (.c2 .le (.num 0) (.var 25))
 (.chk (.c2 .le (.var 25) (.num 255))
 (.chk (.c2 .le (.num 0) (.var 26))
 (.chk (.c2 .le (.var 26) (.num 255))
 (.chk (.c2 .le (.num 0) (.var 27))
 (.chk (.c2 .le (.var 27) (.num 255))
 (.chk (.c2 .le (.num 0) (.var 28))
 (.chk (.c2 .le (.var 28) (.num 255))
 (.split (.c2 .eq (.fn 43 xWuPush4 (.var 73) .nil) (.num 0))
 (.chk (.c1 (.kin [.u8]) (.fn 33 xWuPush4 (.var 73) .nil))
 (.chk (.c2 .eq (.c1 .len (.fn 33 xWuPush4 (.var 73) .nil)) (.num 20))
 (.ret (.t [.c (.s 74 1 0 (.num 0) (.c2 .add (.num 20) (.c1 .len (.var 73)))), .c (.i .i64 (.num 0))], ⟨[], [(74, some ⟨true, .row [.u8] (.c2 .app (.c2 .take (.num 20) (.fn 33 xWuPush4 (.var 73) .nil)) (.var 73))⟩)], 75, 74, []⟩))))
 (.ret (.t [.c (.sn), .c (.i .i64 (.fn 43 xWuPush4 (.var 73) .nil))], ⟨[], [], 74, 74, []⟩))))))))))))))))))))))))))))
 (.split (.c2 .eq (.var 0) (.num 4))
 (.split (.c1 .not (.c2 .and (.c2 .eq (.num 0) (.var 1)) (.c2 .and (.c2 .eq (.num 0) (.var 2)) (.c2 .and (.c2 .eq (.num 0) (.var 3)) (.c2 .and (.c2 .eq (.num 0) (.var 4)) (.c2 .and (.c2 .eq (.num 0) (.var 5)) (.c2 .and (.c2 .eq (.num 0) (.var 6)) (.c2 .and (.c2 .eq (.num 0) (.var 7)) (.c2 .and (.c2 .eq (.num 0) (.var 8)) (.c2 .and (.c2 .eq (.num 0) (.var 9)) (.c2 .and (.c2 .eq (.num 0) (.var 10)) (.c2 .and (.c2 .eq (.num 0) (.var 11)) (.c2 .and (.c2 .eq (.num 0) (.var 12)) (.c2 .and (.c2 .eq (.num 0) (.var 13)) (.c2 .and (.c2 .eq (.num 0) (.var 14)) (.c2 .and (.c2 .eq (.num 0) (.var 15)) (.c2 .and (.c2 .eq (.num 0) (.var 16)) (.c2 .and (.c2 .eq (.num 0) (.var 17)) (.c2 .and (.c2 .eq (.num 0) (.var 18)) (.c2 .and (.c2 .eq (.num 0) (.var 19)) (.c2 .and (.c2 .eq (.num 0) (.var 20)) (.c2 .and (.c2 .eq (.num 0) (.var 21)) (.c2 .and (.c2 .eq (.num 0) (.var 22)) (.c2 .and (.c2 .eq (.num 0) (.var 23)) (.c2 .and (.c2 .eq (.num 0) (.var 24)) (.c2 .and (.c2 .eq (.num 0) (.var 25)) (.c2 .and (.c2 .eq (.num 0) (.var 26)) (.c2 .and (.c2 .eq (.num 0) (.var 27)) (.c2 .and (.c2 .eq (.num 0) (.var 28)) xWcChk0)))))))))))))))))))))))))))))
 (.ret (.t [.c (.sn), .c (.i .i64 (.num 120))], ⟨[], [], 11, 74, []⟩))
 (.split (.c2 .le (.num 1048576) (.var 30))
 (.ret (.t [.c (.sn), .c (.i .i64 (.num 80))], ⟨[], [], 13, 74, []⟩))
 (.chk (.c2 .le (.num 0) (.var 29))
 (.chk (.c2 .le (.var 29) (.num 255))
 (.chk (.c2 .le (.num 0) (.var 30))
 (.chk (.c2 .le (.num 0) (.var 31))
 (.chk (.c2 .le (.var 31) (.num 255))
 (.chk (.c2 .le (.num 0) (.var 32))
 (.chk (.c2 .le (.var 32) (.num 255))
 (.chk (.c2 .le (.num 0) (.var 33))
 (.chk (.c2 .le (.var 33) (.num 255))
 (.chk (.c2 .le (.num 0) (.var 34))
 (.chk (.c2 .le (.var 34) (.num 255))
 (.chk (.c2 .le (.num 0) (.var 35))
 (.chk (.c2 .le (.var 35) (.num 255))
 (.chk (.c2 .le (.num 0) (.var 36))
 (.chk (.c2 .le (.var 36) (.num 255))
 (.chk (.c2 .le (.num 0) (.var 37))
 (.chk (.c2 .le (.var 37) (.num 255))
 (.chk (.c2 .le (.num 0) (.var 38))
 (.chk (.c2 .le (.var 38) (.num 255))
 (.chk (.c2 .le (.num 0) (.var 39))
 (.chk (.c2 .le (.var 39) (.num 255))
 (.chk (.c2 .le (.num 0) (.var 40))
 (.chk (.c2 .le (.var 40) (.num 255))
 (.chk (.c2 .le (.num 0) (.var 41))
 (.chk (.c2 .le (.var 41) (.num 255))
 (.chk (.c2 .le (.num 0) (.var 42))
 (.chk (.c2 .le (.var 42) (.num 255))
 (.chk (.c2 .le (.num 0) (.var 43))
 (.chk (.c2 .le (.var 43) (.num 255))
 (.chk (.c2 .le (.num 0) (.var 44))
 (.chk (.c2 .le (.var 44) (.num 255))
 (.chk (.c2 .le (.num 0) (.var 45))
 (.chk (.c2 .le (.var 45) (.num 255))
 (.chk (.c2 .le (.num 0) (.var 46))
 (.chk (.c2 .le (.var 46) (.num 255))
 (.chk (.c2 .le (.num 0) (.var 47))
 (.chk (.c2 .le (.var 47) (.num 255))
 (.chk (.c2 .le (.num 0) (.var 48))
 (.chk (.c2 .le (.var 48) (.num 255))
 (.chk (.c2 .le (.num 0) (.var 49))
 (.chk (.c2 .le (.var 49) (.num 255))
 (.chk (.c2 .le (.num 0) (.var 50))
 (.chk (.c2 .le (.var 50) (.num 255))
 (.chk (.c2 .le (.num 0) (.var 51))
 (.chk (.c2 .le (.var 51) (.num 255))
 (.chk (.c2 .le (.num 0) (.var 52))
 (.chk (.c2 .le (.var 52) (.num 255))
 (.chk (.c2 .le (.num 0) (.var 53))
 (.chk (.c2 .le (.var 53) (.num 255))
 (.chk (.c2 .le (.num 0) (.var 54))
 (.chk (.c2 .le (.var 54) (.num 255))
 (.chk (.c2 .le (.num 0) (.var 55))
 (.chk (.c2 .le (.var 55) (.num 255))
 (.chk (.c2 .le (.num 0) (.var 56))
 (.chk (.c2 .le (.var 56) (.num 255))
 (.chk (.c2 .le (.num 0) (.var 57))
 (.chk (.c2 .le (.var 57) (.num 255))
 (.chk (.c2 .le (.num 0) (.var 58))
 (.chk (.c2 .le (.var 58) (.num 255))
 (.chk (.c2 .le (.num 0) (.var 59))
 (.chk (.c2 .le (.var 59) (.num 255))
 (.chk (.c2 .le (.num 0) (.var 60))
 (.chk (.c2 .le (.var 60) (.num 255))
 (.chk (.c2 .le (.num 0) (.var 61))
 (.chk (.c2 .le (.var 61) (.num 255))
 (.chk (.c2 .le (.num 0) (.var 62))
 (.chk (.c2 .le (.var 62) (.num 255))
 (.chk (.c2 .le (.num 0) (.var 63))
 (.chk (.c2 .le (.var 63) (.num 255))
 (.chk (.c2 .le (.num 0) (.var 64))
 (.chk (.c2 .le (.var 64) (.num 255))
 (.split (.c2 .eq (.fn 44 xWuPush5 (.var 73) .nil) (.num 0))
 (.chk (.c1 (.kin [.u8]) (.fn 34 xWuPush5 (.var 73) .nil))
 (.chk (.c2 .eq (.c1 .len (.fn 34 xWuPush5 (.var 73) .nil)) (.num 40))
 (.ret (.t [.c (.s 74 1 0 (.num 0) (.c2 .add (.num 40) (.c1 .len (.var 73)))), .c (.i .i64 (.num 0))], ⟨[], [(74, some ⟨true, .row [.u8] (.c2 .app (.c2 .take (.num 40) (.fn 34 xWuPush5 (.var 73) .nil)) (.var 73))⟩)], 75, 74, []⟩))))
 (.ret (.t [.c (.sn), .c (.i .i64 (.fn 44 xWuPush5 (.var 73) .nil))], ⟨[], [], 74, 74, []⟩))))))))))))))))))))))))))))))))))))))))))))))))))))))))))))))))))))))))))))
 (.split (.c2 .eq (.var 0) (.num 5))
 (.split (.c1 .not (.c2 .and (.c2 .eq (.num 0) (.var 1)) (.c2 .and (.c2 .eq (.num 0) (.var 2)) (.c2 .and (.c2 .eq (.num 0) (.var 3)) (.c2 .and (.c2 .eq (.num 0) (.var 4)) (.c2 .and (.c2 .eq (.num 0) (.var 5)) (.c2 .and (.c2 .eq (.num 0) (.var 6)) (.c2 .and (.c2 .eq (.num 0) (.var 7)) (.c2 .and (.c2 .eq (.num 0) (.var 8)) (.c2 .and (.c2 .eq (.num 0) (.var 9)) (.c2 .and (.c2 .eq (.num 0) (.var 10)) (.c2 .and (.c2 .eq (.num 0) (.var 11)) (.c2 .and (.c2 .eq (.num 0) (.var 12)) (.c2 .and (.c2 .eq (.num 0) (.var 13)) (.c2 .and (.c2 .eq (.num 0) (.var 14)) (.c2 .and (.c2 .eq (.num 0) (.var 15)) (.c2 .and (.c2 .eq (.num 0) (.var 16)) (.c2 .and (.c2 .eq (.num 0) (.var 17)) (.c2 .and (.c2 .eq (.num 0) (.var 18)) (.c2 .and (.c2 .eq (.num 0) (.var 19)) (.c2 .and (.c2 .eq (.num 0) (.var 20)) (.c2 .and (.c2 .eq (.num 0) (.var 21)) (.c2 .and (.c2 .eq (.num 0) (.var 22)) (.c2 .and (.c2 .eq (.num 0) (.var 23)) (.c2 .and (.c2 .eq (.num 0) (.var 24)) (.c2 .and (.c2 .eq (.num 0) (.var 25)) (.c2 .and (.c2 .eq (.num 0) (.var 26)) (.c2 .and (.c2 .eq (.num 0) (.var 27)) (.c2 .and (.c2 .eq (.num 0) (.var 28)) (.c2 .and (.c2 .eq (.num 0) (.var 29)) (.c2 .and (.c2 .eq (.num 0) (.var 30)) (.c2 .and (.c2 .eq (.num 0) (.var 31)) (.c2 .and (.c2 .eq (.num 0) (.var 32)) (.c2 .and (.c2 .eq (.num 0) (.var 33)) (.c2 .and (.c2 .eq (.num 0) (.var 34)) (.c2 .and (.c2 .eq (.num 0) (.var 35)) (.c2 .and (.c2 .eq (.num 0) (.var 36)) (.c2 .and (.c2 .eq (.num 0) (.var 37)) (.c2 .and (.c2 .eq (.num 0) (.var 38)) (.c2 .and (.c2 .eq (.num 0) (.var 39)) (.c2 .and (.c2 .eq (.num 0) (.var 40)) (.c2 .and (.c2 .eq (.num 0) (.var 41)) (.c2 .and (.c2 .eq (.num 0) (.var 42)) (.c2 .and (.c2 .eq (.num 0) (.var 43)) (.c2 .and (.c2 .eq (.num 0) (.var 44)) (.c2 .and (.c2 .eq (.num 0) (.var 45)) (.c2 .and (.c2 .eq (.num 0) (.var 46)) (.c2 .and (.c2 .eq (.num 0) (.var 47)) (.c2 .and (.c2 .eq (.num 0) (.var 48)) (.c2 .and (.c2 .eq (.num 0) (.var 49)) (.c2 .and (.c2 .eq (.num 0) (.var 50)) (.c2 .and (.c2 .eq (.num 0) (.var 51)) (.c2 .and (.c2 .eq (.num 0) (.var 52)) (.c2 .and (.c2 .eq (.num 0) (.var 53)) (.c2 .and (.c2 .eq (.num 0) (.var 54)) (.c2 .and (.c2 .eq (.num 0) (.var 55)) (.c2 .and (.c2 .eq (.num 0) (.var 56)) (.c2 .and (.c2 .eq (.num 0) (.var 57)) (.c2 .and (.c2 .eq (.num 0) (.var 58)) (.c2 .and (.c2 .eq (.num 0) (.var 59)) (.c2 .and (.c2 .eq (.num 0) (.var 60)) (.c2 .and (.c2 .eq (.num 0) (.var 61)) (.c2 .and (.c2 .eq (.num 0) (.var 62)) (.c2 .and (.c2 .eq (.num 0) (.var 63)) (.c2 .and (.c2 .eq (.num 0) (.var 64)) (.c2 .and (.c2 .eq (.num 0) (.var 71)) (.c2 .eq (.num 0) (.var 72))))))))))))))))))))))))))))))))))))))))))))))))))))))))))))))))))))
 (.ret (.t [.c (.sn), .c (.i .i64 (.num 120))], ⟨[], [], 11, 74, []⟩))
 (.split (.c2 .le (.num 64) (.var 69))
 (.ret (.t [.c (.sn), .c (.i .i64 (.num 90))], ⟨[], [], 13, 74, []⟩))
 (.chk (.c2 .le (.num 0) (.var 65))
 (.chk (.c2 .le (.var 65) (.num 65535))
 (.chk (.c2 .le (.num 0) (.var 66))
 (.chk (.c2 .le (.var 66) (.num 65535))
 (.chk (.c2 .le (.num 0) (.var 67))
 (.chk (.c2 .le (.var 67) (.num 4294967295))
 (.chk (.c2 .le (.num 0) (.var 68))
 (.chk (.c2 .le (.var 68) (.num 4294967295))
 (.chk (.c2 .le (.num 0) (.var 69))
 (.chk (.c2 .le (.num 0) (.var 70))
 (.chk (.c2 .le (.var 70) (.num 65535))
 (.split (.c2 .eq (.fn 45 (.cons (.var 65) (.cons (.var 66) (.cons (.var 67) (.cons (.var 68) (.cons (.var 69) (.cons (.var 70) .nil)))))) (.var 73) .nil) (.num 0))
 (.chk (.c1 (.kin [.u8]) (.fn 35 (.cons (.var 65) (.cons (.var 66) (.cons (.var 67) (.cons (.var 68) (.cons (.var 69) (.cons (.var 70) .nil)))))) (.var 73) .nil))
 (.chk (.c2 .eq (.c1 .len (.fn 35 (.cons (.var 65) (.cons (.var 66) (.cons (.var 67) (.cons (.var 68) (.cons (.var 69) (.cons (.var 70) .nil)))))) (.var 73) .nil)) (.num 20))
 (.ret (.t [.c (.s 74 1 0 (.num 0) (.c2 .add (.num 20) (.c1 .len (.var 73)))), .c (.i .i64 (.num 0))], ⟨[], [(74, some ⟨true, .row [.u8] (.c2 .app (.c2 .take (.num 20) (.fn 35 (.cons (.var 65) (.cons (.var 66) (.cons (.var 67) (.cons (.var 68) (.cons (.var 69) (.cons (.var 70) .nil)))))) (.var 73) .nil)) (.var 73))⟩)], 75, 74, []⟩))))
 (.ret (.t [.c (.sn), .c (.i .i64 (.fn 45 (.cons (.var 65) (.cons (.var 66) (.cons (.var 67) (.cons (.var 68) (.cons (.var 69) (.cons (.var 70) .nil)))))) (.var 73) .nil))], ⟨[], [], 74, 74, []⟩))))))))))))))))
 (.split (.c2 .eq (.var 0) (.num 6))
 (.split (.c1 .not (.c2 .and (.c2 .eq (.num 0) (.var 1)) (.c2 .and (.c2 .eq (.num 0) (.var 2)) (.c2 .and (.c2 .eq (.num 0) (.var 3)) (.c2 .and (.c2 .eq (.num 0) (.var 4)) (.c2 .and (.c2 .eq (.num 0) (.var 5)) (.c2 .and (.c2 .eq (.num 0) (.var 6)) (.c2 .and (.c2 .eq (.num 0) (.var 7)) (.c2 .and (.c2 .eq (.num 0) (.var 8)) (.c2 .and (.c2 .eq (.num 0) (.var 9)) (.c2 .and (.c2 .eq (.num 0) (.var 10)) (.c2 .and (.c2 .eq (.num 0) (.var 11)) (.c2 .and (.c2 .eq (.num 0) (.var 12)) (.c2 .and (.c2 .eq (.num 0) (.var 13)) (.c2 .and (.c2 .eq (.num 0) (.var 14)) (.c2 .and (.c2 .eq (.num 0) (.var 15)) (.c2 .and (.c2 .eq (.num 0) (.var 16)) (.c2 .and (.c2 .eq (.num 0) (.var 17)) (.c2 .and (.c2 .eq (.num 0) (.var 18)) (.c2 .and (.c2 .eq (.num 0) (.var 19)) (.c2 .and (.c2 .eq (.num 0) (.var 20)) (.c2 .and (.c2 .eq (.num 0) (.var 21)) (.c2 .and (.c2 .eq (.num 0) (.var 22)) (.c2 .and (.c2 .eq (.num 0) (.var 23)) (.c2 .and (.c2 .eq (.num 0) (.var 24)) (.c2 .and (.c2 .eq (.num 0) (.var 25)) (.c2 .and (.c2 .eq (.num 0) (.var 26)) (.c2 .and (.c2 .eq (.num 0) (.var 27)) (.c2 .and (.c2 .eq (.num 0) (.var 28)) (.c2 .and (.c2 .eq (.num 0) (.var 29)) (.c2 .and (.c2 .eq (.num 0) (.var 30)) (.c2 .and (.c2 .eq (.num 0) (.var 31)) (.c2 .and (.c2 .eq (.num 0) (.var 32)) (.c2 .and (.c2 .eq (.num 0) (.var 33)) (.c2 .and (.c2 .eq (.num 0) (.var 34)) (.c2 .and (.c2 .eq (.num 0) (.var 35)) (.c2 .and (.c2 .eq (.num 0) (.var 36)) (.c2 .and (.c2 .eq (.num 0) (.var 37)) (.c2 .and (.c2 .eq (.num 0) (.var 38)) (.c2 .and (.c2 .eq (.num 0) (.var 39)) (.c2 .and (.c2 .eq (.num 0) (.var 40)) (.c2 .and (.c2 .eq (.num 0) (.var 41)) (.c2 .and (.c2 .eq (.num 0) (.var 42)) (.c2 .and (.c2 .eq (.num 0) (.var 43)) (.c2 .and (.c2 .eq (.num 0) (.var 44)) (.c2 .and (.c2 .eq (.num 0) (.var 45)) (.c2 .and (.c2 .eq (.num 0) (.var 46)) (.c2 .and (.c2 .eq (.num 0) (.var 47)) (.c2 .and (.c2 .eq (.num 0) (.var 48)) (.c2 .and (.c2 .eq (.num 0) (.var 49)) (.c2 .and (.c2 .eq (.num 0) (.var 50)) (.c2 .and (.c2 .eq (.num 0) (.var 51)) (.c2 .and (.c2 .eq (.num 0) (.var 52)) (.c2 .and (.c2 .eq (.num 0) (.var 53)) (.c2 .and (.c2 .eq (.num 0) (.var 54)) (.c2 .and (.c2 .eq (.num 0) (.var 55)) (.c2 .and (.c2 .eq (.num 0) (.var 56)) (.c2 .and (.c2 .eq (.num 0) (.var 57)) (.c2 .and (.c2 .eq (.num 0) (.var 58)) (.c2 .and (.c2 .eq (.num 0) (.var 59)) (.c2 .and (.c2 .eq (.num 0) (.var 60)) (.c2 .and (.c2 .eq (.num 0) (.var 61)) (.c2 .and (.c2 .eq (.num 0) (.var 62)) (.c2 .and (.c2 .eq (.num 0) (.var 63)) (.c2 .and (.c2 .eq (.num 0) (.var 64)) (.c2 .and (.c2 .eq (.num 0) (.var 65)) (.c2 .and (.c2 .eq (.num 0) (.var 66)) (.c2 .and (.c2 .eq (.num 0) (.var 67)) (.c2 .and (.c2 .eq (.num 0) (.var 68)) (.c2 .and (.c2 .eq (.num 0) (.var 69)) (.c2 .eq (.num 0) (.var 70))))))))))))))))))))))))))))))))))))))))))))))))))))))))))))))))))))))))
 (.ret (.t [.c (.sn), .c (.i .i64 (.num 120))], ⟨[], [], 11, 74, []⟩))
 (.chk (.c2 .le (.num 0) (.var 71))
 (.chk (.c2 .le (.var 71) (.num 65535))
 (.chk (.c2 .le (.num 0) (.var 72))
 (.chk (.c2 .le (.var 72) (.num 65535))
 (.split (.c2 .eq (.fn 46 (.cons (.var 71) (.cons (.var 72) .nil)) (.var 73) .nil) (.num 0))
 (.chk (.c1 (.kin [.u8]) (.fn 36 (.cons (.var 71) (.cons (.var 72) .nil)) (.var 73) .nil))
 (.chk (.c2 .eq (.c1 .len (.fn 36 (.cons (.var 71) (.cons (.var 72) .nil)) (.var 73) .nil)) (.num 8))
 (.ret (.t [.c (.s 74 1 0 (.num 0) (.c2 .add (.num 8) (.c1 .len (.var 73)))), .c (.i .i64 (.num 0))], ⟨[], [(74, some ⟨true, .row [.u8] (.c2 .app (.c2 .take (.num 8) (.fn 36 (.cons (.var 71) (.cons (.var 72) .nil)) (.var 73) .nil)) (.var 73))⟩)], 75, 74, []⟩))))
 (.ret (.t [.c (.sn), .c (.i .i64 (.fn 46 (.cons (.var 71) (.cons (.var 72) .nil)) (.var 73) .nil))], ⟨[], [], 74, 74, []⟩))))))))
 (.fail 11)))))))))
theorem treeWuPush_is : funTree (ctxN Go.Proofs.Tryz.prog annsWr consW1 8) annsWr 41 (tPush 74).vs (tPush 74).bs (tPush 74).n (preF (tPush 74).res) = treeWuPush := by kernel_rfl
end Go.Proofs.YtfhjlimdakphcaaGreat.Sx
set_option maxRecDepth 100000
namespace Go.Proofs.YtfhjlimdakphcaaGreat.Sx
open Go
def treeWuPushR : M (V × St) :=
(.split (.c2 .lt (.num 6) (.var 0))
 (.ret (.t [.c (.sn), .c (.i .i64 (.num 120))], ⟨[], [], 4, 74, []⟩))
 (.split (.c2 .eq (.c2 .rd (.cons (.num 0) (.cons (.num 14) (.cons (.num 4) (.cons (.num 20) (.cons (.num 40) (.cons (.num 20) (.cons (.num 8) .nil))))))) (.var 0)) (.num 0))
 (.ret (.t [.c (.sn), .c (.i .i64 (.num 120))], ⟨[], [], 4, 74, []⟩))
 (.split (.c2 .eq (.var 0) (.num 1))
 (.split (.c1 .not (.c2 .and (.c2 .eq (.num 0) (.var 14)) (.c2 .and (.c2 .eq (.num 0) (.var 15)) (.c2 .and (.c2 .eq (.num 0) (.var 16)) xWcChk2))))
 (.ret (.t [.c (.sn), .c (.i .i64 (.num 120))], ⟨[], [], 7, 74, []⟩))
 (.chk (.c2 .le (.num 0) (.var 1))
 (.chk (.c2 .le (.var 1) (.num 255))
 (.chk (.c2 .le (.num 0) (.var 2))
 (.chk (.c2 .le (.var 2) (.num 255))
 (.chk (.c2 .le (.num 0) (.var 3))
 (.chk (.c2 .le (.var 3) (.num 255))
 (.chk (.c2 .le (.num 0) (.var 4))
 (.chk (.c2 .le (.var 4) (.num 255))
 (.chk (.c2 .le (.num 0) (.var 5))
 (.chk (.c2 .le (.var 5) (.num 255))
 (.chk (.c2 .le (.num 0) (.var 6))
 (.chk (.c2 .le (.var 6) (.num 255))
 (.chk (.c2 .le (.num 0) (.var 7))
 (.chk (.c2 .le (.var 7) (.num 255))
 (.chk (.c2 .le (.num 0) (.var 8))
 (.chk (.c2 .le (.var 8) (.num 255))
 (.chk (.c2 .le (.num 0) (.var 9))
 (.chk (.c2 .le (.var 9) (.num 255))
 (.chk (.c2 .le (.num 0) (.var 10))
 (.chk (.c2 .le (.var 10) (.num 255))
 (.chk (.c2 .le (.num 0) (.var 11))
 (.chk (.c2 .le (.var 11) (.num 255))
 (.chk (.c2 .le (.num 0) (.var 12))
 (.chk (.c2 .le (.var 12) (.num 255))
 (.chk (.c2 .le (.num 0) (.var 13))
 (.chk (.c2 .le (.var 13) (.num 65535))
 (.split (.c2 .eq (.fn 41 xWuPush3 (.var 73) .nil) (.num 0))
 (.chk (.c1 (.kin [.u8]) (.fn 31 xWuPush3 (.var 73) .nil))
 (.chk (.c2 .eq (.c1 .len (.fn 31 xWuPush3 (.var 73) .nil)) (.num 14))
 (.ret (.t [.c (.s 68 1 0 (.num 0) (.c2 .add (.num 14) (.c1 .len (.var 73)))), .c (.i .i64 (.num 0))], ⟨[], [(68, some ⟨true, .row [.u8] (.c2 .app (.c2 .take (.num 14) (.fn 31 xWuPush3 (.var 73) .nil)) (.var 73))⟩)], 69, 74, []⟩))))
 (.ret (.t [.c (.sn), .c (.i .i64 (.fn 41 xWuPush3 (.var 73) .nil))], ⟨[], [], 68, 74, []⟩))))))))))))))))))))))))))))))
 (.split (.c2 .eq (.var 0) (.num 2))
 (.split (.c1 .not (.c2 .and (.c2 .eq (.num 0) (.var 1)) (.c2 .and (.c2 .eq (.num 0) (.var 2)) (.c2 .and (.c2 .eq (.num 0) (.var 3)) (.c2 .and (.c2 .eq (.num 0) (.var 4)) (.c2 .and (.c2 .eq (.num 0) (.var 5)) (.c2 .and (.c2 .eq (.num 0) (.var 6)) (.c2 .and (.c2 .eq (.num 0) (.var 7)) (.c2 .and (.c2 .eq (.num 0) (.var 8)) (.c2 .and (.c2 .eq (.num 0) (.var 9)) (.c2 .and (.c2 .eq (.num 0) (.var 10)) (.c2 .and (.c2 .eq (.num 0) (.var 11)) (.c2 .and (.c2 .eq (.num 0) (.var 12)) (.c2 .and (.c2 .eq (.num 0) (.var 13)) xWcChk2))))))))))))))
 (.ret (.t [.c (.sn), .c (.i .i64 (.num 120))], ⟨[], [], 7, 74, []⟩))
 (.split (.c2 .lt (.num 7) (.var 14))
 (.ret (.t [.c (.sn), .c (.i .i64 (.num 60))], ⟨[], [], 8, 74, []⟩))
 (.split (.c2 .lt (.num 4095) (.var 15))
 (.ret (.t [.c (.sn), .c (.i .i64 (.num 60))], ⟨[], [], 8, 74, []⟩))
 (.chk (.c2 .le (.num 0) (.var 14))
 (.chk (.c2 .le (.num 0) (.var 15))
 (.chk (.c2 .le (.num 0) (.var 16))
 (.chk (.c2 .le (.var 16) (.num 65535))
 (.split (.c2 .eq (.fn 42 (.cons (.var 14) (.cons (.var 15) (.cons (.var 16) .nil))) (.var 73) .nil) (.num 0))
 (.chk (.c1 (.kin [.u8]) (.fn 32 (.cons (.var 14) (.cons (.var 15) (.cons (.var 16) .nil))) (.var 73) .nil))
 (.chk (.c2 .eq (.c1 .len (.fn 32 (.cons (.var 14) (.cons (.var 15) (.cons (.var 16) .nil))) (.var 73) .nil)) (.num 4))
 (.ret (.t [.c (.s 69 1 0 (.num 0) (.c2 .add (.num 4) (.c1 .len (.var 73)))), .c (.i .i64 (.num 0))], ⟨[], [(69, some ⟨true, .row [.u8] (.c2 .app (.c2 .take (.num 4) (.fn 32 (.cons (.var 14) (.cons (.var 15) (.cons (.var 16) .nil))) (.var 73) .nil)) (.var 73))⟩)], 70, 74, []⟩))))
 (.ret (.t [.c (.sn), .c (.i .i64 (.fn 42 (.cons (.var 14) (.cons (.var 15) (.cons (.var 16) .nil))) (.var 73) .nil))], ⟨[], [], 69, 74, []⟩))))))))))
 (.split (.c2 .eq (.var 0) (.num 3))
 (.split (.c1 .not (.c2 .and (.c2 .eq (.num 0) (.var 1)) (.c2 .and (.c2 .eq (.num 0) (.var 2)) (.c2 .and (.c2 .eq (.num 0) (.var 3)) (.c2 .and (.c2 .eq (.num 0) (.var 4)) (.c2 .and (.c2 .eq (.num 0) (.var 5)) (.c2 .and (.c2 .eq (.num 0) (.var 6)) (.c2 .and (.c2 .eq (.num 0) (.var 7)) (.c2 .and (.c2 .eq (.num 0) (.var 8)) (.c2 .and (.c2 .eq (.num 0) (.var 9)) (.c2 .and (.c2 .eq (.num 0) (.var 10)) (.c2 .and (.c2 .eq (.num 0) (.var 11)) (.c2 .and (.c2 .eq (.num 0) (.var 12)) (.c2 .and (.c2 .eq (.num 0) (.var 13)) (.c2 .and (.c2 .eq (.num 0) (.var 14)) (.c2 .and (.c2 .eq (.num 0) (.var 15)) (.c2 .and (.c2 .eq (.num 0) (.var 16)) xWcChk1)))))))))))))))))
 (.ret (.t [.c (.sn), .c (.i .i64 (.num 120))], ⟨[], [], 7, 74, []⟩))
 (.chk (.c2 .le (.num 0) (.var 17))
 (.chk (.c2 .le (.var 17) (.num 255))
 (.chk (.c2 .le (.num 0) (.var 18))
 (.chk (.c2 .le (.var 18) (.num 255))
 (.chk (.c2 .le (.num 0) (.var 19))
 (.chk (.c2 .le (.var 19) (.num 255))
 (.chk (.c2 .le (.num 0) (.var 20))
 (.chk (.c2 .le (.var 20) (.num 65535))
 (.chk (.c2 .le (.num 0) (.var 21))
 (.chk (.c2 .le (.var 21) (.num 255))
 (.chk (.c2 .le (.num 0) (.var 22))
 (.chk (.c2 .le (.var 22) (.num 255))
 (.chk (.c2 .le (.num 0) (.var 23))
 (.chk (.c2 .le (.var 23) (.num 255))
 (.chk (.c2 .le (.num 0) (.var 24))
 (.chk (.c2 .le (.var 24) (.num 255))
 (.chk (.c2 .le (.num 0) (.var 25))
 (.chk (.c2 .le (.var 25) (.num 255))
 (.chk (.c2 .le (.num 0) (.var 26))
 (.chk (.c2 .le (.var 26) (.num 255))
 (.chk (.c2 .le (.num 0) (.var 27))
 (.chk (.c2 .le (.var 27) (.num 255))
 (.chk (.c2 .le (.num 0) (.var 28))
 (.chk (.c2 .le (.var 28) (.num 255))
 (.split (.c2 .eq (.fn 43 xWuPush4 (.var 73) .nil) (.num 0))
 (.chk (.c1 (.kin [.u8]) (.fn 33 xWuPush4 (.var 73) .nil))
 (.chk (.c2 .eq (.c1 .len (.fn 33 xWuPush4 (.var 73) .nil)) (.num 20))
 (.ret (.t [.c (.s 68 1 0 (.num 0) (.c2 .add (.num 20) (.c1 .len (.var 73)))), .c (.i .i64 (.num 0))], ⟨[], [(68, some ⟨true, .row [.u8] (.c2 .app (.c2 .take (.num 20) (.fn 33 xWuPush4 (.var 73) .nil)) (.var 73))⟩)], 69, 74, []⟩))))
 (.ret (.t [.c (.sn), .c (.i .i64 (.fn 43 xWuPush4 (.var 73) .nil))], ⟨[], [], 68, 74, []⟩))))))))))))))))))))))))))))
 (.split (.c2 .eq (.var 0) (.num 4))
 (.split (.c1 .not (.c2 .and (.c2 .eq (.num 0) (.var 1)) (.c2 .and (.c2 .eq (.num 0) (.var 2)) (.c2 .and (.c2 .eq (.num 0) (.var 3)) (.c2 .and (.c2 .eq (.num 0) (.var 4)) (.c2 .and (.c2 .eq (.num 0) (.var 5)) (.c2 .and (.c2 .eq (.num 0) (.var 6)) (.c2 .and (.c2 .eq (.num 0) (.var 7)) (.c2 .and (.c2 .eq (.num 0) (.var 8)) (.c2 .and (.c2 .eq (.num 0) (.var 9)) (.c2 .and (.c2 .eq (.num 0) (.var 10)) (.c2 .and (.c2 .eq (.num 0) (.var 11)) (.c2 .and (.c2 .eq (.num 0) (.var 12)) (.c2 .and (.c2 .eq (.num 0) (.var 13)) (.c2 .and (.c2 .eq (.num 0) (.var 14)) (.c2 .and (.c2 .eq (.num 0) (.var 15)) (.c2 .and (.c2 .eq (.num 0) (.var 16)) (.c2 .and (.c2 .eq (.num 0) (.var 17)) (.c2 .and (.c2 .eq (.num 0) (.var 18)) (.c2 .and (.c2 .eq (.num 0) (.var 19)) (.c2 .and (.c2 .eq (.num 0) (.var 20)) (.c2 .and (.c2 .eq (.num 0) (.var 21)) (.c2 .and (.c2 .eq (.num 0) (.var 22)) (.c2 .and (.c2 .eq (.num 0) (.var 23)) (.c2 .and (.c2 .eq (.num 0) (.var 24)) (.c2 .and (.c2 .eq (.num 0) (.var 25)) (.c2 .and (.c2 .eq (.num 0) (.var 26)) (.c2 .and (.c2 .eq (.num 0) (.var 27)) (.c2 .and (.c2 .eq (.num 0) (.var 28)) xWcChk0)))))))))))))))))))))))))))))
 (.ret (.t [.c (.sn), .c (.i .i64 (.num 120))], ⟨[], [], 7, 74, []⟩))
 (.split (.c2 .le (.num 1048576) (.var 30))
 (.ret (.t [.c (.sn), .c (.i .i64 (.num 80))], ⟨[], [], 8, 74, []⟩))
 (.chk (.c2 .le (.num 0) (.var 29))
 (.chk (.c2 .le (.var 29) (.num 255))
 (.chk (.c2 .le (.num 0) (.var 30))
 (.chk (.c2 .le (.num 0) (.var 31))
 (.chk (.c2 .le (.var 31) (.num 255))
 (.chk (.c2 .le (.num 0) (.var 32))
 (.chk (.c2 .le (.var 32) (.num 255))
 (.chk (.c2 .le (.num 0) (.var 33))
 (.chk (.c2 .le (.var 33) (.num 255))
 (.chk (.c2 .le (.num 0) (.var 34))
 (.chk (.c2 .le (.var 34) (.num 255))
 (.chk (.c2 .le (.num 0) (.var 35))
 (.chk (.c2 .le (.var 35) (.num 255))
 (.chk (.c2 .le (.num 0) (.var 36))
 (.chk (.c2 .le (.var 36) (.num 255))
 (.chk (.c2 .le (.num 0) (.var 37))
 (.chk (.c2 .le (.var 37) (.num 255))
 (.chk (.c2 .le (.num 0) (.var 38))
 (.chk (.c2 .le (.var 38) (.num 255))
 (.chk (.c2 .le (.num 0) (.var 39))
 (.chk (.c2 .le (.var 39) (.num 255))
 (.chk (.c2 .le (.num 0) (.var 40))
 (.chk (.c2 .le (.var 40) (.num 255))
 (.chk (.c2 .le (.num 0) (.var 41))
 (.chk (.c2 .le (.var 41) (.num 255))
 (.chk (.c2 .le (.num 0) (.var 42))
 (.chk (.c2 .le (.var 42) (.num 255))
 (.chk (.c2 .le (.num 0) (.var 43))
 (.chk (.c2 .le (.var 43) (.num 255))
 (.chk (.c2 .le (.num 0) (.var 44))
 (.chk (.c2 .le (.var 44) (.num 255))
 (.chk (.c2 .le (.num 0) (.var 45))
 (.chk (.c2 .le (.var 45) (.num 255))
 (.chk (.c2 .le (.num 0) (.var 46))
 (.chk (.c2 .le (.var 46) (.num 255))
 (.chk (.c2 .le (.num 0) (.var 47))
 (.chk (.c2 .le (.var 47) (.num 255))
 (.chk (.c2 .le (.num 0) (.var 48))
 (.chk (.c2 .le (.var 48) (.num 255))
 (.chk (.c2 .le (.num 0) (.var 49))
 (.chk (.c2 .le (.var 49) (.num 255))
 (.chk (.c2 .le (.num 0) (.var 50))
 (.chk (.c2 .le (.var 50) (.num 255))
 (.chk (.c2 .le (.num 0) (.var 51))
 (.chk (.c2 .le (.var 51) (.num 255))
 (.chk (.c2 .le (.num 0) (.var 52))
 (.chk (.c2 .le (.var 52) (.num 255))
 (.chk (.c2 .le (.num 0) (.var 53))
 (.chk (.c2 .le (.var 53) (.num 255))
 (.chk (.c2 .le (.num 0) (.var 54))
 (.chk (.c2 .le (.var 54) (.num 255))
 (.chk (.c2 .le (.num 0) (.var 55))
 (.chk (.c2 .le (.var 55) (.num 255))
 (.chk (.c2 .le (.num 0) (.var 56))
 (.chk (.c2 .le (.var 56) (.num 255))
 (.chk (.c2 .le (.num 0) (.var 57))
 (.chk (.c2 .le (.var 57) (.num 255))
 (.chk (.c2 .le (.num 0) (.var 58))
 (.chk (.c2 .le (.var 58) (.num 255))
 (.chk (.c2 .le (.num 0) (.var 59))
 (.chk (.c2 .le (.var 59) (.num 255))
 (.chk (.c2 .le (.num 0) (.var 60))
 (.chk (.c2 .le (.var 60) (.num 255))
 (.chk (.c2 .le (.num 0) (.var 61))
 (.chk (.c2 .le (.var 61) (.num 255))
 (.chk (.c2 .le (.num 0) (.var 62))
 (.chk (.c2 .le (.var 62) (.num 255))
 (.chk (.c2 .le (.num 0) (.var 63))
 (.chk (.c2 .le (.var 63) (.num 255))
 (.chk (.c2 .le (.num 0) (.var 64))
 (.chk (.c2 .le (.var 64) (.num 255))
 (.split (.c2 .eq (.fn 44 xWuPush5 (.var 73) .nil) (.num 0))
 (.chk (.c1 (.kin [.u8]) (.fn 34 xWuPush5 (.var 73) .nil))
 (.chk (.c2 .eq (.c1 .len (.fn 34 xWuPush5 (.var 73) .nil)) (.num 40))
 (.ret (.t [.c (.s 69 1 0 (.num 0) (.c2 .add (.num 40) (.c1 .len (.var 73)))), .c (.i .i64 (.num 0))], ⟨[], [(69, some ⟨true, .row [.u8] (.c2 .app (.c2 .take (.num 40) (.fn 34 xWuPush5 (.var 73) .nil)) (.var 73))⟩)], 70, 74, []⟩))))
 (.ret (.t [.c (.sn), .c (.i .i64 (.fn 44 xWuPush5 (.var 73) .nil))], ⟨[], [], 69, 74, []⟩))))))))))))))))))))))))))))))))))))))))))))))))))))))))))))))))))))))))))))
 (.split (.c2 .eq (.var 0) (.num 5))
 (.split (.c1 .not (.c2 .and (.c2 .eq (.num 0) (.var 1)) (.c2 .and (.c2 .eq (.num 0) (.var 2)) (.c2 .and (.c2 .eq (.num 0) (.var 3)) (.c2 .and (.c2 .eq (.num 0) (.var 4)) (.c2 .and (.c2 .eq (.num 0) (.var 5)) (.c2 .and (.c2 .eq (.num 0) (.var 6)) (.c2 .and (.c2 .eq (.num 0) (.var 7)) (.c2 .and (.c2 .eq (.num 0) (.var 8)) (.c2 .and (.c2 .eq (.num 0) (.var 9)) (.c2 .and (.c2 .eq (.num 0) (.var 10)) (.c2 .and (.c2 .eq (.num 0) (.var 11)) (.c2 .and (.c2 .eq (.num 0) (.var 12)) (.c2 .and (.c2 .eq (.num 0) (.var 13)) (.c2 .and (.c2 .eq (.num 0) (.var 14)) (.c2 .and (.c2 .eq (.num 0) (.var 15)) (.c2 .and (.c2 .eq (.num 0) (.var 16)) (.c2 .and (.c2 .eq (.num 0) (.var 17)) (.c2 .and (.c2 .eq (.num 0) (.var 18)) (.c2 .and (.c2 .eq (.num 0) (.var 19)) (.c2 .and (.c2 .eq (.num 0) (.var 20)) (.c2 .and (.c2 .eq (.num 0) (.var 21)) (.c2 .and (.c2 .eq (.num 0) (.var 22)) (.c2 .and (.c2 .eq (.num 0) (.var 23)) (.c2 .and (.c2 .eq (.num 0) (.var 24)) (.c2 .and (.c2 .eq (.num 0) (.var 25)) (.c2 .and (.c2 .eq (.num 0) (.var 26)) (.c2 .and (.c2 .eq (.num 0) (.var 27)) (.c2 .and (.c2 .eq (.num 0) (.var 28)) (.c2 .and (.c2 .eq (.num 0) (.var 29)) (.c2 .and (.c2 .eq (.num 0) (.var 30)) (.c2 .and (.c2 .eq (.num 0) (.var 31)) (.c2 .and (.c2 .eq (.num 0) (.var 32)) (.c2 .and (.c2 .eq (.num 0) (.var 33)) (.c2 .and (.c2 .eq (.num 0) (.var 34)) (.c2 .and (.c2 .eq (.num 0) (.var 35)) (.c2 .and (.c2 .eq (.num 0) (.var 36)) (.c2 .and (.c2 .eq (.num 0) (.var 37)) (.c2 .and (.c2 .eq (.num 0) (.var 38)) (.c2 .and (.c2 .eq (.num 0) (.var 39)) (.c2 .and (.c2 .eq (.num 0) (.var 40)) (.c2 .and (.c2 .eq (.num 0) (.var 41)) (.c2 .and (.c2 .eq (.num 0) (.var 42)) (.c2 .and (.c2 .eq (.num 0) (.var 43)) (.c2 .and (.c2 .eq (.num 0) (.var 44)) (.c2 .and (.c2 .eq (.num 0) (.var 45)) (.c2 .and (.c2 .eq (.num 0) (.var 46)) (.c2 .and (.c2 .eq (.num 0) (.var 47)) (.c2 .and (.c2 .eq (.num 0) (.var 48)) (.c2 .and (.c2 .eq (.num 0) (.var 49)) (.c2 .and (.c2 .eq (.num 0) (.var 50)) (.c2 .and (.c2 .eq (.num 0) (.var 51)) (.c2 .and (.c2 .eq (.num 0) (.var 52)) (.c2 .and (.c2 .eq (.num 0) (.var 53)) (.c2 .and (.c2 .eq (.num 0) (.var 54)) (.c2 .and (.c2 .eq (.num 0) (.var 55)) (.c2 .and (.c2 .eq (.num 0) (.var 56)) (.c2 .and (.c2 .eq (.num 0) (.var 57)) (.c2 .and (.c2 .eq (.num 0) (.var 58)) (.c2 .and (.c2 .eq (.num 0) (.var 59)) (.c2 .and (.c2 .eq (.num 0) (.var 60)) (.c2 .and (.c2 .eq (.num 0) (.var 61)) (.c2 .and (.c2 .eq (.num 0) (.var 62)) (.c2 .and (.c2 .eq (.num 0) (.var 63)) (.c2 .and (.c2 .eq (.num 0) (.var 64)) (.c2 .and (.c2 .eq (.num 0) (.var 71)) (.c2 .eq (.num 0) (.var 72))))))))))))))))))))))))))))))))))))))))))))))))))))))))))))))))))))
 (.ret (.t [.c (.sn), .c (.i .i64 (.num 120))], ⟨[], [], 7, 74, []⟩))
 (.split (.c2 .le (.num 64) (.var 69))
 (.ret (.t [.c (.sn), .c (.i .i64 (.num 90))], ⟨[], [], 8, 74, []⟩))
 (.chk (.c2 .le (.num 0) (.var 65))
 (.chk (.c2 .le (.var 65) (.num 65535))
 (.chk (.c2 .le (.num 0) (.var 66))
 (.chk (.c2 .le (.var 66) (.num 65535))
 (.chk (.c2 .le (.num 0) (.var 67))
 (.chk (.c2 .le (.var 67) (.num 4294967295))
 (.chk (.c2 .le (.num 0) (.var 68))
 (.chk (.c2 .le (.var 68) (.num 4294967295))
 (.chk (.c2 .le (.num 0) (.var 69))
 (.chk (.c2 .le (.num 0) (.var 70))
 (.chk (.c2 .le (.var 70) (.num 65535))
 (.split (.c2 .eq (.fn 45 (.cons (.var 65) (.cons (.var 66) (.cons (.var 67) (.cons (.var 68) (.cons (.var 69) (.cons (.var 70) .nil)))))) (.var 73) .nil) (.num 0))
 (.chk (.c1 (.kin [.u8]) (.fn 35 (.cons (.var 65) (.cons (.var 66) (.cons (.var 67) (.cons (.var 68) (.cons (.var 69) (.cons (.var 70) .nil)))))) (.var 73) .nil))
 (.chk (.c2 .eq (.c1 .len (.fn 35 (.cons (.var 65) (.cons (.var 66) (.cons (.var 67) (.cons (.var 68) (.cons (.var 69) (.cons (.var 70) .nil)))))) (.var 73) .nil)) (.num 20))
 (.ret (.t [.c (.s 69 1 0 (.num 0) (.c2 .add (.num 20) (.c1 .len (.var 73)))), .c (.i .i64 (.num 0))], ⟨[], [(69, some ⟨true, .row [.u8] (.c2 .app (.c2 .take (.num 20) (.fn 35 (.cons (.var 65) (.cons (.var 66) (.cons (.var 67) (.cons (.var 68) (.cons (.var 69) (.cons (.var 70) .nil)))))) (.var 73) .nil)) (.var 73))⟩)], 70, 74, []⟩))))
 (.ret (.t [.c (.sn), .c (.i .i64 (.fn 45 (.cons (.var 65) (.cons (.var 66) (.cons (.var 67) (.cons (.var 68) (.cons (.var 69) (.cons (.var 70) .nil)))))) (.var 73) .nil))], ⟨[], [], 69, 74, []⟩))))))))))))))))
 (.split (.c2 .eq (.var 0) (.num 6))
 (.split (.c1 .not (.c2 .and (.c2 .eq (.num 0) (.var 1)) (.c2 .and (.c2 .eq (.num 0) (.var 2)) (.c2 .and (.c2 .eq (.num 0) (.var 3)) (.c2 .and (.c2 .eq (.num 0) (.var 4)) (.c2 .and (.c2 .eq (.num 0) (.var 5)) (.c2 .and (.c2 .eq (.num 0) (.var 6)) (.c2 .and (.c2 .eq (.num 0) (.var 7)) (.c2 .and (.c2 .eq (.num 0) (.var 8)) (.c2 .and (.c2 .eq (.num 0) (.var 9)) (.c2 .and (.c2 .eq (.num 0) (.var 10)) (.c2 .and (.c2 .eq (.num 0) (.var 11)) (.c2 .and (.c2 .eq (.num 0) (.var 12)) (.c2 .and (.c2 .eq (.num 0) (.var 13)) (.c2 .and (.c2 .eq (.num 0) (.var 14)) (.c2 .and (.c2 .eq (.num 0) (.var 15)) (.c2 .and (.c2 .eq (.num 0) (.var 16)) (.c2 .and (.c2 .eq (.num 0) (.var 17)) (.c2 .and (.c2 .eq (.num 0) (.var 18)) (.c2 .and (.c2 .eq (.num 0) (.var 19)) (.c2 .and (.c2 .eq (.num 0) (.var 20)) (.c2 .and (.c2 .eq (.num 0) (.var 21)) (.c2 .and (.c2 .eq (.num 0) (.var 22)) (.c2 .and (.c2 .eq (.num 0) (.var 23)) (.c2 .and (.c2 .eq (.num 0) (.var 24)) (.c2 .and (.c2 .eq (.num 0) (.var 25)) (.c2 .and (.c2 .eq (.num 0) (.var 26)) (.c2 .and (.c2 .eq (.num 0) (.var 27)) (.c2 .and (.c2 .eq (.num 0) (.var 28)) (.c2 .and (.c2 .eq (.num 0) (.var 29)) (.c2 .and (.c2 .eq (.num 0) (.var 30)) (.c2 .and (.c2 .eq (.num 0) (.var 31)) (.c2 .and (.c2 .eq (.num 0) (.var 32)) (.c2 .and (.c2 .eq (.num 0) (.var 33)) (.c2 .and (.c2 .eq (.num 0) (.var 34)) (.c2 .and (.c2 .eq (.num 0) (.var 35)) (.c2 .and (.c2 .eq (.num 0) (.var 36)) (.c2 .and (.c2 .eq (.num 0) (.var 37)) (.c2 .and (.c2 .eq (.num 0) (.var 38)) (.c2 .and (.c2 .eq (.num 0) (.var 39)) (.c2 .and (.c2 .eq (.num 0) (.var 40)) (.c2 .and (.c2 .eq (.num 0) (.var 41)) (.c2 .and (.c2 .eq (.num 0) (.var 42)) (.c2 .and (.c2 .eq (.num 0) (.var 43)) (.c2 .and (.c2 .eq (.num 0) (.var 44)) (.c2 .and (.c2 .eq (.num 0) (.var 45)) (.c2 .and (.c2 .eq (.num 0) (.var 46)) (.c2 .and (.c2 .eq (.num 0) (.var 47)) (.c2 .and (.c2 .eq (.num 0) (.var 48)) (.c2 .and (.c2 .eq (.num 0) (.var 49)) (.c2 .and (.c2 .eq (.num 0) (.var 50)) (.c2 .and (.c2 .eq (.num 0) (.var 51)) (.c2 .and (.c2 .eq (.num 0) (.var 52)) (.c2 .and (.c2 .eq (.num 0) (.var 53)) (.c2 .and (.c2 .eq (.num 0) (.var 54)) (.c2 .and (.c2 .eq (.num 0) (.var 55)) (.c2 .and (.c2 .eq (.num 0) (.var 56)) (.c2 .and (.c2 .eq (.num 0) (.var 57)) (.c2 .and (.c2 .eq (.num 0) (.var 58)) (.c2 .and (.c2 .eq (.num 0) (.var 59)) (.c2 .and (.c2 .eq (.num 0) (.var 60)) (.c2 .and (.c2 .eq (.num 0) (.var 61)) (.c2 .and (.c2 .eq (.num 0) (.var 62)) (.c2 .and (.c2 .eq (.num 0) (.var 63)) (.c2 .and (.c2 .eq (.num 0) (.var 64)) (.c2 .and (.c2 .eq (.num 0) (.var 65)) (.c2 .and (.c2 .eq (.num 0) (.var 66)) (.c2 .and (.c2 .eq (.num 0) (.var 67)) (.c2 .and (.c2 .eq (.num 0) (.var 68)) (.c2 .and (.c2 .eq (.num 0) (.var 69)) (.c2 .eq (.num 0) (.var 70))))))))))))))))))))))))))))))))))))))))))))))))))))))))))))))))))))))))
 (.ret (.t [.c (.sn), .c (.i .i64 (.num 120))], ⟨[], [], 7, 74, []⟩))
 (.chk (.c2 .le (.num 0) (.var 71))
 (.chk (.c2 .le (.var 71) (.num 65535))
 (.chk (.c2 .le (.num 0) (.var 72))
 (.chk (.c2 .le (.var 72) (.num 65535))
 (.split (.c2 .eq (.fn 46 (.cons (.var 71) (.cons (.var 72) .nil)) (.var 73) .nil) (.num 0))
 (.chk (.c1 (.kin [.u8]) (.fn 36 (.cons (.var 71) (.cons (.var 72) .nil)) (.var 73) .nil))
 (.chk (.c2 .eq (.c1 .len (.fn 36 (.cons (.var 71) (.cons (.var 72) .nil)) (.var 73) .nil)) (.num 8))
 (.ret (.t [.c (.s 68 1 0 (.num 0) (.c2 .add (.num 8) (.c1 .len (.var 73)))), .c (.i .i64 (.num 0))], ⟨[], [(68, some ⟨true, .row [.u8] (.c2 .app (.c2 .take (.num 8) (.fn 36 (.cons (.var 71) (.cons (.var 72) .nil)) (.var 73) .nil)) (.var 73))⟩)], 69, 74, []⟩))))
 (.ret (.t [.c (.sn), .c (.i .i64 (.fn 46 (.cons (.var 71) (.cons (.var 72) .nil)) (.var 73) .nil))], ⟨[], [], 68, 74, []⟩))))))))
 (.split (.c1 .not (.c2 .and (.c2 .eq (.num 0) (.var 1)) (.c2 .and (.c2 .eq (.num 0) (.var 2)) (.c2 .and (.c2 .eq (.num 0) (.var 3)) (.c2 .and (.c2 .eq (.num 0) (.var 4)) (.c2 .and (.c2 .eq (.num 0) (.var 5)) (.c2 .and (.c2 .eq (.num 0) (.var 6)) (.c2 .and (.c2 .eq (.num 0) (.var 7)) (.c2 .and (.c2 .eq (.num 0) (.var 8)) (.c2 .and (.c2 .eq (.num 0) (.var 9)) (.c2 .and (.c2 .eq (.num 0) (.var 10)) (.c2 .and (.c2 .eq (.num 0) (.var 11)) (.c2 .and (.c2 .eq (.num 0) (.var 12)) (.c2 .and (.c2 .eq (.num 0) (.var 13)) (.c2 .and (.c2 .eq (.num 0) (.var 14)) (.c2 .and (.c2 .eq (.num 0) (.var 15)) (.c2 .and (.c2 .eq (.num 0) (.var 16)) xWcChk2)))))))))))))))))
 (.ret (.t [.c (.sn), .c (.i .i64 (.num 120))], ⟨[], [], 7, 74, []⟩))
 (.chk (.c2 .le (.num 0) (.var 71))
 (.chk (.c2 .le (.var 71) (.num 65535))
 (.chk (.c2 .le (.num 0) (.var 72))
 (.chk (.c2 .le (.var 72) (.num 65535))
 (.split (.c2 .eq (.fn 46 (.cons (.var 71) (.cons (.var 72) .nil)) (.var 73) .nil) (.num 0))
 (.chk (.c1 (.kin [.u8]) (.fn 36 (.cons (.var 71) (.cons (.var 72) .nil)) (.var 73) .nil))
 (.chk (.c2 .eq (.c1 .len (.fn 36 (.cons (.var 71) (.cons (.var 72) .nil)) (.var 73) .nil)) (.num 8))
 (.ret (.t [.c (.s 68 1 0 (.num 0) (.c2 .add (.num 8) (.c1 .len (.var 73)))), .c (.i .i64 (.num 0))], ⟨[], [(68, some ⟨true, .row [.u8] (.c2 .app (.c2 .take (.num 8) (.fn 36 (.cons (.var 71) (.cons (.var 72) .nil)) (.var 73) .nil)) (.var 73))⟩)], 69, 74, []⟩))))
 (.ret (.t [.c (.sn), .c (.i .i64 (.fn 46 (.cons (.var 71) (.cons (.var 72) .nil)) (.var 73) .nil))], ⟨[], [], 68, 74, []⟩))))))))))))))))
theorem treeWuPushR_is : funTree (ctxN Go.Proofs.Tryz.prog annsWr consW2 8) annsWr 12 (tPush 68).vs (tPush 68).bs (tPush 68).n (preF (tPush 68).res) = treeWuPushR := by kernel_rfl
end Go.Proofs.YtfhjlimdakphcaaGreat.Sx
set_option maxRecDepth 100000
namespace Go.Proofs.YtfhjlimdakphcaaGreat.Sx
open Go
def treeWoPop : M (V × St) :=
(.split (.c2 .lt (.var 1) (.num 1))
 (.ret (.t [.g [.i .u8 (.num 0), .i .u8 (.num 0), .i .u8 (.num 0), .i .u8 (.num 0), .i .u8 (.num 0), .i .u8 (.num 0), .i .u8 (.num 0), .i .u8 (.num 0), .i .u8 (.num 0), .i .u8 (.num 0), .i .u8 (.num 0), .i .u8 (.num 0), .i .u8 (.num 0), .i .u16 (.num 0), .i .u8 (.num 0), .i .u16 (.num 0), .i .u16 (.num 0), .i .u8 (.num 0), .i .u8 (.num 0), .i .u8 (.num 0), .i .u16 (.num 0), .i .u8 (.num 0), .i .u8 (.num 0), .i .u8 (.num 0), .i .u8 (.num 0), .i .u8 (.num 0), .i .u8 (.num 0), .i .u8 (.num 0), .i .u8 (.num 0), .i .u8 (.num 0), .i .u32 (.num 0), .i .u8 (.num 0), .i .u8 (.num 0), .i .u8 (.num 0), .i .u8 (.num 0), .i .u8 (.num 0), .i .u8 (.num 0), .i .u8 (.num 0), .i .u8 (.num 0), .i .u8 (.num 0), .i .u8 (.num 0), .i .u8 (.num 0), .i .u8 (.num 0), .i .u8 (.num 0), .i .u8 (.num 0), .i .u8 (.num 0), .i .u8 (.num 0), .i .u8 (.num 0), .i .u8 (.num 0), .i .u8 (.num 0), .i .u8 (.num 0), .i .u8 (.num 0), .i .u8 (.num 0), .i .u8 (.num 0), .i .u8 (.num 0), .i .u8 (.num 0), .i .u8 (.num 0), .i .u8 (.num 0), .i .u8 (.num 0), .i .u8 (.num 0), .i .u8 (.num 0), .i .u8 (.num 0), .i .u8 (.num 0), .i .u8 (.num 0), .i .u8 (.num 0), .i .u16 (.num 0), .i .u16 (.num 0), .i .u32 (.num 0), .i .u32 (.num 0), .i .u8 (.num 0), .i .u16 (.num 0), .i .u16 (.num 0), .i .u16 (.num 0)], .c (.sn), .c (.i .i64 (.num 120))], ⟨[], [], 6, 2, []⟩))
 (.split (.c2 .lt (.num 6) (.var 1))
 (.ret (.t [.g [.i .u8 (.num 0), .i .u8 (.num 0), .i .u8 (.num 0), .i .u8 (.num 0), .i .u8 (.num 0), .i .u8 (.num 0), .i .u8 (.num 0), .i .u8 (.num 0), .i .u8 (.num 0), .i .u8 (.num 0), .i .u8 (.num 0), .i .u8 (.num 0), .i .u8 (.num 0), .i .u16 (.num 0), .i .u8 (.num 0), .i .u16 (.num 0), .i .u16 (.num 0), .i .u8 (.num 0), .i .u8 (.num 0), .i .u8 (.num 0), .i .u16 (.num 0), .i .u8 (.num 0), .i .u8 (.num 0), .i .u8 (.num 0), .i .u8 (.num 0), .i .u8 (.num 0), .i .u8 (.num 0), .i .u8 (.num 0), .i .u8 (.num 0), .i .u8 (.num 0), .i .u32 (.num 0), .i .u8 (.num 0), .i .u8 (.num 0), .i .u8 (.num 0), .i .u8 (.num 0), .i .u8 (.num 0), .i .u8 (.num 0), .i .u8 (.num 0), .i .u8 (.num 0), .i .u8 (.num 0), .i .u8 (.num 0), .i .u8 (.num 0), .i .u8 (.num 0), .i .u8 (.num 0), .i .u8 (.num 0), .i .u8 (.num 0), .i .u8 (.num 0), .i .u8 (.num 0), .i .u8 (.num 0), .i .u8 (.num 0), .i .u8 (.num 0), .i .u8 (.num 0), .i .u8 (.num 0), .i .u8 (.num 0), .i .u8 (.num 0), .i .u8 (.num 0), .i .u8 (.num 0), .i .u8 (.num 0), .i .u8 (.num 0), .i .u8 (.num 0), .i .u8 (.num 0), .i .u8 (.num 0), .i .u8 (.num 0), .i .u8 (.num 0), .i .u8 (.num 0), .i .u16 (.num 0), .i .u16 (.num 0), .i .u32 (.num 0), .i .u32 (.num 0), .i .u8 (.num 0), .i .u16 (.num 0), .i .u16 (.num 0), .i .u16 (.num 0)], .c (.sn), .c (.i .i64 (.num 120))], ⟨[], [], 6, 2, []⟩))
 (.split (.c2 .eq (.var 1) (.num 1))
 (.split (.c1 .not (.c2 .eq (.fn 21 (.var 0) .nil .nil) (.num 0)))
 (.ret (.t [.g [.i .u8 (.num 0), .i .u8 (.num 0), .i .u8 (.num 0), .i .u8 (.num 0), .i .u8 (.num 0), .i .u8 (.num 0), .i .u8 (.num 0), .i .u8 (.num 0), .i .u8 (.num 0), .i .u8 (.num 0), .i .u8 (.num 0), .i .u8 (.num 0), .i .u8 (.num 0), .i .u16 (.num 0), .i .u8 (.num 0), .i .u16 (.num 0), .i .u16 (.num 0), .i .u8 (.num 0), .i .u8 (.num 0), .i .u8 (.num 0), .i .u16 (.num 0), .i .u8 (.num 0), .i .u8 (.num 0), .i .u8 (.num 0), .i .u8 (.num 0), .i .u8 (.num 0), .i .u8 (.num 0), .i .u8 (.num 0), .i .u8 (.num 0), .i .u8 (.num 0), .i .u32 (.num 0), .i .u8 (.num 0), .i .u8 (.num 0), .i .u8 (.num 0), .i .u8 (.num 0), .i .u8 (.num 0), .i .u8 (.num 0), .i .u8 (.num 0), .i .u8 (.num 0), .i .u8 (.num 0), .i .u8 (.num 0), .i .u8 (.num 0), .i .u8 (.num 0), .i .u8 (.num 0), .i .u8 (.num 0), .i .u8 (.num 0), .i .u8 (.num 0), .i .u8 (.num 0), .i .u8 (.num 0), .i .u8 (.num 0), .i .u8 (.num 0), .i .u8 (.num 0), .i .u8 (.num 0), .i .u8 (.num 0), .i .u8 (.num 0), .i .u8 (.num 0), .i .u8 (.num 0), .i .u8 (.num 0), .i .u8 (.num 0), .i .u8 (.num 0), .i .u8 (.num 0), .i .u8 (.num 0), .i .u8 (.num 0), .i .u8 (.num 0), .i .u8 (.num 0), .i .u16 (.num 0), .i .u16 (.num 0), .i .u32 (.num 0), .i .u32 (.num 0), .i .u8 (.num 0), .i .u16 (.num 0), .i .u16 (.num 0), .i .u16 (.num 0)], .c (.sn), .c (.i .i64 (.fn 21 (.var 0) .nil .nil))], ⟨[], [], 69, 2, []⟩))
 (.chk (.c2 .le (.num 14) (.c1 .len (.var 0)))
 (.ret (.t [.g [.i .u8 (.var 1), .i .u8 (.wr .u8 (.c2 .rd (.fn 11 (.var 0) .nil .nil) (.num 0))), .i .u8 (.wr .u8 (.c2 .rd (.fn 11 (.var 0) .nil .nil) (.num 1))), .i .u8 (.wr .u8 (.c2 .rd (.fn 11 (.var 0) .nil .nil) (.num 2))), .i .u8 (.wr .u8 (.c2 .rd (.fn 11 (.var 0) .nil .nil) (.num 3))), .i .u8 (.wr .u8 (.c2 .rd (.fn 11 (.var 0) .nil .nil) (.num 4))), .i .u8 (.wr .u8 (.c2 .rd (.fn 11 (.var 0) .nil .nil) (.num 5))), .i .u8 (.wr .u8 (.c2 .rd (.fn 11 (.var 0) .nil .nil) (.num 6))), .i .u8 (.wr .u8 (.c2 .rd (.fn 11 (.var 0) .nil .nil) (.num 7))), .i .u8 (.wr .u8 (.c2 .rd (.fn 11 (.var 0) .nil .nil) (.num 8))), .i .u8 (.wr .u8 (.c2 .rd (.fn 11 (.var 0) .nil .nil) (.num 9))), .i .u8 (.wr .u8 (.c2 .rd (.fn 11 (.var 0) .nil .nil) (.num 10))), .i .u8 (.wr .u8 (.c2 .rd (.fn 11 (.var 0) .nil .nil) (.num 11))), .i .u16 (.wr .u16 (.c2 .rd (.fn 11 (.var 0) .nil .nil) (.num 12))), .i .u8 (.num 0), .i .u16 (.num 0), .i .u16 (.num 0), .i .u8 (.num 0), .i .u8 (.num 0), .i .u8 (.num 0), .i .u16 (.num 0), .i .u8 (.num 0), .i .u8 (.num 0), .i .u8 (.num 0), .i .u8 (.num 0), .i .u8 (.num 0), .i .u8 (.num 0), .i .u8 (.num 0), .i .u8 (.num 0), .i .u8 (.num 0), .i .u32 (.num 0), .i .u8 (.num 0), .i .u8 (.num 0), .i .u8 (.num 0), .i .u8 (.num 0), .i .u8 (.num 0), .i .u8 (.num 0), .i .u8 (.num 0), .i .u8 (.num 0), .i .u8 (.num 0), .i .u8 (.num 0), .i .u8 (.num 0), .i .u8 (.num 0), .i .u8 (.num 0), .i .u8 (.num 0), .i .u8 (.num 0), .i .u8 (.num 0), .i .u8 (.num 0), .i .u8 (.num 0), .i .u8 (.num 0), .i .u8 (.num 0), .i .u8 (.num 0), .i .u8 (.num 0), .i .u8 (.num 0), .i .u8 (.num 0), .i .u8 (.num 0), .i .u8 (.num 0), .i .u8 (.num 0), .i .u8 (.num 0), .i .u8 (.num 0), .i .u8 (.num 0), .i .u8 (.num 0), .i .u8 (.num 0), .i .u8 (.num 0), .i .u8 (.num 0), .i .u16 (.num 0), .i .u16 (.num 0), .i .u32 (.num 0), .i .u32 (.num 0), .i .u8 (.num 0), .i .u16 (.num 0), .i .u16 (.num 0), .i .u16 (.num 0)], .c (.s 70 1 0 (.num 0) (.c2 .sub (.c1 .len (.var 0)) (.num 14))), .c (.i .i64 (.num 0))], ⟨[], [(70, some ⟨true, .row [.u8] (.c2 .drop (.num 14) (.var 0))⟩)], 71, 2, []⟩))))
 (.split (.c2 .eq (.var 1) (.num 2))
 (.split (.c1 .not (.c2 .eq (.fn 22 (.var 0) .nil .nil) (.num 0)))
 (.ret (.t [.g [.i .u8 (.num 0), .i .u8 (.num 0), .i .u8 (.num 0), .i .u8 (.num 0), .i .u8 (.num 0), .i .u8 (.num 0), .i .u8 (.num 0), .i .u8 (.num 0), .i .u8 (.num 0), .i .u8 (.num 0), .i .u8 (.num 0), .i .u8 (.num 0), .i .u8 (.num 0), .i .u16 (.num 0), .i .u8 (.num 0), .i .u16 (.num 0), .i .u16 (.num 0), .i .u8 (.num 0), .i .u8 (.num 0), .i .u8 (.num 0), .i .u16 (.num 0), .i .u8 (.num 0), .i .u8 (.num 0), .i .u8 (.num 0), .i .u8 (.num 0), .i .u8 (.num 0), .i .u8 (.num 0), .i .u8 (.num 0), .i .u8 (.num 0), .i .u8 (.num 0), .i .u32 (.num 0), .i .u8 (.num 0), .i .u8 (.num 0), .i .u8 (.num 0), .i .u8 (.num 0), .i .u8 (.num 0), .i .u8 (.num 0), .i .u8 (.num 0), .i .u8 (.num 0), .i .u8 (.num 0), .i .u8 (.num 0), .i .u8 (.num 0), .i .u8 (.num 0), .i .u8 (.num 0), .i .u8 (.num 0), .i .u8 (.num 0), .i .u8 (.num 0), .i .u8 (.num 0), .i .u8 (.num 0), .i .u8 (.num 0), .i .u8 (.num 0), .i .u8 (.num 0), .i .u8 (.num 0), .i .u8 (.num 0), .i .u8 (.num 0), .i .u8 (.num 0), .i .u8 (.num 0), .i .u8 (.num 0), .i .u8 (.num 0), .i .u8 (.num 0), .i .u8 (.num 0), .i .u8 (.num 0), .i .u8 (.num 0), .i .u8 (.num 0), .i .u8 (.num 0), .i .u16 (.num 0), .i .u16 (.num 0), .i .u32 (.num 0), .i .u32 (.num 0), .i .u8 (.num 0), .i .u16 (.num 0), .i .u16 (.num 0), .i .u16 (.num 0)], .c (.sn), .c (.i .i64 (.fn 22 (.var 0) .nil .nil))], ⟨[], [], 69, 2, []⟩))
 (.chk (.c2 .le (.num 4) (.c1 .len (.var 0)))
 (.ret (.t [.g [.i .u8 (.var 1), .i .u8 (.num 0), .i .u8 (.num 0), .i .u8 (.num 0), .i .u8 (.num 0), .i .u8 (.num 0), .i .u8 (.num 0), .i .u8 (.num 0), .i .u8 (.num 0), .i .u8 (.num 0), .i .u8 (.num 0), .i .u8 (.num 0), .i .u8 (.num 0), .i .u16 (.num 0), .i .u8 (.wr .u8 (.c2 .rd (.fn 12 (.var 0) .nil .nil) (.num 0))), .i .u16 (.wr .u16 (.c2 .rd (.fn 12 (.var 0) .nil .nil) (.num 1))), .i .u16 (.wr .u16 (.c2 .rd (.fn 12 (.var 0) .nil .nil) (.num 2))), .i .u8 (.num 0), .i .u8 (.num 0), .i .u8 (.num 0), .i .u16 (.num 0), .i .u8 (.num 0), .i .u8 (.num 0), .i .u8 (.num 0), .i .u8 (.num 0), .i .u8 (.num 0), .i .u8 (.num 0), .i .u8 (.num 0), .i .u8 (.num 0), .i .u8 (.num 0), .i .u32 (.num 0), .i .u8 (.num 0), .i .u8 (.num 0), .i .u8 (.num 0), .i .u8 (.num 0), .i .u8 (.num 0), .i .u8 (.num 0), .i .u8 (.num 0), .i .u8 (.num 0), .i .u8 (.num 0), .i .u8 (.num 0), .i .u8 (.num 0), .i .u8 (.num 0), .i .u8 (.num 0), .i .u8 (.num 0), .i .u8 (.num 0), .i .u8 (.num 0), .i .u8 (.num 0), .i .u8 (.num 0), .i .u8 (.num 0), .i .u8 (.num 0), .i .u8 (.num 0), .i .u8 (.num 0), .i .u8 (.num 0), .i .u8 (.num 0), .i .u8 (.num 0), .i .u8 (.num 0), .i .u8 (.num 0), .i .u8 (.num 0), .i .u8 (.num 0), .i .u8 (.num 0), .i .u8 (.num 0), .i .u8 (.num 0), .i .u8 (.num 0), .i .u8 (.num 0), .i .u16 (.num 0), .i .u16 (.num 0), .i .u32 (.num 0), .i .u32 (.num 0), .i .u8 (.num 0), .i .u16 (.num 0), .i .u16 (.num 0), .i .u16 (.num 0)], .c (.s 70 1 0 (.num 0) (.c2 .sub (.c1 .len (.var 0)) (.num 4))), .c (.i .i64 (.num 0))], ⟨[], [(70, some ⟨true, .row [.u8] (.c2 .drop (.num 4) (.var 0))⟩)], 71, 2, []⟩))))
 (.split (.c2 .eq (.var 1) (.num 3))
 (.split (.c1 .not (.c2 .eq (.fn 23 (.var 0) .nil .nil) (.num 0)))
 (.ret (.t [.g [.i .u8 (.num 0), .i .u8 (.num 0), .i .u8 (.num 0), .i .u8 (.num 0), .i .u8 (.num 0), .i .u8 (.num 0), .i .u8 (.num 0), .i .u8 (.num 0), .i .u8 (.num 0), .i .u8 (.num 0), .i .u8 (.num 0), .i .u8 (.num 0), .i .u8 (.num 0), .i .u16 (.num 0), .i .u8 (.num 0), .i .u16 (.num 0), .i .u16 (.num 0), .i .u8 (.num 0), .i .u8 (.num 0), .i .u8 (.num 0), .i .u16 (.num 0), .i .u8 (.num 0), .i .u8 (.num 0), .i .u8 (.num 0), .i .u8 (.num 0), .i .u8 (.num 0), .i .u8 (.num 0), .i .u8 (.num 0), .i .u8 (.num 0), .i .u8 (.num 0), .i .u32 (.num 0), .i .u8 (.num 0), .i .u8 (.num 0), .i .u8 (.num 0), .i .u8 (.num 0), .i .u8 (.num 0), .i .u8 (.num 0), .i .u8 (.num 0), .i .u8 (.num 0), .i .u8 (.num 0), .i .u8 (.num 0), .i .u8 (.num 0), .i .u8 (.num 0), .i .u8 (.num 0), .i .u8 (.num 0), .i .u8 (.num 0), .i .u8 (.num 0), .i .u8 (.num 0), .i .u8 (.num 0), .i .u8 (.num 0), .i .u8 (.num 0), .i .u8 (.num 0), .i .u8 (.num 0), .i .u8 (.num 0), .i .u8 (.num 0), .i .u8 (.num 0), .i .u8 (.num 0), .i .u8 (.num 0), .i .u8 (.num 0), .i .u8 (.num 0), .i .u8 (.num 0), .i .u8 (.num 0), .i .u8 (.num 0), .i .u8 (.num 0), .i .u8 (.num 0), .i .u16 (.num 0), .i .u16 (.num 0), .i .u32 (.num 0), .i .u32 (.num 0), .i .u8 (.num 0), .i .u16 (.num 0), .i .u16 (.num 0), .i .u16 (.num 0)], .c (.sn), .c (.i .i64 (.fn 23 (.var 0) .nil .nil))], ⟨[], [], 69, 2, []⟩))
 (.chk (.c2 .le (.num 20) (.c1 .len (.var 0)))
 (.ret (.t [.g [.i .u8 (.var 1), .i .u8 (.num 0), .i .u8 (.num 0), .i .u8 (.num 0), .i .u8 (.num 0), .i .u8 (.num 0), .i .u8 (.num 0), .i .u8 (.num 0), .i .u8 (.num 0), .i .u8 (.num 0), .i .u8 (.num 0), .i .u8 (.num 0), .i .u8 (.num 0), .i .u16 (.num 0), .i .u8 (.num 0), .i .u16 (.num 0), .i .u16 (.num 0), .i .u8 (.wr .u8 (.c2 .rd (.fn 13 (.var 0) .nil .nil) (.num 0))), .i .u8 (.wr .u8 (.c2 .rd (.fn 13 (.var 0) .nil .nil) (.num 1))), .i .u8 (.wr .u8 (.c2 .rd (.fn 13 (.var 0) .nil .nil) (.num 2))), .i .u16 (.wr .u16 (.c2 .rd (.fn 13 (.var 0) .nil .nil) (.num 3))), .i .u8 (.wr .u8 (.c2 .rd (.fn 13 (.var 0) .nil .nil) (.num 4))), .i .u8 (.wr .u8 (.c2 .rd (.fn 13 (.var 0) .nil .nil) (.num 5))), .i .u8 (.wr .u8 (.c2 .rd (.fn 13 (.var 0) .nil .nil) (.num 6))), .i .u8 (.wr .u8 (.c2 .rd (.fn 13 (.var 0) .nil .nil) (.num 7))), .i .u8 (.wr .u8 (.c2 .rd (.fn 13 (.var 0) .nil .nil) (.num 8))), .i .u8 (.wr .u8 (.c2 .rd (.fn 13 (.var 0) .nil .nil) (.num 9))), .i .u8 (.wr .u8 (.c2 .rd (.fn 13 (.var 0) .nil .nil) (.num 10))), .i .u8 (.wr .u8 (.c2 .rd (.fn 13 (.var 0) .nil .nil) (.num 11))), .i .u8 (.num 0), .i .u32 (.num 0), .i .u8 (.num 0), .i .u8 (.num 0), .i .u8 (.num 0), .i .u8 (.num 0), .i .u8 (.num 0), .i .u8 (.num 0), .i .u8 (.num 0), .i .u8 (.num 0), .i .u8 (.num 0), .i .u8 (.num 0), .i .u8 (.num 0), .i .u8 (.num 0), .i .u8 (.num 0), .i .u8 (.num 0), .i .u8 (.num 0), .i .u8 (.num 0), .i .u8 (.num 0), .i .u8 (.num 0), .i .u8 (.num 0), .i .u8 (.num 0), .i .u8 (.num 0), .i .u8 (.num 0), .i .u8 (.num 0), .i .u8 (.num 0), .i .u8 (.num 0), .i .u8 (.num 0), .i .u8 (.num 0), .i .u8 (.num 0), .i .u8 (.num 0), .i .u8 (.num 0), .i .u8 (.num 0), .i .u8 (.num 0), .i .u8 (.num 0), .i .u8 (.num 0), .i .u16 (.num 0), .i .u16 (.num 0), .i .u32 (.num 0), .i .u32 (.num 0), .i .u8 (.num 0), .i .u16 (.num 0), .i .u16 (.num 0), .i .u16 (.num 0)], .c (.s 70 1 0 (.num 0) (.c2 .sub (.c1 .len (.var 0)) (.num 20))), .c (.i .i64 (.num 0))], ⟨[], [(70, some ⟨true, .row [.u8] (.c2 .drop (.num 20) (.var 0))⟩)], 71, 2, []⟩))))
 (.split (.c2 .eq (.var 1) (.num 4))
 (.split (.c1 .not (.c2 .eq (.fn 24 (.var 0) .nil .nil) (.num 0)))
 (.ret (.t [.g [.i .u8 (.num 0), .i .u8 (.num 0), .i .u8 (.num 0), .i .u8 (.num 0), .i .u8 (.num 0), .i .u8 (.num 0), .i .u8 (.num 0), .i .u8 (.num 0), .i .u8 (.num 0), .i .u8 (.num 0), .i .u8 (.num 0), .i .u8 (.num 0), .i .u8 (.num 0), .i .u16 (.num 0), .i .u8 (.num 0), .i .u16 (.num 0), .i .u16 (.num 0), .i .u8 (.num 0), .i .u8 (.num 0), .i .u8 (.num 0), .i .u16 (.num 0), .i .u8 (.num 0), .i .u8 (.num 0), .i .u8 (.num 0), .i .u8 (.num 0), .i .u8 (.num 0), .i .u8 (.num 0), .i .u8 (.num 0), .i .u8 (.num 0), .i .u8 (.num 0), .i .u32 (.num 0), .i .u8 (.num 0), .i .u8 (.num 0), .i .u8 (.num 0), .i .u8 (.num 0), .i .u8 (.num 0), .i .u8 (.num 0), .i .u8 (.num 0), .i .u8 (.num 0), .i .u8 (.num 0), .i .u8 (.num 0), .i .u8 (.num 0), .i .u8 (.num 0), .i .u8 (.num 0), .i .u8 (.num 0), .i .u8 (.num 0), .i .u8 (.num 0), .i .u8 (.num 0), .i .u8 (.num 0), .i .u8 (.num 0), .i .u8 (.num 0), .i .u8 (.num 0), .i .u8 (.num 0), .i .u8 (.num 0), .i .u8 (.num 0), .i .u8 (.num 0), .i .u8 (.num 0), .i .u8 (.num 0), .i .u8 (.num 0), .i .u8 (.num 0), .i .u8 (.num 0), .i .u8 (.num 0), .i .u8 (.num 0), .i .u8 (.num 0), .i .u8 (.num 0), .i .u16 (.num 0), .i .u16 (.num 0), .i .u32 (.num 0), .i .u32 (.num 0), .i .u8 (.num 0), .i .u16 (.num 0), .i .u16 (.num 0), .i .u16 (.num 0)], .c (.sn), .c (.i .i64 (.fn 24 (.var 0) .nil .nil))], ⟨[], [], 69, 2, []⟩))
 (.chk (.c2 .le (.num 40) (.c1 .len (.var 0)))
 (.ret (.t [.g [.i .u8 (.var 1), .i .u8 (.num 0), .i .u8 (.num 0), .i .u8 (.num 0), .i .u8 (.num 0), .i .u8 (.num 0), .i .u8 (.num 0), .i .u8 (.num 0), .i .u8 (.num 0), .i .u8 (.num 0), .i .u8 (.num 0), .i .u8 (.num 0), .i .u8 (.num 0), .i .u16 (.num 0), .i .u8 (.num 0), .i .u16 (.num 0), .i .u16 (.num 0), .i .u8 (.num 0), .i .u8 (.num 0), .i .u8 (.num 0), .i .u16 (.num 0), .i .u8 (.num 0), .i .u8 (.num 0), .i .u8 (.num 0), .i .u8 (.num 0), .i .u8 (.num 0), .i .u8 (.num 0), .i .u8 (.num 0), .i .u8 (.num 0), .i .u8 (.wr .u8 (.c2 .rd (.fn 14 (.var 0) .nil .nil) (.num 0))), .i .u32 (.wr .u32 (.c2 .rd (.fn 14 (.var 0) .nil .nil) (.num 1))), .i .u8 (.wr .u8 (.c2 .rd (.fn 14 (.var 0) .nil .nil) (.num 2))), .i .u8 (.wr .u8 (.c2 .rd (.fn 14 (.var 0) .nil .nil) (.num 3))), .i .u8 (.wr .u8 (.c2 .rd (.fn 14 (.var 0) .nil .nil) (.num 4))), .i .u8 (.wr .u8 (.c2 .rd (.fn 14 (.var 0) .nil .nil) (.num 5))), .i .u8 (.wr .u8 (.c2 .rd (.fn 14 (.var 0) .nil .nil) (.num 6))), .i .u8 (.wr .u8 (.c2 .rd (.fn 14 (.var 0) .nil .nil) (.num 7))), .i .u8 (.wr .u8 (.c2 .rd (.fn 14 (.var 0) .nil .nil) (.num 8))), .i .u8 (.wr .u8 (.c2 .rd (.fn 14 (.var 0) .nil .nil) (.num 9))), .i .u8 (.wr .u8 (.c2 .rd (.fn 14 (.var 0) .nil .nil) (.num 10))), .i .u8 (.wr .u8 (.c2 .rd (.fn 14 (.var 0) .nil .nil) (.num 11))), .i .u8 (.wr .u8 (.c2 .rd (.fn 14 (.var 0) .nil .nil) (.num 12))), .i .u8 (.wr .u8 (.c2 .rd (.fn 14 (.var 0) .nil .nil) (.num 13))), .i .u8 (.wr .u8 (.c2 .rd (.fn 14 (.var 0) .nil .nil) (.num 14))), .i .u8 (.wr .u8 (.c2 .rd (.fn 14 (.var 0) .nil .nil) (.num 15))), .i .u8 (.wr .u8 (.c2 .rd (.fn 14 (.var 0) .nil .nil) (.num 16))), .i .u8 (.wr .u8 (.c2 .rd (.fn 14 (.var 0) .nil .nil) (.num 17))), .i .u8 (.wr .u8 (.c2 .rd (.fn 14 (.var 0) .nil .nil) (.num 18))), .i .u8 (.wr .u8 (.c2 .rd (.fn 14 (.var 0) .nil .nil) (.num 19))), .i .u8 (.wr .u8 (.c2 .rd (.fn 14 (.var 0) .nil .nil) (.num 20))), .i .u8 (.wr .u8 (.c2 .rd (.fn 14 (.var 0) .nil .nil) (.num 21))), .i .u8 (.wr .u8 (.c2 .rd (.fn 14 (.var 0) .nil .nil) (.num 22))), .i .u8 (.wr .u8 (.c2 .rd (.fn 14 (.var 0) .nil .nil) (.num 23))), .i .u8 (.wr .u8 (.c2 .rd (.fn 14 (.var 0) .nil .nil) (.num 24))), .i .u8 (.wr .u8 (.c2 .rd (.fn 14 (.var 0) .nil .nil) (.num 25))), .i .u8 (.wr .u8 (.c2 .rd (.fn 14 (.var 0) .nil .nil) (.num 26))), .i .u8 (.wr .u8 (.c2 .rd (.fn 14 (.var 0) .nil .nil) (.num 27))), .i .u8 (.wr .u8 (.c2 .rd (.fn 14 (.var 0) .nil .nil) (.num 28))), .i .u8 (.wr .u8 (.c2 .rd (.fn 14 (.var 0) .nil .nil) (.num 29))), .i .u8 (.wr .u8 (.c2 .rd (.fn 14 (.var 0) .nil .nil) (.num 30))), .i .u8 (.wr .u8 (.c2 .rd (.fn 14 (.var 0) .nil .nil) (.num 31))), .i .u8 (.wr .u8 (.c2 .rd (.fn 14 (.var 0) .nil .nil) (.num 32))), .i .u8 (.wr .u8 (.c2 .rd (.fn 14 (.var 0) .nil .nil) (.num 33))), .i .u8 (.wr .u8 (.c2 .rd (.fn 14 (.var 0) .nil .nil) (.num 34))), .i .u8 (.wr .u8 (.c2 .rd (.fn 14 (.var 0) .nil .nil) (.num 35))), .i .u16 (.num 0), .i .u16 (.num 0), .i .u32 (.num 0), .i .u32 (.num 0), .i .u8 (.num 0), .i .u16 (.num 0), .i .u16 (.num 0), .i .u16 (.num 0)], .c (.s 70 1 0 (.num 0) (.c2 .sub (.c1 .len (.var 0)) (.num 40))), .c (.i .i64 (.num 0))], ⟨[], [(70, some ⟨true, .row [.u8] (.c2 .drop (.num 40) (.var 0))⟩)], 71, 2, []⟩))))
 (.split (.c2 .eq (.var 1) (.num 5))
 (.split (.c1 .not (.c2 .eq (.fn 25 (.var 0) .nil .nil) (.num 0)))
 (.ret (.t [.g [.i .u8 (.num 0), .i .u8 (.num 0), .i .u8 (.num 0), .i .u8 (.num 0), .i .u8 (.num 0), .i .u8 (.num 0), .i .u8 (.num 0), .i .u8 (.num 0), .i .u8 (.num 0), .i .u8 (.num 0), .i .u8 (.num 0), .i .u8 (.num 0), .i .u8 (.num 0), .i .u16 (.num 0), .i .u8 (.num 0), .i .u16 (.num 0), .i .u16 (.num 0), .i .u8 (.num 0), .i .u8 (.num 0), .i .u8 (.num 0), .i .u16 (.num 0), .i .u8 (.num 0), .i .u8 (.num 0), .i .u8 (.num 0), .i .u8 (.num 0), .i .u8 (.num 0), .i .u8 (.num 0), .i .u8 (.num 0), .i .u8 (.num 0), .i .u8 (.num 0), .i .u32 (.num 0), .i .u8 (.num 0), .i .u8 (.num 0), .i .u8 (.num 0), .i .u8 (.num 0), .i .u8 (.num 0), .i .u8 (.num 0), .i .u8 (.num 0), .i .u8 (.num 0), .i .u8 (.num 0), .i .u8 (.num 0), .i .u8 (.num 0), .i .u8 (.num 0), .i .u8 (.num 0), .i .u8 (.num 0), .i .u8 (.num 0), .i .u8 (.num 0), .i .u8 (.num 0), .i .u8 (.num 0), .i .u8 (.num 0), .i .u8 (.num 0), .i .u8 (.num 0), .i .u8 (.num 0), .i .u8 (.num 0), .i .u8 (.num 0), .i .u8 (.num 0), .i .u8 (.num 0), .i .u8 (.num 0), .i .u8 (.num 0), .i .u8 (.num 0), .i .u8 (.num 0), .i .u8 (.num 0), .i .u8 (.num 0), .i .u8 (.num 0), .i .u8 (.num 0), .i .u16 (.num 0), .i .u16 (.num 0), .i .u32 (.num 0), .i .u32 (.num 0), .i .u8 (.num 0), .i .u16 (.num 0), .i .u16 (.num 0), .i .u16 (.num 0)], .c (.sn), .c (.i .i64 (.fn 25 (.var 0) .nil .nil))], ⟨[], [], 69, 2, []⟩))
 (.chk (.c2 .le (.num 20) (.c1 .len (.var 0)))
 (.ret (.t [.g [.i .u8 (.var 1), .i .u8 (.num 0), .i .u8 (.num 0), .i .u8 (.num 0), .i .u8 (.num 0), .i .u8 (.num 0), .i .u8 (.num 0), .i .u8 (.num 0), .i .u8 (.num 0), .i .u8 (.num 0), .i .u8 (.num 0), .i .u8 (.num 0), .i .u8 (.num 0), .i .u16 (.num 0), .i .u8 (.num 0), .i .u16 (.num 0), .i .u16 (.num 0), .i .u8 (.num 0), .i .u8 (.num 0), .i .u8 (.num 0), .i .u16 (.num 0), .i .u8 (.num 0), .i .u8 (.num 0), .i .u8 (.num 0), .i .u8 (.num 0), .i .u8 (.num 0), .i .u8 (.num 0), .i .u8 (.num 0), .i .u8 (.num 0), .i .u8 (.num 0), .i .u32 (.num 0), .i .u8 (.num 0), .i .u8 (.num 0), .i .u8 (.num 0), .i .u8 (.num 0), .i .u8 (.num 0), .i .u8 (.num 0), .i .u8 (.num 0), .i .u8 (.num 0), .i .u8 (.num 0), .i .u8 (.num 0), .i .u8 (.num 0), .i .u8 (.num 0), .i .u8 (.num 0), .i .u8 (.num 0), .i .u8 (.num 0), .i .u8 (.num 0), .i .u8 (.num 0), .i .u8 (.num 0), .i .u8 (.num 0), .i .u8 (.num 0), .i .u8 (.num 0), .i .u8 (.num 0), .i .u8 (.num 0), .i .u8 (.num 0), .i .u8 (.num 0), .i .u8 (.num 0), .i .u8 (.num 0), .i .u8 (.num 0), .i .u8 (.num 0), .i .u8 (.num 0), .i .u8 (.num 0), .i .u8 (.num 0), .i .u8 (.num 0), .i .u8 (.num 0), .i .u16 (.wr .u16 (.c2 .rd (.fn 15 (.var 0) .nil .nil) (.num 0))), .i .u16 (.wr .u16 (.c2 .rd (.fn 15 (.var 0) .nil .nil) (.num 1))), .i .u32 (.wr .u32 (.c2 .rd (.fn 15 (.var 0) .nil .nil) (.num 2))), .i .u32 (.wr .u32 (.c2 .rd (.fn 15 (.var 0) .nil .nil) (.num 3))), .i .u8 (.wr .u8 (.c2 .rd (.fn 15 (.var 0) .nil .nil) (.num 4))), .i .u16 (.wr .u16 (.c2 .rd (.fn 15 (.var 0) .nil .nil) (.num 5))), .i .u16 (.num 0), .i .u16 (.num 0)], .c (.s 70 1 0 (.num 0) (.c2 .sub (.c1 .len (.var 0)) (.num 20))), .c (.i .i64 (.num 0))], ⟨[], [(70, some ⟨true, .row [.u8] (.c2 .drop (.num 20) (.var 0))⟩)], 71, 2, []⟩))))
 (.split (.c2 .eq (.var 1) (.num 6))
 (.split (.c1 .not (.c2 .eq (.fn 26 (.var 0) .nil .nil) (.num 0)))
 (.ret (.t [.g [.i .u8 (.num 0), .i .u8 (.num 0), .i .u8 (.num 0), .i .u8 (.num 0), .i .u8 (.num 0), .i .u8 (.num 0), .i .u8 (.num 0), .i .u8 (.num 0), .i .u8 (.num 0), .i .u8 (.num 0), .i .u8 (.num 0), .i .u8 (.num 0), .i .u8 (.num 0), .i .u16 (.num 0), .i .u8 (.num 0), .i .u16 (.num 0), .i .u16 (.num 0), .i .u8 (.num 0), .i .u8 (.num 0), .i .u8 (.num 0), .i .u16 (.num 0), .i .u8 (.num 0), .i .u8 (.num 0), .i .u8 (.num 0), .i .u8 (.num 0), .i .u8 (.num 0), .i .u8 (.num 0), .i .u8 (.num 0), .i .u8 (.num 0), .i .u8 (.num 0), .i .u32 (.num 0), .i .u8 (.num 0), .i .u8 (.num 0), .i .u8 (.num 0), .i .u8 (.num 0), .i .u8 (.num 0), .i .u8 (.num 0), .i .u8 (.num 0), .i .u8 (.num 0), .i .u8 (.num 0), .i .u8 (.num 0), .i .u8 (.num 0), .i .u8 (.num 0), .i .u8 (.num 0), .i .u8 (.num 0), .i .u8 (.num 0), .i .u8 (.num 0), .i .u8 (.num 0), .i .u8 (.num 0), .i .u8 (.num 0), .i .u8 (.num 0), .i .u8 (.num 0), .i .u8 (.num 0), .i .u8 (.num 0), .i .u8 (.num 0), .i .u8 (.num 0), .i .u8 (.num 0), .i .u8 (.num 0), .i .u8 (.num 0), .i .u8 (.num 0), .i .u8 (.num 0), .i .u8 (.num 0), .i .u8 (.num 0), .i .u8 (.num 0), .i .u8 (.num 0), .i .u16 (.num 0), .i .u16 (.num 0), .i .u32 (.num 0), .i .u32 (.num 0), .i .u8 (.num 0), .i .u16 (.num 0), .i .u16 (.num 0), .i .u16 (.num 0)], .c (.sn), .c (.i .i64 (.fn 26 (.var 0) .nil .nil))], ⟨[], [], 69, 2, []⟩))
 (.chk (.c2 .le (.num 8) (.c1 .len (.var 0)))
 (.ret (.t [.g [.i .u8 (.var 1), .i .u8 (.num 0), .i .u8 (.num 0), .i .u8 (.num 0), .i .u8 (.num 0), .i .u8 (.num 0), .i .u8 (.num 0), .i .u8 (.num 0), .i .u8 (.num 0), .i .u8 (.num 0), .i .u8 (.num 0), .i .u8 (.num 0), .i .u8 (.num 0), .i .u16 (.num 0), .i .u8 (.num 0), .i .u16 (.num 0), .i .u16 (.num 0), .i .u8 (.num 0), .i .u8 (.num 0), .i .u8 (.num 0), .i .u16 (.num 0), .i .u8 (.num 0), .i .u8 (.num 0), .i .u8 (.num 0), .i .u8 (.num 0), .i .u8 (.num 0), .i .u8 (.num 0), .i .u8 (.num 0), .i .u8 (.num 0), .i .u8 (.num 0), .i .u32 (.num 0), .i .u8 (.num 0), .i .u8 (.num 0), .i .u8 (.num 0), .i .u8 (.num 0), .i .u8 (.num 0), .i .u8 (.num 0), .i .u8 (.num 0), .i .u8 (.num 0), .i .u8 (.num 0), .i .u8 (.num 0), .i .u8 (.num 0), .i .u8 (.num 0), .i .u8 (.num 0), .i .u8 (.num 0), .i .u8 (.num 0), .i .u8 (.num 0), .i .u8 (.num 0), .i .u8 (.num 0), .i .u8 (.num 0), .i .u8 (.num 0), .i .u8 (.num 0), .i .u8 (.num 0), .i .u8 (.num 0), .i .u8 (.num 0), .i .u8 (.num 0), .i .u8 (.num 0), .i .u8 (.num 0), .i .u8 (.num 0), .i .u8 (.num 0), .i .u8 (.num 0), .i .u8 (.num 0), .i .u8 (.num 0), .i .u8 (.num 0), .i .u8 (.num 0), .i .u16 (.num 0), .i .u16 (.num 0), .i .u32 (.num 0), .i .u32 (.num 0), .i .u8 (.num 0), .i .u16 (.num 0), .i .u16 (.wr .u16 (.c2 .rd (.fn 16 (.var 0) .nil .nil) (.num 0))), .i .u16 (.wr .u16 (.c2 .rd (.fn 16 (.var 0) .nil .nil) (.num 1)))], .c (.s 70 1 0 (.num 0) (.c2 .sub (.c1 .len (.var 0)) (.num 8))), .c (.i .i64 (.num 0))], ⟨[], [(70, some ⟨true, .row [.u8] (.c2 .drop (.num 8) (.var 0))⟩)], 71, 2, []⟩))))
 (.fail 11)))))))))
theorem treeWoPop_is : funTree (ctxN Go.Proofs.Tryz.prog annsWr consW1 8) annsWr 28 (tPop 70).vs (tPop 70).bs (tPop 70).n (preF (tPop 70).res) = treeWoPop := by kernel_rfl
end Go.Proofs.YtfhjlimdakphcaaGreat.Sx
set_option maxRecDepth 100000
namespace Go.Proofs.YtfhjlimdakphcaaGreat.Sx
open Go
def treeWoPopR : M (V × St) :=
(.split (.c2 .lt (.num 6) (.var 1))
 (.ret (.t [.g [.i .u8 (.num 0), .i .u8 (.num 0), .i .u8 (.num 0), .i .u8 (.num 0), .i .u8 (.num 0), .i .u8 (.num 0), .i .u8 (.num 0), .i .u8 (.num 0), .i .u8 (.num 0), .i .u8 (.num 0), .i .u8 (.num 0), .i .u8 (.num 0), .i .u8 (.num 0), .i .u16 (.num 0), .i .u8 (.num 0), .i .u16 (.num 0), .i .u16 (.num 0), .i .u8 (.num 0), .i .u8 (.num 0), .i .u8 (.num 0), .i .u16 (.num 0), .i .u8 (.num 0), .i .u8 (.num 0), .i .u8 (.num 0), .i .u8 (.num 0), .i .u8 (.num 0), .i .u8 (.num 0), .i .u8 (.num 0), .i .u8 (.num 0), .i .u8 (.num 0), .i .u32 (.num 0), .i .u8 (.num 0), .i .u8 (.num 0), .i .u8 (.num 0), .i .u8 (.num 0), .i .u8 (.num 0), .i .u8 (.num 0), .i .u8 (.num 0), .i .u8 (.num 0), .i .u8 (.num 0), .i .u8 (.num 0), .i .u8 (.num 0), .i .u8 (.num 0), .i .u8 (.num 0), .i .u8 (.num 0), .i .u8 (.num 0), .i .u8 (.num 0), .i .u8 (.num 0), .i .u8 (.num 0), .i .u8 (.num 0), .i .u8 (.num 0), .i .u8 (.num 0), .i .u8 (.num 0), .i .u8 (.num 0), .i .u8 (.num 0), .i .u8 (.num 0), .i .u8 (.num 0), .i .u8 (.num 0), .i .u8 (.num 0), .i .u8 (.num 0), .i .u8 (.num 0), .i .u8 (.num 0), .i .u8 (.num 0), .i .u8 (.num 0), .i .u8 (.num 0), .i .u16 (.num 0), .i .u16 (.num 0), .i .u32 (.num 0), .i .u32 (.num 0), .i .u8 (.num 0), .i .u16 (.num 0), .i .u16 (.num 0), .i .u16 (.num 0)], .c (.sn), .c (.i .i64 (.num 120))], ⟨[], [], 3, 2, []⟩))
 (.split (.c2 .eq (.c2 .rd (.cons (.num 0) (.cons (.num 14) (.cons (.num 4) (.cons (.num 20) (.cons (.num 40) (.cons (.num 20) (.cons (.num 8) .nil))))))) (.var 1)) (.num 0))
 (.ret (.t [.g [.i .u8 (.num 0), .i .u8 (.num 0), .i .u8 (.num 0), .i .u8 (.num 0), .i .u8 (.num 0), .i .u8 (.num 0), .i .u8 (.num 0), .i .u8 (.num 0), .i .u8 (.num 0), .i .u8 (.num 0), .i .u8 (.num 0), .i .u8 (.num 0), .i .u8 (.num 0), .i .u16 (.num 0), .i .u8 (.num 0), .i .u16 (.num 0), .i .u16 (.num 0), .i .u8 (.num 0), .i .u8 (.num 0), .i .u8 (.num 0), .i .u16 (.num 0), .i .u8 (.num 0), .i .u8 (.num 0), .i .u8 (.num 0), .i .u8 (.num 0), .i .u8 (.num 0), .i .u8 (.num 0), .i .u8 (.num 0), .i .u8 (.num 0), .i .u8 (.num 0), .i .u32 (.num 0), .i .u8 (.num 0), .i .u8 (.num 0), .i .u8 (.num 0), .i .u8 (.num 0), .i .u8 (.num 0), .i .u8 (.num 0), .i .u8 (.num 0), .i .u8 (.num 0), .i .u8 (.num 0), .i .u8 (.num 0), .i .u8 (.num 0), .i .u8 (.num 0), .i .u8 (.num 0), .i .u8 (.num 0), .i .u8 (.num 0), .i .u8 (.num 0), .i .u8 (.num 0), .i .u8 (.num 0), .i .u8 (.num 0), .i .u8 (.num 0), .i .u8 (.num 0), .i .u8 (.num 0), .i .u8 (.num 0), .i .u8 (.num 0), .i .u8 (.num 0), .i .u8 (.num 0), .i .u8 (.num 0), .i .u8 (.num 0), .i .u8 (.num 0), .i .u8 (.num 0), .i .u8 (.num 0), .i .u8 (.num 0), .i .u8 (.num 0), .i .u8 (.num 0), .i .u16 (.num 0), .i .u16 (.num 0), .i .u32 (.num 0), .i .u32 (.num 0), .i .u8 (.num 0), .i .u16 (.num 0), .i .u16 (.num 0), .i .u16 (.num 0)], .c (.sn), .c (.i .i64 (.num 120))], ⟨[], [], 3, 2, []⟩))
 (.split (.c2 .eq (.var 1) (.num 1))
 (.split (.c1 .not (.c2 .eq (.fn 21 (.var 0) .nil .nil) (.num 0)))
 (.ret (.t [.g [.i .u8 (.num 0), .i .u8 (.num 0), .i .u8 (.num 0), .i .u8 (.num 0), .i .u8 (.num 0), .i .u8 (.num 0), .i .u8 (.num 0), .i .u8 (.num 0), .i .u8 (.num 0), .i .u8 (.num 0), .i .u8 (.num 0), .i .u8 (.num 0), .i .u8 (.num 0), .i .u16 (.num 0), .i .u8 (.num 0), .i .u16 (.num 0), .i .u16 (.num 0), .i .u8 (.num 0), .i .u8 (.num 0), .i .u8 (.num 0), .i .u16 (.num 0), .i .u8 (.num 0), .i .u8 (.num 0), .i .u8 (.num 0), .i .u8 (.num 0), .i .u8 (.num 0), .i .u8 (.num 0), .i .u8 (.num 0), .i .u8 (.num 0), .i .u8 (.num 0), .i .u32 (.num 0), .i .u8 (.num 0), .i .u8 (.num 0), .i .u8 (.num 0), .i .u8 (.num 0), .i .u8 (.num 0), .i .u8 (.num 0), .i .u8 (.num 0), .i .u8 (.num 0), .i .u8 (.num 0), .i .u8 (.num 0), .i .u8 (.num 0), .i .u8 (.num 0), .i .u8 (.num 0), .i .u8 (.num 0), .i .u8 (.num 0), .i .u8 (.num 0), .i .u8 (.num 0), .i .u8 (.num 0), .i .u8 (.num 0), .i .u8 (.num 0), .i .u8 (.num 0), .i .u8 (.num 0), .i .u8 (.num 0), .i .u8 (.num 0), .i .u8 (.num 0), .i .u8 (.num 0), .i .u8 (.num 0), .i .u8 (.num 0), .i .u8 (.num 0), .i .u8 (.num 0), .i .u8 (.num 0), .i .u8 (.num 0), .i .u8 (.num 0), .i .u8 (.num 0), .i .u16 (.num 0), .i .u16 (.num 0), .i .u32 (.num 0), .i .u32 (.num 0), .i .u8 (.num 0), .i .u16 (.num 0), .i .u16 (.num 0), .i .u16 (.num 0)], .c (.sn), .c (.i .i64 (.fn 21 (.var 0) .nil .nil))], ⟨[], [], 68, 2, []⟩))
 (.chk (.c2 .le (.c2 .rd (.cons (.num 0) (.cons (.num 14) (.cons (.num 4) (.cons (.num 20) (.cons (.num 40) (.cons (.num 20) (.cons (.num 8) .nil))))))) (.var 1)) (.c1 .len (.var 0)))
 (.ret (.t [.g [.i .u8 (.num 1), .i .u8 (.wr .u8 (.c2 .rd (.fn 11 (.var 0) .nil .nil) (.num 0))), .i .u8 (.wr .u8 (.c2 .rd (.fn 11 (.var 0) .nil .nil) (.num 1))), .i .u8 (.wr .u8 (.c2 .rd (.fn 11 (.var 0) .nil .nil) (.num 2))), .i .u8 (.wr .u8 (.c2 .rd (.fn 11 (.var 0) .nil .nil) (.num 3))), .i .u8 (.wr .u8 (.c2 .rd (.fn 11 (.var 0) .nil .nil) (.num 4))), .i .u8 (.wr .u8 (.c2 .rd (.fn 11 (.var 0) .nil .nil) (.num 5))), .i .u8 (.wr .u8 (.c2 .rd (.fn 11 (.var 0) .nil .nil) (.num 6))), .i .u8 (.wr .u8 (.c2 .rd (.fn 11 (.var 0) .nil .nil) (.num 7))), .i .u8 (.wr .u8 (.c2 .rd (.fn 11 (.var 0) .nil .nil) (.num 8))), .i .u8 (.wr .u8 (.c2 .rd (.fn 11 (.var 0) .nil .nil) (.num 9))), .i .u8 (.wr .u8 (.c2 .rd (.fn 11 (.var 0) .nil .nil) (.num 10))), .i .u8 (.wr .u8 (.c2 .rd (.fn 11 (.var 0) .nil .nil) (.num 11))), .i .u16 (.wr .u16 (.c2 .rd (.fn 11 (.var 0) .nil .nil) (.num 12))), .i .u8 (.num 0), .i .u16 (.num 0), .i .u16 (.num 0), .i .u8 (.num 0), .i .u8 (.num 0), .i .u8 (.num 0), .i .u16 (.num 0), .i .u8 (.num 0), .i .u8 (.num 0), .i .u8 (.num 0), .i .u8 (.num 0), .i .u8 (.num 0), .i .u8 (.num 0), .i .u8 (.num 0), .i .u8 (.num 0), .i .u8 (.num 0), .i .u32 (.num 0), .i .u8 (.num 0), .i .u8 (.num 0), .i .u8 (.num 0), .i .u8 (.num 0), .i .u8 (.num 0), .i .u8 (.num 0), .i .u8 (.num 0), .i .u8 (.num 0), .i .u8 (.num 0), .i .u8 (.num 0), .i .u8 (.num 0), .i .u8 (.num 0), .i .u8 (.num 0), .i .u8 (.num 0), .i .u8 (.num 0), .i .u8 (.num 0), .i .u8 (.num 0), .i .u8 (.num 0), .i .u8 (.num 0), .i .u8 (.num 0), .i .u8 (.num 0), .i .u8 (.num 0), .i .u8 (.num 0), .i .u8 (.num 0), .i .u8 (.num 0), .i .u8 (.num 0), .i .u8 (.num 0), .i .u8 (.num 0), .i .u8 (.num 0), .i .u8 (.num 0), .i .u8 (.num 0), .i .u8 (.num 0), .i .u8 (.num 0), .i .u8 (.num 0), .i .u16 (.num 0), .i .u16 (.num 0), .i .u32 (.num 0), .i .u32 (.num 0), .i .u8 (.num 0), .i .u16 (.num 0), .i .u16 (.num 0), .i .u16 (.num 0)], .c (.s 68 1 0 (.num 0) (.c2 .sub (.c1 .len (.var 0)) (.c2 .rd (.cons (.num 0) (.cons (.num 14) (.cons (.num 4) (.cons (.num 20) (.cons (.num 40) (.cons (.num 20) (.cons (.num 8) .nil))))))) (.var 1)))), .c (.i .i64 (.num 0))], ⟨[], [(68, some ⟨true, .row [.u8] (.c2 .take (.c2 .sub (.c1 .len (.var 0)) (.c2 .rd (.cons (.num 0) (.cons (.num 14) (.cons (.num 4) (.cons (.num 20) (.cons (.num 40) (.cons (.num 20) (.cons (.num 8) .nil))))))) (.var 1))) (.c2 .drop (.c2 .rd (.cons (.num 0) (.cons (.num 14) (.cons (.num 4) (.cons (.num 20) (.cons (.num 40) (.cons (.num 20) (.cons (.num 8) .nil))))))) (.var 1)) (.var 0)))⟩)], 69, 2, []⟩))))
 (.split (.c2 .eq (.var 1) (.num 2))
 (.split (.c1 .not (.c2 .eq (.fn 22 (.var 0) .nil .nil) (.num 0)))
 (.ret (.t [.g [.i .u8 (.num 0), .i .u8 (.num 0), .i .u8 (.num 0), .i .u8 (.num 0), .i .u8 (.num 0), .i .u8 (.num 0), .i .u8 (.num 0), .i .u8 (.num 0), .i .u8 (.num 0), .i .u8 (.num 0), .i .u8 (.num 0), .i .u8 (.num 0), .i .u8 (.num 0), .i .u16 (.num 0), .i .u8 (.num 0), .i .u16 (.num 0), .i .u16 (.num 0), .i .u8 (.num 0), .i .u8 (.num 0), .i .u8 (.num 0), .i .u16 (.num 0), .i .u8 (.num 0), .i .u8 (.num 0), .i .u8 (.num 0), .i .u8 (.num 0), .i .u8 (.num 0), .i .u8 (.num 0), .i .u8 (.num 0), .i .u8 (.num 0), .i .u8 (.num 0), .i .u32 (.num 0), .i .u8 (.num 0), .i .u8 (.num 0), .i .u8 (.num 0), .i .u8 (.num 0), .i .u8 (.num 0), .i .u8 (.num 0), .i .u8 (.num 0), .i .u8 (.num 0), .i .u8 (.num 0), .i .u8 (.num 0), .i .u8 (.num 0), .i .u8 (.num 0), .i .u8 (.num 0), .i .u8 (.num 0), .i .u8 (.num 0), .i .u8 (.num 0), .i .u8 (.num 0), .i .u8 (.num 0), .i .u8 (.num 0), .i .u8 (.num 0), .i .u8 (.num 0), .i .u8 (.num 0), .i .u8 (.num 0), .i .u8 (.num 0), .i .u8 (.num 0), .i .u8 (.num 0), .i .u8 (.num 0), .i .u8 (.num 0), .i .u8 (.num 0), .i .u8 (.num 0), .i .u8 (.num 0), .i .u8 (.num 0), .i .u8 (.num 0), .i .u8 (.num 0), .i .u16 (.num 0), .i .u16 (.num 0), .i .u32 (.num 0), .i .u32 (.num 0), .i .u8 (.num 0), .i .u16 (.num 0), .i .u16 (.num 0), .i .u16 (.num 0)], .c (.sn), .c (.i .i64 (.fn 22 (.var 0) .nil .nil))], ⟨[], [], 68, 2, []⟩))
 (.chk (.c2 .le (.c2 .rd (.cons (.num 0) (.cons (.num 14) (.cons (.num 4) (.cons (.num 20) (.cons (.num 40) (.cons (.num 20) (.cons (.num 8) .nil))))))) (.var 1)) (.c1 .len (.var 0)))
 (.ret (.t [.g [.i .u8 (.num 2), .i .u8 (.num 0), .i .u8 (.num 0), .i .u8 (.num 0), .i .u8 (.num 0), .i .u8 (.num 0), .i .u8 (.num 0), .i .u8 (.num 0), .i .u8 (.num 0), .i .u8 (.num 0), .i .u8 (.num 0), .i .u8 (.num 0), .i .u8 (.num 0), .i .u16 (.num 0), .i .u8 (.wr .u8 (.c2 .rd (.fn 12 (.var 0) .nil .nil) (.num 0))), .i .u16 (.wr .u16 (.c2 .rd (.fn 12 (.var 0) .nil .nil) (.num 1))), .i .u16 (.wr .u16 (.c2 .rd (.fn 12 (.var 0) .nil .nil) (.num 2))), .i .u8 (.num 0), .i .u8 (.num 0), .i .u8 (.num 0), .i .u16 (.num 0), .i .u8 (.num 0), .i .u8 (.num 0), .i .u8 (.num 0), .i .u8 (.num 0), .i .u8 (.num 0), .i .u8 (.num 0), .i .u8 (.num 0), .i .u8 (.num 0), .i .u8 (.num 0), .i .u32 (.num 0), .i .u8 (.num 0), .i .u8 (.num 0), .i .u8 (.num 0), .i .u8 (.num 0), .i .u8 (.num 0), .i .u8 (.num 0), .i .u8 (.num 0), .i .u8 (.num 0), .i .u8 (.num 0), .i .u8 (.num 0), .i .u8 (.num 0), .i .u8 (.num 0), .i .u8 (.num 0), .i .u8 (.num 0), .i .u8 (.num 0), .i .u8 (.num 0), .i .u8 (.num 0), .i .u8 (.num 0), .i .u8 (.num 0), .i .u8 (.num 0), .i .u8 (.num 0), .i .u8 (.num 0), .i .u8 (.num 0), .i .u8 (.num 0), .i .u8 (.num 0), .i .u8 (.num 0), .i .u8 (.num 0), .i .u8 (.num 0), .i .u8 (.num 0), .i .u8 (.num 0), .i .u8 (.num 0), .i .u8 (.num 0), .i .u8 (.num 0), .i .u8 (.num 0), .i .u16 (.num 0), .i .u16 (.num 0), .i .u32 (.num 0), .i .u32 (.num 0), .i .u8 (.num 0), .i .u16 (.num 0), .i .u16 (.num 0), .i .u16 (.num 0)], .c (.s 68 1 0 (.num 0) (.c2 .sub (.c1 .len (.var 0)) (.c2 .rd (.cons (.num 0) (.cons (.num 14) (.cons (.num 4) (.cons (.num 20) (.cons (.num 40) (.cons (.num 20) (.cons (.num 8) .nil))))))) (.var 1)))), .c (.i .i64 (.num 0))], ⟨[], [(68, some ⟨true, .row [.u8] (.c2 .take (.c2 .sub (.c1 .len (.var 0)) (.c2 .rd (.cons (.num 0) (.cons (.num 14) (.cons (.num 4) (.cons (.num 20) (.cons (.num 40) (.cons (.num 20) (.cons (.num 8) .nil))))))) (.var 1))) (.c2 .drop (.c2 .rd (.cons (.num 0) (.cons (.num 14) (.cons (.num 4) (.cons (.num 20) (.cons (.num 40) (.cons (.num 20) (.cons (.num 8) .nil))))))) (.var 1)) (.var 0)))⟩)], 69, 2, []⟩))))
 (.split (.c2 .eq (.var 1) (.num 3))
 (.split (.c1 .not (.c2 .eq (.fn 23 (.var 0) .nil .nil) (.num 0)))
 (.ret (.t [.g [.i .u8 (.num 0), .i .u8 (.num 0), .i .u8 (.num 0), .i .u8 (.num 0), .i .u8 (.num 0), .i .u8 (.num 0), .i .u8 (.num 0), .i .u8 (.num 0), .i .u8 (.num 0), .i .u8 (.num 0), .i .u8 (.num 0), .i .u8 (.num 0), .i .u8 (.num 0), .i .u16 (.num 0), .i .u8 (.num 0), .i .u16 (.num 0), .i .u16 (.num 0), .i .u8 (.num 0), .i .u8 (.num 0), .i .u8 (.num 0), .i .u16 (.num 0), .i .u8 (.num 0), .i .u8 (.num 0), .i .u8 (.num 0), .i .u8 (.num 0), .i .u8 (.num 0), .i .u8 (.num 0), .i .u8 (.num 0), .i .u8 (.num 0), .i .u8 (.num 0), .i .u32 (.num 0), .i .u8 (.num 0), .i .u8 (.num 0), .i .u8 (.num 0), .i .u8 (.num 0), .i .u8 (.num 0), .i .u8 (.num 0), .i .u8 (.num 0), .i .u8 (.num 0), .i .u8 (.num 0), .i .u8 (.num 0), .i .u8 (.num 0), .i .u8 (.num 0), .i .u8 (.num 0), .i .u8 (.num 0), .i .u8 (.num 0), .i .u8 (.num 0), .i .u8 (.num 0), .i .u8 (.num 0), .i .u8 (.num 0), .i .u8 (.num 0), .i .u8 (.num 0), .i .u8 (.num 0), .i .u8 (.num 0), .i .u8 (.num 0), .i .u8 (.num 0), .i .u8 (.num 0), .i .u8 (.num 0), .i .u8 (.num 0), .i .u8 (.num 0), .i .u8 (.num 0), .i .u8 (.num 0), .i .u8 (.num 0), .i .u8 (.num 0), .i .u8 (.num 0), .i .u16 (.num 0), .i .u16 (.num 0), .i .u32 (.num 0), .i .u32 (.num 0), .i .u8 (.num 0), .i .u16 (.num 0), .i .u16 (.num 0), .i .u16 (.num 0)], .c (.sn), .c (.i .i64 (.fn 23 (.var 0) .nil .nil))], ⟨[], [], 68, 2, []⟩))
 (.chk (.c2 .le (.c2 .rd (.cons (.num 0) (.cons (.num 14) (.cons (.num 4) (.cons (.num 20) (.cons (.num 40) (.cons (.num 20) (.cons (.num 8) .nil))))))) (.var 1)) (.c1 .len (.var 0)))
 (.ret (.t [.g [.i .u8 (.num 3), .i .u8 (.num 0), .i .u8 (.num 0), .i .u8 (.num 0), .i .u8 (.num 0), .i .u8 (.num 0), .i .u8 (.num 0), .i .u8 (.num 0), .i .u8 (.num 0), .i .u8 (.num 0), .i .u8 (.num 0), .i .u8 (.num 0), .i .u8 (.num 0), .i .u16 (.num 0), .i .u8 (.num 0), .i .u16 (.num 0), .i .u16 (.num 0), .i .u8 (.wr .u8 (.c2 .rd (.fn 13 (.var 0) .nil .nil) (.num 0))), .i .u8 (.wr .u8 (.c2 .rd (.fn 13 (.var 0) .nil .nil) (.num 1))), .i .u8 (.wr .u8 (.c2 .rd (.fn 13 (.var 0) .nil .nil) (.num 2))), .i .u16 (.wr .u16 (.c2 .rd (.fn 13 (.var 0) .nil .nil) (.num 3))), .i .u8 (.wr .u8 (.c2 .rd (.fn 13 (.var 0) .nil .nil) (.num 4))), .i .u8 (.wr .u8 (.c2 .rd (.fn 13 (.var 0) .nil .nil) (.num 5))), .i .u8 (.wr .u8 (.c2 .rd (.fn 13 (.var 0) .nil .nil) (.num 6))), .i .u8 (.wr .u8 (.c2 .rd (.fn 13 (.var 0) .nil .nil) (.num 7))), .i .u8 (.wr .u8 (.c2 .rd (.fn 13 (.var 0) .nil .nil) (.num 8))), .i .u8 (.wr .u8 (.c2 .rd (.fn 13 (.var 0) .nil .nil) (.num 9))), .i .u8 (.wr .u8 (.c2 .rd (.fn 13 (.var 0) .nil .nil) (.num 10))), .i .u8 (.wr .u8 (.c2 .rd (.fn 13 (.var 0) .nil .nil) (.num 11))), .i .u8 (.num 0), .i .u32 (.num 0), .i .u8 (.num 0), .i .u8 (.num 0), .i .u8 (.num 0), .i .u8 (.num 0), .i .u8 (.num 0), .i .u8 (.num 0), .i .u8 (.num 0), .i .u8 (.num 0), .i .u8 (.num 0), .i .u8 (.num 0), .i .u8 (.num 0), .i .u8 (.num 0), .i .u8 (.num 0), .i .u8 (.num 0), .i .u8 (.num 0), .i .u8 (.num 0), .i .u8 (.num 0), .i .u8 (.num 0), .i .u8 (.num 0), .i .u8 (.num 0), .i .u8 (.num 0), .i .u8 (.num 0), .i .u8 (.num 0), .i .u8 (.num 0), .i .u8 (.num 0), .i .u8 (.num 0), .i .u8 (.num 0), .i .u8 (.num 0), .i .u8 (.num 0), .i .u8 (.num 0), .i .u8 (.num 0), .i .u8 (.num 0), .i .u8 (.num 0), .i .u8 (.num 0), .i .u16 (.num 0), .i .u16 (.num 0), .i .u32 (.num 0), .i .u32 (.num 0), .i .u8 (.num 0), .i .u16 (.num 0), .i .u16 (.num 0), .i .u16 (.num 0)], .c (.s 68 1 0 (.num 0) (.c2 .sub (.c1 .len (.var 0)) (.c2 .rd (.cons (.num 0) (.cons (.num 14) (.cons (.num 4) (.cons (.num 20) (.cons (.num 40) (.cons (.num 20) (.cons (.num 8) .nil))))))) (.var 1)))), .c (.i .i64 (.num 0))], ⟨[], [(68, some ⟨true, .row [.u8] (.c2 .take (.c2 .sub (.c1 .len (.var 0)) (.c2 .rd (.cons (.num 0) (.cons (.num 14) (.cons (.num 4) (.cons (.num 20) (.cons (.num 40) (.cons (.num 20) (.cons (.num 8) .nil))))))) (.var 1))) (.c2 .drop (.c2 .rd (.cons (.num 0) (.cons (.num 14) (.cons (.num 4) (.cons (.num 20) (.cons (.num 40) (.cons (.num 20) (.cons (.num 8) .nil))))))) (.var 1)) (.var 0)))⟩)], 69, 2, []⟩))))
 (.split (.c2 .eq (.var 1) (.num 4))
 (.split (.c1 .not (.c2 .eq (.fn 24 (.var 0) .nil .nil) (.num 0)))
 (.ret (.t [.g [.i .u8 (.num 0), .i .u8 (.num 0), .i .u8 (.num 0), .i .u8 (.num 0), .i .u8 (.num 0), .i .u8 (.num 0), .i .u8 (.num 0), .i .u8 (.num 0), .i .u8 (.num 0), .i .u8 (.num 0), .i .u8 (.num 0), .i .u8 (.num 0), .i .u8 (.num 0), .i .u16 (.num 0), .i .u8 (.num 0), .i .u16 (.num 0), .i .u16 (.num 0), .i .u8 (.num 0), .i .u8 (.num 0), .i .u8 (.num 0), .i .u16 (.num 0), .i .u8 (.num 0), .i .u8 (.num 0), .i .u8 (.num 0), .i .u8 (.num 0), .i .u8 (.num 0), .i .u8 (.num 0), .i .u8 (.num 0), .i .u8 (.num 0), .i .u8 (.num 0), .i .u32 (.num 0), .i .u8 (.num 0), .i .u8 (.num 0), .i .u8 (.num 0), .i .u8 (.num 0), .i .u8 (.num 0), .i .u8 (.num 0), .i .u8 (.num 0), .i .u8 (.num 0), .i .u8 (.num 0), .i .u8 (.num 0), .i .u8 (.num 0), .i .u8 (.num 0), .i .u8 (.num 0), .i .u8 (.num 0), .i .u8 (.num 0), .i .u8 (.num 0), .i .u8 (.num 0), .i .u8 (.num 0), .i .u8 (.num 0), .i .u8 (.num 0), .i .u8 (.num 0), .i .u8 (.num 0), .i .u8 (.num 0), .i .u8 (.num 0), .i .u8 (.num 0), .i .u8 (.num 0), .i .u8 (.num 0), .i .u8 (.num 0), .i .u8 (.num 0), .i .u8 (.num 0), .i .u8 (.num 0), .i .u8 (.num 0), .i .u8 (.num 0), .i .u8 (.num 0), .i .u16 (.num 0), .i .u16 (.num 0), .i .u32 (.num 0), .i .u32 (.num 0), .i .u8 (.num 0), .i .u16 (.num 0), .i .u16 (.num 0), .i .u16 (.num 0)], .c (.sn), .c (.i .i64 (.fn 24 (.var 0) .nil .nil))], ⟨[], [], 68, 2, []⟩))
 (.chk (.c2 .le (.c2 .rd (.cons (.num 0) (.cons (.num 14) (.cons (.num 4) (.cons (.num 20) (.cons (.num 40) (.cons (.num 20) (.cons (.num 8) .nil))))))) (.var 1)) (.c1 .len (.var 0)))
 (.ret (.t [.g [.i .u8 (.num 4), .i .u8 (.num 0), .i .u8 (.num 0), .i .u8 (.num 0), .i .u8 (.num 0), .i .u8 (.num 0), .i .u8 (.num 0), .i .u8 (.num 0), .i .u8 (.num 0), .i .u8 (.num 0), .i .u8 (.num 0), .i .u8 (.num 0), .i .u8 (.num 0), .i .u16 (.num 0), .i .u8 (.num 0), .i .u16 (.num 0), .i .u16 (.num 0), .i .u8 (.num 0), .i .u8 (.num 0), .i .u8 (.num 0), .i .u16 (.num 0), .i .u8 (.num 0), .i .u8 (.num 0), .i .u8 (.num 0), .i .u8 (.num 0), .i .u8 (.num 0), .i .u8 (.num 0), .i .u8 (.num 0), .i .u8 (.num 0), .i .u8 (.wr .u8 (.c2 .rd (.fn 14 (.var 0) .nil .nil) (.num 0))), .i .u32 (.wr .u32 (.c2 .rd (.fn 14 (.var 0) .nil .nil) (.num 1))), .i .u8 (.wr .u8 (.c2 .rd (.fn 14 (.var 0) .nil .nil) (.num 2))), .i .u8 (.wr .u8 (.c2 .rd (.fn 14 (.var 0) .nil .nil) (.num 3))), .i .u8 (.wr .u8 (.c2 .rd (.fn 14 (.var 0) .nil .nil) (.num 4))), .i .u8 (.wr .u8 (.c2 .rd (.fn 14 (.var 0) .nil .nil) (.num 5))), .i .u8 (.wr .u8 (.c2 .rd (.fn 14 (.var 0) .nil .nil) (.num 6))), .i .u8 (.wr .u8 (.c2 .rd (.fn 14 (.var 0) .nil .nil) (.num 7))), .i .u8 (.wr .u8 (.c2 .rd (.fn 14 (.var 0) .nil .nil) (.num 8))), .i .u8 (.wr .u8 (.c2 .rd (.fn 14 (.var 0) .nil .nil) (.num 9))), .i .u8 (.wr .u8 (.c2 .rd (.fn 14 (.var 0) .nil .nil) (.num 10))), .i .u8 (.wr .u8 (.c2 .rd (.fn 14 (.var 0) .nil .nil) (.num 11))), .i .u8 (.wr .u8 (.c2 .rd (.fn 14 (.var 0) .nil .nil) (.num 12))), .i .u8 (.wr .u8 (.c2 .rd (.fn 14 (.var 0) .nil .nil) (.num 13))), .i .u8 (.wr .u8 (.c2 .rd (.fn 14 (.var 0) .nil .nil) (.num 14))), .i .u8 (.wr .u8 (.c2 .rd (.fn 14 (.var 0) .nil .nil) (.num 15))), .i .u8 (.wr .u8 (.c2 .rd (.fn 14 (.var 0) .nil .nil) (.num 16))), .i .u8 (.wr .u8 (.c2 .rd (.fn 14 (.var 0) .nil .nil) (.num 17))), .i .u8 (.wr .u8 (.c2 .rd (.fn 14 (.var 0) .nil .nil) (.num 18))), .i .u8 (.wr .u8 (.c2 .rd (.fn 14 (.var 0) .nil .nil) (.num 19))), .i .u8 (.wr .u8 (.c2 .rd (.fn 14 (.var 0) .nil .nil) (.num 20))), .i .u8 (.wr .u8 (.c2 .rd (.fn 14 (.var 0) .nil .nil) (.num 21))), .i .u8 (.wr .u8 (.c2 .rd (.fn 14 (.var 0) .nil .nil) (.num 22))), .i .u8 (.wr .u8 (.c2 .rd (.fn 14 (.var 0) .nil .nil) (.num 23))), .i .u8 (.wr .u8 (.c2 .rd (.fn 14 (.var 0) .nil .nil) (.num 24))), .i .u8 (.wr .u8 (.c2 .rd (.fn 14 (.var 0) .nil .nil) (.num 25))), .i .u8 (.wr .u8 (.c2 .rd (.fn 14 (.var 0) .nil .nil) (.num 26))), .i .u8 (.wr .u8 (.c2 .rd (.fn 14 (.var 0) .nil .nil) (.num 27))), .i .u8 (.wr .u8 (.c2 .rd (.fn 14 (.var 0) .nil .nil) (.num 28))), .i .u8 (.wr .u8 (.c2 .rd (.fn 14 (.var 0) .nil .nil) (.num 29))), .i .u8 (.wr .u8 (.c2 .rd (.fn 14 (.var 0) .nil .nil) (.num 30))), .i .u8 (.wr .u8 (.c2 .rd (.fn 14 (.var 0) .nil .nil) (.num 31))), .i .u8 (.wr .u8 (.c2 .rd (.fn 14 (.var 0) .nil .nil) (.num 32))), .i .u8 (.wr .u8 (.c2 .rd (.fn 14 (.var 0) .nil .nil) (.num 33))), .i .u8 (.wr .u8 (.c2 .rd (.fn 14 (.var 0) .nil .nil) (.num 34))), .i .u8 (.wr .u8 (.c2 .rd (.fn 14 (.var 0) .nil .nil) (.num 35))), .i .u16 (.num 0), .i .u16 (.num 0), .i .u32 (.num 0), .i .u32 (.num 0), .i .u8 (.num 0), .i .u16 (.num 0), .i .u16 (.num 0), .i .u16 (.num 0)], .c (.s 68 1 0 (.num 0) (.c2 .sub (.c1 .len (.var 0)) (.c2 .rd (.cons (.num 0) (.cons (.num 14) (.cons (.num 4) (.cons (.num 20) (.cons (.num 40) (.cons (.num 20) (.cons (.num 8) .nil))))))) (.var 1)))), .c (.i .i64 (.num 0))], ⟨[], [(68, some ⟨true, .row [.u8] (.c2 .take (.c2 .sub (.c1 .len (.var 0)) (.c2 .rd (.cons (.num 0) (.cons (.num 14) (.cons (.num 4) (.cons (.num 20) (.cons (.num 40) (.cons (.num 20) (.cons (.num 8) .nil))))))) (.var 1))) (.c2 .drop (.c2 .rd (.cons (.num 0) (.cons (.num 14) (.cons (.num 4) (.cons (.num 20) (.cons (.num 40) (.cons (.num 20) (.cons (.num 8) .nil))))))) (.var 1)) (.var 0)))⟩)], 69, 2, []⟩))))
 (.split (.c2 .eq (.var 1) (.num 5))
 (.split (.c1 .not (.c2 .eq (.fn 25 (.var 0) .nil .nil) (.num 0)))
 (.ret (.t [.g [.i .u8 (.num 0), .i .u8 (.num 0), .i .u8 (.num 0), .i .u8 (.num 0), .i .u8 (.num 0), .i .u8 (.num 0), .i .u8 (.num 0), .i .u8 (.num 0), .i .u8 (.num 0), .i .u8 (.num 0), .i .u8 (.num 0), .i .u8 (.num 0), .i .u8 (.num 0), .i .u16 (.num 0), .i .u8 (.num 0), .i .u16 (.num 0), .i .u16 (.num 0), .i .u8 (.num 0), .i .u8 (.num 0), .i .u8 (.num 0), .i .u16 (.num 0), .i .u8 (.num 0), .i .u8 (.num 0), .i .u8 (.num 0), .i .u8 (.num 0), .i .u8 (.num 0), .i .u8 (.num 0), .i .u8 (.num 0), .i .u8 (.num 0), .i .u8 (.num 0), .i .u32 (.num 0), .i .u8 (.num 0), .i .u8 (.num 0), .i .u8 (.num 0), .i .u8 (.num 0), .i .u8 (.num 0), .i .u8 (.num 0), .i .u8 (.num 0), .i .u8 (.num 0), .i .u8 (.num 0), .i .u8 (.num 0), .i .u8 (.num 0), .i .u8 (.num 0), .i .u8 (.num 0), .i .u8 (.num 0), .i .u8 (.num 0), .i .u8 (.num 0), .i .u8 (.num 0), .i .u8 (.num 0), .i .u8 (.num 0), .i .u8 (.num 0), .i .u8 (.num 0), .i .u8 (.num 0), .i .u8 (.num 0), .i .u8 (.num 0), .i .u8 (.num 0), .i .u8 (.num 0), .i .u8 (.num 0), .i .u8 (.num 0), .i .u8 (.num 0), .i .u8 (.num 0), .i .u8 (.num 0), .i .u8 (.num 0), .i .u8 (.num 0), .i .u8 (.num 0), .i .u16 (.num 0), .i .u16 (.num 0), .i .u32 (.num 0), .i .u32 (.num 0), .i .u8 (.num 0), .i .u16 (.num 0), .i .u16 (.num 0), .i .u16 (.num 0)], .c (.sn), .c (.i .i64 (.fn 25 (.var 0) .nil .nil))], ⟨[], [], 68, 2, []⟩))
 (.chk (.c2 .le (.c2 .rd (.cons (.num 0) (.cons (.num 14) (.cons (.num 4) (.cons (.num 20) (.cons (.num 40) (.cons (.num 20) (.cons (.num 8) .nil))))))) (.var 1)) (.c1 .len (.var 0)))
 (.ret (.t [.g [.i .u8 (.num 5), .i .u8 (.num 0), .i .u8 (.num 0), .i .u8 (.num 0), .i .u8 (.num 0), .i .u8 (.num 0), .i .u8 (.num 0), .i .u8 (.num 0), .i .u8 (.num 0), .i .u8 (.num 0), .i .u8 (.num 0), .i .u8 (.num 0), .i .u8 (.num 0), .i .u16 (.num 0), .i .u8 (.num 0), .i .u16 (.num 0), .i .u16 (.num 0), .i .u8 (.num 0), .i .u8 (.num 0), .i .u8 (.num 0), .i .u16 (.num 0), .i .u8 (.num 0), .i .u8 (.num 0), .i .u8 (.num 0), .i .u8 (.num 0), .i .u8 (.num 0), .i .u8 (.num 0), .i .u8 (.num 0), .i .u8 (.num 0), .i .u8 (.num 0), .i .u32 (.num 0), .i .u8 (.num 0), .i .u8 (.num 0), .i .u8 (.num 0), .i .u8 (.num 0), .i .u8 (.num 0), .i .u8 (.num 0), .i .u8 (.num 0), .i .u8 (.num 0), .i .u8 (.num 0), .i .u8 (.num 0), .i .u8 (.num 0), .i .u8 (.num 0), .i .u8 (.num 0), .i .u8 (.num 0), .i .u8 (.num 0), .i .u8 (.num 0), .i .u8 (.num 0), .i .u8 (.num 0), .i .u8 (.num 0), .i .u8 (.num 0), .i .u8 (.num 0), .i .u8 (.num 0), .i .u8 (.num 0), .i .u8 (.num 0), .i .u8 (.num 0), .i .u8 (.num 0), .i .u8 (.num 0), .i .u8 (.num 0), .i .u8 (.num 0), .i .u8 (.num 0), .i .u8 (.num 0), .i .u8 (.num 0), .i .u8 (.num 0), .i .u8 (.num 0), .i .u16 (.wr .u16 (.c2 .rd (.fn 15 (.var 0) .nil .nil) (.num 0))), .i .u16 (.wr .u16 (.c2 .rd (.fn 15 (.var 0) .nil .nil) (.num 1))), .i .u32 (.wr .u32 (.c2 .rd (.fn 15 (.var 0) .nil .nil) (.num 2))), .i .u32 (.wr .u32 (.c2 .rd (.fn 15 (.var 0) .nil .nil) (.num 3))), .i .u8 (.wr .u8 (.c2 .rd (.fn 15 (.var 0) .nil .nil) (.num 4))), .i .u16 (.wr .u16 (.c2 .rd (.fn 15 (.var 0) .nil .nil) (.num 5))), .i .u16 (.num 0), .i .u16 (.num 0)], .c (.s 68 1 0 (.num 0) (.c2 .sub (.c1 .len (.var 0)) (.c2 .rd (.cons (.num 0) (.cons (.num 14) (.cons (.num 4) (.cons (.num 20) (.cons (.num 40) (.cons (.num 20) (.cons (.num 8) .nil))))))) (.var 1)))), .c (.i .i64 (.num 0))], ⟨[], [(68, some ⟨true, .row [.u8] (.c2 .take (.c2 .sub (.c1 .len (.var 0)) (.c2 .rd (.cons (.num 0) (.cons (.num 14) (.cons (.num 4) (.cons (.num 20) (.cons (.num 40) (.cons (.num 20) (.cons (.num 8) .nil))))))) (.var 1))) (.c2 .drop (.c2 .rd (.cons (.num 0) (.cons (.num 14) (.cons (.num 4) (.cons (.num 20) (.cons (.num 40) (.cons (.num 20) (.cons (.num 8) .nil))))))) (.var 1)) (.var 0)))⟩)], 69, 2, []⟩))))
 (.split (.c1 .not (.c2 .eq (.fn 26 (.var 0) .nil .nil) (.num 0)))
 (.ret (.t [.g [.i .u8 (.num 0), .i .u8 (.num 0), .i .u8 (.num 0), .i .u8 (.num 0), .i .u8 (.num 0), .i .u8 (.num 0), .i .u8 (.num 0), .i .u8 (.num 0), .i .u8 (.num 0), .i .u8 (.num 0), .i .u8 (.num 0), .i .u8 (.num 0), .i .u8 (.num 0), .i .u16 (.num 0), .i .u8 (.num 0), .i .u16 (.num 0), .i .u16 (.num 0), .i .u8 (.num 0), .i .u8 (.num 0), .i .u8 (.num 0), .i .u16 (.num 0), .i .u8 (.num 0), .i .u8 (.num 0), .i .u8 (.num 0), .i .u8 (.num 0), .i .u8 (.num 0), .i .u8 (.num 0), .i .u8 (.num 0), .i .u8 (.num 0), .i .u8 (.num 0), .i .u32 (.num 0), .i .u8 (.num 0), .i .u8 (.num 0), .i .u8 (.num 0), .i .u8 (.num 0), .i .u8 (.num 0), .i .u8 (.num 0), .i .u8 (.num 0), .i .u8 (.num 0), .i .u8 (.num 0), .i .u8 (.num 0), .i .u8 (.num 0), .i .u8 (.num 0), .i .u8 (.num 0), .i .u8 (.num 0), .i .u8 (.num 0), .i .u8 (.num 0), .i .u8 (.num 0), .i .u8 (.num 0), .i .u8 (.num 0), .i .u8 (.num 0), .i .u8 (.num 0), .i .u8 (.num 0), .i .u8 (.num 0), .i .u8 (.num 0), .i .u8 (.num 0), .i .u8 (.num 0), .i .u8 (.num 0), .i .u8 (.num 0), .i .u8 (.num 0), .i .u8 (.num 0), .i .u8 (.num 0), .i .u8 (.num 0), .i .u8 (.num 0), .i .u8 (.num 0), .i .u16 (.num 0), .i .u16 (.num 0), .i .u32 (.num 0), .i .u32 (.num 0), .i .u8 (.num 0), .i .u16 (.num 0), .i .u16 (.num 0), .i .u16 (.num 0)], .c (.sn), .c (.i .i64 (.fn 26 (.var 0) .nil .nil))], ⟨[], [], 68, 2, []⟩))
 (.chk (.c2 .le (.c2 .rd (.cons (.num 0) (.cons (.num 14) (.cons (.num 4) (.cons (.num 20) (.cons (.num 40) (.cons (.num 20) (.cons (.num 8) .nil))))))) (.var 1)) (.c1 .len (.var 0)))
 (.ret (.t [.g [.i .u8 (.num 6), .i .u8 (.num 0), .i .u8 (.num 0), .i .u8 (.num 0), .i .u8 (.num 0), .i .u8 (.num 0), .i .u8 (.num 0), .i .u8 (.num 0), .i .u8 (.num 0), .i .u8 (.num 0), .i .u8 (.num 0), .i .u8 (.num 0), .i .u8 (.num 0), .i .u16 (.num 0), .i .u8 (.num 0), .i .u16 (.num 0), .i .u16 (.num 0), .i .u8 (.num 0), .i .u8 (.num 0), .i .u8 (.num 0), .i .u16 (.num 0), .i .u8 (.num 0), .i .u8 (.num 0), .i .u8 (.num 0), .i .u8 (.num 0), .i .u8 (.num 0), .i .u8 (.num 0), .i .u8 (.num 0), .i .u8 (.num 0), .i .u8 (.num 0), .i .u32 (.num 0), .i .u8 (.num 0), .i .u8 (.num 0), .i .u8 (.num 0), .i .u8 (.num 0), .i .u8 (.num 0), .i .u8 (.num 0), .i .u8 (.num 0), .i .u8 (.num 0), .i .u8 (.num 0), .i .u8 (.num 0), .i .u8 (.num 0), .i .u8 (.num 0), .i .u8 (.num 0), .i .u8 (.num 0), .i .u8 (.num 0), .i .u8 (.num 0), .i .u8 (.num 0), .i .u8 (.num 0), .i .u8 (.num 0), .i .u8 (.num 0), .i .u8 (.num 0), .i .u8 (.num 0), .i .u8 (.num 0), .i .u8 (.num 0), .i .u8 (.num 0), .i .u8 (.num 0), .i .u8 (.num 0), .i .u8 (.num 0), .i .u8 (.num 0), .i .u8 (.num 0), .i .u8 (.num 0), .i .u8 (.num 0), .i .u8 (.num 0), .i .u8 (.num 0), .i .u16 (.num 0), .i .u16 (.num 0), .i .u32 (.num 0), .i .u32 (.num 0), .i .u8 (.num 0), .i .u16 (.num 0), .i .u16 (.wr .u16 (.c2 .rd (.fn 16 (.var 0) .nil .nil) (.num 0))), .i .u16 (.wr .u16 (.c2 .rd (.fn 16 (.var 0) .nil .nil) (.num 1)))], .c (.s 68 1 0 (.num 0) (.c2 .sub (.c1 .len (.var 0)) (.c2 .rd (.cons (.num 0) (.cons (.num 14) (.cons (.num 4) (.cons (.num 20) (.cons (.num 40) (.cons (.num 20) (.cons (.num 8) .nil))))))) (.var 1)))), .c (.i .i64 (.num 0))], ⟨[], [(68, some ⟨true, .row [.u8] (.c2 .take (.c2 .sub (.c1 .len (.var 0)) (.c2 .rd (.cons (.num 0) (.cons (.num 14) (.cons (.num 4) (.cons (.num 20) (.cons (.num 40) (.cons (.num 20) (.cons (.num 8) .nil))))))) (.var 1))) (.c2 .drop (.c2 .rd (.cons (.num 0) (.cons (.num 14) (.cons (.num 4) (.cons (.num 20) (.cons (.num 40) (.cons (.num 20) (.cons (.num 8) .nil))))))) (.var 1)) (.var 0)))⟩)], 69, 2, []⟩)))))))))))
theorem treeWoPopR_is : funTree (ctxN Go.Proofs.Tryz.prog annsWr consW2 8) annsWr 11 (tPop 68).vs (tPop 68).bs (tPop 68).n (preF (tPop 68).res) = treeWoPopR := by kernel_rfl
end Go.Proofs.YtfhjlimdakphcaaGreat.Sx
set_option maxRecDepth 100000
namespace Go.Proofs.YtfhjlimdakphcaaGreat.Sx
open Go
def treeWdLink : M (V × St) :=
(.split (.c2 .lt (.num 2034) (.c1 .len (.var 13)))
 (.ret (.t [.c (.sn), .c (.i .i64 (.num 5))], ⟨[], [], 3, 14, []⟩))
 (.ret (.t [.c (.s 3 1 0 (.num 0) (.num 14)), .c (.i .i64 (.num 0))], ⟨[], [(3, some ⟨true, .row [.u8] (.cons (.var 0) (.cons (.var 1) (.cons (.var 2) (.cons (.var 3) (.cons (.var 4) (.cons (.var 5) (.cons (.var 6) (.cons (.var 7) (.cons (.var 8) (.cons (.var 9) (.cons (.var 10) (.cons (.var 11) (.cons (.c2 .fdiv (.var 12) (.num 256)) (.cons (.c2 .sub (.var 12) (.c2 .mul (.c2 .fdiv (.var 12) (.num 256)) (.num 256))) .nil))))))))))))))⟩)], 4, 14, []⟩)))
theorem treeWdLink_is : funTree (ctxN Go.Proofs.Tryz.prog annsHd consSum 8) annsHd 111 (tBytes 1 3 60 14 kLink).vs (tBytes 1 3 60 14 kLink).bs (tBytes 1 3 60 14 kLink).n (preF (tBytes 1 3 60 14 kLink).res) = treeWdLink := by kernel_rfl
end Go.Proofs.YtfhjlimdakphcaaGreat.Sx
set_option maxRecDepth 100000
namespace Go.Proofs.YtfhjlimdakphcaaGreat.Sx
open Go
def treeWrLink : M (V × St) :=
(.split (.c2 .lt (.num 2034) (.c1 .len (.var 13)))
 (.ret (.t [.c (.sn), .c (.i .i64 (.num 5))], ⟨[], [], 3, 14, []⟩))
 (.ret (.t [.c (.s 6 1 0 (.num 0) (.num 14)), .c (.i .i64 (.num 0))], ⟨[], [(6, some ⟨true, .row [.u8] (.cons (.var 0) (.cons (.var 1) (.cons (.var 2) (.cons (.var 3) (.cons (.var 4) (.cons (.var 5) (.cons (.var 6) (.cons (.var 7) (.cons (.var 8) (.cons (.var 9) (.cons (.var 10) (.cons (.var 11) (.cons (.c2 .fdiv (.var 12) (.num 256)) (.cons (.c2 .sub (.var 12) (.c2 .mul (.c2 .fdiv (.var 12) (.num 256)) (.num 256))) .nil))))))))))))))⟩)], 7, 14, []⟩)))
theorem treeWrLink_is : funTree (ctxN Go.Proofs.Tryz.prog annsHd consSum 8) annsHd 61 (tBytes 1 6 60 14 kLink).vs (tBytes 1 6 60 14 kLink).bs (tBytes 1 6 60 14 kLink).n (preF (tBytes 1 6 60 14 kLink).res) = treeWrLink := by kernel_rfl
end Go.Proofs.YtfhjlimdakphcaaGreat.Sx
set_option linter.unusedVariables false
set_option linter.unusedSimpArgs false
namespace Go.Proofs.YtfhjlimdakphcaaGreat.Sx
open Go
set_option maxRecDepth 100000 in
theorem wdLink_ok {Φ : Sig} (hΦ : HdSig Φ) : TmplOk Go.Proofs.Tryz.prog Φ 111 (tBytes 1 3 60 14 kLink) := by
 refine tmpl_of (consSum_ok hΦ.toSumSig) treeWdLink_is (fun ρ res hres => ⟨eqJ, ?_⟩)
 obtain ⟨hk, hres⟩ := inKs_some hres
 obtain ⟨h0, hres⟩ := short_some hres
 obtain ⟨hb, hres⟩ := bytes_some hres
 have hr := wr_res (n := 13) hΦ ⟨by decide, by decide⟩ hres
 have h0' : (ρ 13).list.length ≤ 140737488351232 := h0
 have hb' : Bytes (ρ 13).list := hb
 have a0 : (hdrOf Φ ρ 13)[0]?.getD 0 = (ρ 0).int := hdr_at 13 0 (by decide)
 have a1 : (hdrOf Φ ρ 13)[1]?.getD 0 = (ρ 1).int := hdr_at 13 1 (by decide)
 have a2 : (hdrOf Φ ρ 13)[2]?.getD 0 = (ρ 2).int := hdr_at 13 2 (by decide)
 have a3 : (hdrOf Φ ρ 13)[3]?.getD 0 = (ρ 3).int := hdr_at 13 3 (by decide)
 have a4 : (hdrOf Φ ρ 13)[4]?.getD 0 = (ρ 4).int := hdr_at 13 4 (by decide)
 have a5 : (hdrOf Φ ρ 13)[5]?.getD 0 = (ρ 5).int := hdr_at 13 5 (by decide)
 have a6 : (hdrOf Φ ρ 13)[6]?.getD 0 = (ρ 6).int := hdr_at 13 6 (by decide)
 have a7 : (hdrOf Φ ρ 13)[7]?.getD 0 = (ρ 7).int := hdr_at 13 7 (by decide)
 have a8 : (hdrOf Φ ρ 13)[8]?.getD 0 = (ρ 8).int := hdr_at 13 8 (by decide)
 have a9 : (hdrOf Φ ρ 13)[9]?.getD 0 = (ρ 9).int := hdr_at 13 9 (by decide)
 have a10 : (hdrOf Φ ρ 13)[10]?.getD 0 = (ρ 10).int := hdr_at 13 10 (by decide)
 have a11 : (hdrOf Φ ρ 13)[11]?.getD 0 = (ρ 11).int := hdr_at 13 11 (by decide)
 have a12 : (hdrOf Φ ρ 13)[12]?.getD 0 = (ρ 12).int := hdr_at 13 12 (by decide)
 have b0 := hk 0 .u8 rfl
 have b1 := hk 1 .u8 rfl
 have b2 := hk 2 .u8 rfl
 have b3 := hk 3 .u8 rfl
 have b4 := hk 4 .u8 rfl
 have b5 := hk 5 .u8 rfl
 have b6 := hk 6 .u8 rfl
 have b7 := hk 7 .u8 rfl
 have b8 := hk 8 .u8 rfl
 have b9 := hk 9 .u8 rfl
 have b10 := hk 10 .u8 rfl
 have b11 := hk 11 .u8 rfl
 have b12 := hk 12 .u16 rfl
 simp only [kmin, kmax, Nat.zero_add] at b0 b1 b2 b3 b4 b5 b6 b7 b8 b9 b10 b11 b12
 have m1 : ∀ x : Int, x - x / 256 * 256 = x % 256 := fun x => by omega
 refine ⟨fun c1 => ?_, fun c1 => ?_⟩
 · simp [hΦ.sum, hΦ.ocs, wrap_ocs, m1] at c1
   have hz : wrFail 1 (hdrOf Φ ρ 13) (ρ 13).list = 5 := by
     simp only [wrFail, g, a0, a1, a2, a3, a4, a5, a6, a7, a8, a9, a10, a11, a12]
     repeat' split
     all_goals first | rfl | omega
   exact leaf_wr_err hr hz (by decide) (by decide)
 · simp [hΦ.sum, hΦ.ocs, wrap_ocs, m1] at c1
   have hz : wrFail 1 (hdrOf Φ ρ 13) (ρ 13).list = 0 := by
     simp only [wrFail, g, a0, a1, a2, a3, a4, a5, a6, a7, a8, a9, a10, a11, a12]
     repeat' split
     all_goals first | rfl | omega
   refine leaf_wr_ok hr hz ?_ rfl (by decide)
   simp only [list_cons, list_nil, int_add, int_sub, int_mul, int_fdiv, int_len, den_var, den_num, D.int_i, fdiv_lit, m1, int_wr, den_fn, hΦ.sum, hΦ.ocs, wrap_ocs, wrGood, wrBase, putF, fld, fld1, List.set_cons_succ, List.set_cons_zero, List.cons_append, List.nil_append, g, a0, a1, a2, a3, a4, a5, a6, a7, a8, a9, a10, a11, a12]
   all_goals try simp only [List.cons.injEq, and_true, true_and]
   all_goals repeat' apply And.intro
   all_goals first | rfl | omega
set_option maxRecDepth 100000 in
theorem wrLink_ok {Φ : Sig} (hΦ : HdSig Φ) : TmplOk Go.Proofs.Tryz.prog Φ 61 (tBytes 1 6 60 14 kLink) := by
 refine tmpl_of (consSum_ok hΦ.toSumSig) treeWrLink_is (fun ρ res hres => ⟨eqJ, ?_⟩)
 obtain ⟨hk, hres⟩ := inKs_some hres
 obtain ⟨h0, hres⟩ := short_some hres
 obtain ⟨hb, hres⟩ := bytes_some hres
 have hr := wr_res (n := 13) hΦ ⟨by decide, by decide⟩ hres
 have h0' : (ρ 13).list.length ≤ 140737488351232 := h0
 have hb' : Bytes (ρ 13).list := hb
 have a0 : (hdrOf Φ ρ 13)[0]?.getD 0 = (ρ 0).int := hdr_at 13 0 (by decide)
 have a1 : (hdrOf Φ ρ 13)[1]?.getD 0 = (ρ 1).int := hdr_at 13 1 (by decide)
 have a2 : (hdrOf Φ ρ 13)[2]?.getD 0 = (ρ 2).int := hdr_at 13 2 (by decide)
 have a3 : (hdrOf Φ ρ 13)[3]?.getD 0 = (ρ 3).int := hdr_at 13 3 (by decide)
 have a4 : (hdrOf Φ ρ 13)[4]?.getD 0 = (ρ 4).int := hdr_at 13 4 (by decide)
 have a5 : (hdrOf Φ ρ 13)[5]?.getD 0 = (ρ 5).int := hdr_at 13 5 (by decide)
 have a6 : (hdrOf Φ ρ 13)[6]?.getD 0 = (ρ 6).int := hdr_at 13 6 (by decide)
 have a7 : (hdrOf Φ ρ 13)[7]?.getD 0 = (ρ 7).int := hdr_at 13 7 (by decide)
 have a8 : (hdrOf Φ ρ 13)[8]?.getD 0 = (ρ 8).int := hdr_at 13 8 (by decide)
 have a9 : (hdrOf Φ ρ 13)[9]?.getD 0 = (ρ 9).int := hdr_at 13 9 (by decide)
 have a10 : (hdrOf Φ ρ 13)[10]?.getD 0 = (ρ 10).int := hdr_at 13 10 (by decide)
 have a11 : (hdrOf Φ ρ 13)[11]?.getD 0 = (ρ 11).int := hdr_at 13 11 (by decide)
 have a12 : (hdrOf Φ ρ 13)[12]?.getD 0 = (ρ 12).int := hdr_at 13 12 (by decide)
 have b0 := hk 0 .u8 rfl
 have b1 := hk 1 .u8 rfl
 have b2 := hk 2 .u8 rfl
 have b3 := hk 3 .u8 rfl
 have b4 := hk 4 .u8 rfl
 have b5 := hk 5 .u8 rfl
 have b6 := hk 6 .u8 rfl
 have b7 := hk 7 .u8 rfl
 have b8 := hk 8 .u8 rfl
 have b9 := hk 9 .u8 rfl
 have b10 := hk 10 .u8 rfl
 have b11 := hk 11 .u8 rfl
 have b12 := hk 12 .u16 rfl
 simp only [kmin, kmax, Nat.zero_add] at b0 b1 b2 b3 b4 b5 b6 b7 b8 b9 b10 b11 b12
 have m1 : ∀ x : Int, x - x / 256 * 256 = x % 256 := fun x => by omega
 refine ⟨fun c1 => ?_, fun c1 => ?_⟩
 · simp [hΦ.sum, hΦ.ocs, wrap_ocs, m1] at c1
   have hz : wrFail 1 (hdrOf Φ ρ 13) (ρ 13).list = 5 := by
     simp only [wrFail, g, a0, a1, a2, a3, a4, a5, a6, a7, a8, a9, a10, a11, a12]
     repeat' split
     all_goals first | rfl | omega
   exact leaf_wr_err hr hz (by decide) (by decide)
 · simp [hΦ.sum, hΦ.ocs, wrap_ocs, m1] at c1
   have hz : wrFail 1 (hdrOf Φ ρ 13) (ρ 13).list = 0 := by
     simp only [wrFail, g, a0, a1, a2, a3, a4, a5, a6, a7, a8, a9, a10, a11, a12]
     repeat' split
     all_goals first | rfl | omega
   refine leaf_wr_ok hr hz ?_ rfl (by decide)
   simp only [list_cons, list_nil, int_add, int_sub, int_mul, int_fdiv, int_len, den_var, den_num, D.int_i, fdiv_lit, m1, int_wr, den_fn, hΦ.sum, hΦ.ocs, wrap_ocs, wrGood, wrBase, putF, fld, fld1, List.set_cons_succ, List.set_cons_zero, List.cons_append, List.nil_append, g, a0, a1, a2, a3, a4, a5, a6, a7, a8, a9, a10, a11, a12]
   all_goals try simp only [List.cons.injEq, and_true, true_and]
   all_goals repeat' apply And.intro
   all_goals first | rfl | omega
end Go.Proofs.YtfhjlimdakphcaaGreat.Sx
set_option maxRecDepth 100000
namespace Go.Proofs.YtfhjlimdakphcaaGreat.Sx
open Go
def treeWdTag : M (V × St) :=
(.split (.c2 .lt (.num 7) (.var 0))
 (.ret (.t [.c (.sn), .c (.i .i64 (.num 60))], ⟨[], [], 3, 4, []⟩))
 (.split (.c2 .lt (.num 4095) (.var 1))
 (.ret (.t [.c (.sn), .c (.i .i64 (.num 60))], ⟨[], [], 3, 4, []⟩))
 (.split (.c2 .lt (.num 2044) (.c1 .len (.var 3)))
 (.ret (.t [.c (.sn), .c (.i .i64 (.num 5))], ⟨[], [], 3, 4, []⟩))
 (.ret (.t [.c (.s 3 1 0 (.num 0) (.num 4)), .c (.i .i64 (.num 0))], ⟨[], [(3, some ⟨true, .row [.u8] (.cons (.c2 .fdiv (.c2 .add (.c2 .mul (.var 0) (.num 8192)) (.var 1)) (.num 256)) (.cons (.c2 .sub (.c2 .add (.c2 .mul (.var 0) (.num 8192)) (.var 1)) (.c2 .mul (.c2 .fdiv (.c2 .add (.c2 .mul (.var 0) (.num 8192)) (.var 1)) (.num 256)) (.num 256))) (.cons (.c2 .fdiv (.var 2) (.num 256)) (.cons (.c2 .sub (.var 2) (.c2 .mul (.c2 .fdiv (.var 2) (.num 256)) (.num 256))) .nil))))⟩)], 4, 4, []⟩)))))
theorem treeWdTag_is : funTree (ctxN Go.Proofs.Tryz.prog annsHd consSum 8) annsHd 117 (tBytes 2 3 60 4 kTag).vs (tBytes 2 3 60 4 kTag).bs (tBytes 2 3 60 4 kTag).n (preF (tBytes 2 3 60 4 kTag).res) = treeWdTag := by kernel_rfl
end Go.Proofs.YtfhjlimdakphcaaGreat.Sx
set_option maxRecDepth 100000
namespace Go.Proofs.YtfhjlimdakphcaaGreat.Sx
open Go
def treeWrTag : M (V × St) :=
(.split (.c2 .lt (.num 7) (.var 0))
 (.ret (.t [.c (.sn), .c (.i .i64 (.num 60))], ⟨[], [], 3, 4, []⟩))
 (.split (.c2 .lt (.num 4095) (.var 1))
 (.ret (.t [.c (.sn), .c (.i .i64 (.num 60))], ⟨[], [], 3, 4, []⟩))
 (.split (.c2 .lt (.num 2044) (.c1 .len (.var 3)))
 (.ret (.t [.c (.sn), .c (.i .i64 (.num 5))], ⟨[], [], 3, 4, []⟩))
 (.ret (.t [.c (.s 6 1 0 (.num 0) (.num 4)), .c (.i .i64 (.num 0))], ⟨[], [(6, some ⟨true, .row [.u8] (.cons (.c2 .fdiv (.c2 .add (.c2 .mul (.var 0) (.num 8192)) (.var 1)) (.num 256)) (.cons (.c2 .sub (.c2 .add (.c2 .mul (.var 0) (.num 8192)) (.var 1)) (.c2 .mul (.c2 .fdiv (.c2 .add (.c2 .mul (.var 0) (.num 8192)) (.var 1)) (.num 256)) (.num 256))) (.cons (.c2 .fdiv (.var 2) (.num 256)) (.cons (.c2 .sub (.var 2) (.c2 .mul (.c2 .fdiv (.var 2) (.num 256)) (.num 256))) .nil))))⟩)], 7, 4, []⟩)))))
theorem treeWrTag_is : funTree (ctxN Go.Proofs.Tryz.prog annsHd consSum 8) annsHd 62 (tBytes 2 6 60 4 kTag).vs (tBytes 2 6 60 4 kTag).bs (tBytes 2 6 60 4 kTag).n (preF (tBytes 2 6 60 4 kTag).res) = treeWrTag := by kernel_rfl
end Go.Proofs.YtfhjlimdakphcaaGreat.Sx
set_option linter.unusedVariables false
set_option linter.unusedSimpArgs false
namespace Go.Proofs.YtfhjlimdakphcaaGreat.Sx
open Go
set_option maxRecDepth 100000 in
theorem wdTag_ok {Φ : Sig} (hΦ : HdSig Φ) : TmplOk Go.Proofs.Tryz.prog Φ 117 (tBytes 2 3 60 4 kTag) := by
 refine tmpl_of (consSum_ok hΦ.toSumSig) treeWdTag_is (fun ρ res hres => ⟨eqJ, ?_⟩)
 obtain ⟨hk, hres⟩ := inKs_some hres
 obtain ⟨h0, hres⟩ := short_some hres
 obtain ⟨hb, hres⟩ := bytes_some hres
 have hr := wr_res (n := 3) hΦ ⟨by decide, by decide⟩ hres
 have h0' : (ρ 3).list.length ≤ 140737488351232 := h0
 have hb' : Bytes (ρ 3).list := hb
 have a0 : (hdrOf Φ ρ 3)[0]?.getD 0 = (ρ 0).int := hdr_at 3 0 (by decide)
 have a1 : (hdrOf Φ ρ 3)[1]?.getD 0 = (ρ 1).int := hdr_at 3 1 (by decide)
 have a2 : (hdrOf Φ ρ 3)[2]?.getD 0 = (ρ 2).int := hdr_at 3 2 (by decide)
 have b0 := hk 0 .u8 rfl
 have b1 := hk 1 .u16 rfl
 have b2 := hk 2 .u16 rfl
 simp only [kmin, kmax, Nat.zero_add] at b0 b1 b2
 have m1 : ∀ x : Int, x - x / 256 * 256 = x % 256 := fun x => by omega
 refine ⟨fun c1 => ?_, fun c1 => ?_⟩
 · simp [hΦ.sum, hΦ.ocs, wrap_ocs, m1] at c1
   have hz : wrFail 2 (hdrOf Φ ρ 3) (ρ 3).list = 60 := by
     simp only [wrFail, g, a0, a1, a2]
     repeat' split
     all_goals first | rfl | omega
   exact leaf_wr_err hr hz (by decide) (by decide)
 · refine ⟨fun c2 => ?_, fun c2 => ?_⟩
   · simp [hΦ.sum, hΦ.ocs, wrap_ocs, m1] at c1 c2
     have hz : wrFail 2 (hdrOf Φ ρ 3) (ρ 3).list = 60 := by
       simp only [wrFail, g, a0, a1, a2]
       repeat' split
       all_goals first | rfl | omega
     exact leaf_wr_err hr hz (by decide) (by decide)
   · refine ⟨fun c3 => ?_, fun c3 => ?_⟩
     · simp [hΦ.sum, hΦ.ocs, wrap_ocs, m1] at c1 c2 c3
       have hz : wrFail 2 (hdrOf Φ ρ 3) (ρ 3).list = 5 := by
         simp only [wrFail, g, a0, a1, a2]
         repeat' split
         all_goals first | rfl | omega
       exact leaf_wr_err hr hz (by decide) (by decide)
     · simp [hΦ.sum, hΦ.ocs, wrap_ocs, m1] at c1 c2 c3
       have hz : wrFail 2 (hdrOf Φ ρ 3) (ρ 3).list = 0 := by
         simp only [wrFail, g, a0, a1, a2]
         repeat' split
         all_goals first | rfl | omega
       refine leaf_wr_ok hr hz ?_ rfl (by decide)
       simp only [list_cons, list_nil, int_add, int_sub, int_mul, int_fdiv, int_len, den_var, den_num, D.int_i, fdiv_lit, m1, int_wr, den_fn, hΦ.sum, hΦ.ocs, wrap_ocs, wrGood, wrBase, putF, fld, fld1, List.set_cons_succ, List.set_cons_zero, List.cons_append, List.nil_append, g, a0, a1, a2]
       all_goals try simp only [List.cons.injEq, and_true, true_and]
       all_goals repeat' apply And.intro
       all_goals first | rfl | omega
set_option maxRecDepth 100000 in
theorem wrTag_ok {Φ : Sig} (hΦ : HdSig Φ) : TmplOk Go.Proofs.Tryz.prog Φ 62 (tBytes 2 6 60 4 kTag) := by
 refine tmpl_of (consSum_ok hΦ.toSumSig) treeWrTag_is (fun ρ res hres => ⟨eqJ, ?_⟩)
 obtain ⟨hk, hres⟩ := inKs_some hres
 obtain ⟨h0, hres⟩ := short_some hres
 obtain ⟨hb, hres⟩ := bytes_some hres
 have hr := wr_res (n := 3) hΦ ⟨by decide, by decide⟩ hres
 have h0' : (ρ 3).list.length ≤ 140737488351232 := h0
 have hb' : Bytes (ρ 3).list := hb
 have a0 : (hdrOf Φ ρ 3)[0]?.getD 0 = (ρ 0).int := hdr_at 3 0 (by decide)
 have a1 : (hdrOf Φ ρ 3)[1]?.getD 0 = (ρ 1).int := hdr_at 3 1 (by decide)
 have a2 : (hdrOf Φ ρ 3)[2]?.getD 0 = (ρ 2).int := hdr_at 3 2 (by decide)
 have b0 := hk 0 .u8 rfl
 have b1 := hk 1 .u16 rfl
 have b2 := hk 2 .u16 rfl
 simp only [kmin, kmax, Nat.zero_add] at b0 b1 b2
 have m1 : ∀ x : Int, x - x / 256 * 256 = x % 256 := fun x => by omega
 refine ⟨fun c1 => ?_, fun c1 => ?_⟩
 · simp [hΦ.sum, hΦ.ocs, wrap_ocs, m1] at c1
   have hz : wrFail 2 (hdrOf Φ ρ 3) (ρ 3).list = 60 := by
     simp only [wrFail, g, a0, a1, a2]
     repeat' split
     all_goals first | rfl | omega
   exact leaf_wr_err hr hz (by decide) (by decide)
 · refine ⟨fun c2 => ?_, fun c2 => ?_⟩
   · simp [hΦ.sum, hΦ.ocs, wrap_ocs, m1] at c1 c2
     have hz : wrFail 2 (hdrOf Φ ρ 3) (ρ 3).list = 60 := by
       simp only [wrFail, g, a0, a1, a2]
       repeat' split
       all_goals first | rfl | omega
     exact leaf_wr_err hr hz (by decide) (by decide)
   · refine ⟨fun c3 => ?_, fun c3 => ?_⟩
     · simp [hΦ.sum, hΦ.ocs, wrap_ocs, m1] at c1 c2 c3
       have hz : wrFail 2 (hdrOf Φ ρ 3) (ρ 3).list = 5 := by
         simp only [wrFail, g, a0, a1, a2]
         repeat' split
         all_goals first | rfl | omega
       exact leaf_wr_err hr hz (by decide) (by decide)
     · simp [hΦ.sum, hΦ.ocs, wrap_ocs, m1] at c1 c2 c3
       have hz : wrFail 2 (hdrOf Φ ρ 3) (ρ 3).list = 0 := by
         simp only [wrFail, g, a0, a1, a2]
         repeat' split
         all_goals first | rfl | omega
       refine leaf_wr_ok hr hz ?_ rfl (by decide)
       simp only [list_cons, list_nil, int_add, int_sub, int_mul, int_fdiv, int_len, den_var, den_num, D.int_i, fdiv_lit, m1, int_wr, den_fn, hΦ.sum, hΦ.ocs, wrap_ocs, wrGood, wrBase, putF, fld, fld1, List.set_cons_succ, List.set_cons_zero, List.cons_append, List.nil_append, g, a0, a1, a2]
       all_goals try simp only [List.cons.injEq, and_true, true_and]
       all_goals repeat' apply And.intro
       all_goals first | rfl | omega
end Go.Proofs.YtfhjlimdakphcaaGreat.Sx
set_option maxRecDepth 100000
namespace Go.Proofs.YtfhjlimdakphcaaGreat.Sx
open Go
def treeWdNet4 : M (V × St) :=
(.split (.c2 .lt (.num 2028) (.c1 .len (.var 12)))
 (.ret (.t [.c (.sn), .c (.i .i64 (.num 5))], ⟨[], [], 3, 13, []⟩))
 (.ret (.t [.c (.s 3 1 0 (.num 0) (.num 20)), .c (.i .i64 (.num 0))], ⟨[], [(3, some ⟨true, .row [.u8] (.cons (.num 69) (.cons (.var 0) (.cons (.c2 .fdiv (.c2 .add (.num 20) (.c1 .len (.var 12))) (.num 256)) (.cons (.c2 .sub (.c2 .add (.num 20) (.c1 .len (.var 12))) (.c2 .mul (.c2 .fdiv (.c2 .add (.num 20) (.c1 .len (.var 12))) (.num 256)) (.num 256))) (.cons (.c2 .fdiv (.var 3) (.num 256)) (.cons (.c2 .sub (.var 3) (.c2 .mul (.c2 .fdiv (.var 3) (.num 256)) (.num 256))) (.cons (.num 0) (.cons (.num 0) (.cons (.var 1) (.cons (.var 2) (.cons (.c2 .fdiv (.c2 .sub (.num 65535) (.wr .u16 (.fn 2 (.c2 .add (.wr .u16 (.fn 1 (.cons (.num 69) (.cons (.var 0) (.cons (.c2 .fdiv (.c2 .add (.num 20) (.c1 .len (.var 12))) (.num 256)) (.cons (.c2 .sub (.c2 .add (.num 20) (.c1 .len (.var 12))) (.c2 .mul (.c2 .fdiv (.c2 .add (.num 20) (.c1 .len (.var 12))) (.num 256)) (.num 256))) (.cons (.c2 .fdiv (.var 3) (.num 256)) (.cons (.c2 .sub (.var 3) (.c2 .mul (.c2 .fdiv (.var 3) (.num 256)) (.num 256))) (.cons (.num 0) (.cons (.num 0) (.cons (.var 1) (.cons (.var 2) (.cons (.num 0) (.cons (.num 0) (.cons (.var 4) (.cons (.var 5) (.cons (.var 6) (.cons (.var 7) (.cons (.var 8) (.cons (.var 9) (.cons (.var 10) (.cons (.var 11) .nil)))))))))))))))))))) .nil .nil)) (.wr .u16 (.fn 1 .nil .nil .nil))) .nil .nil))) (.num 256)) (.cons (.c2 .sub (.c2 .sub (.num 65535) (.wr .u16 (.fn 2 (.c2 .add (.wr .u16 (.fn 1 (.cons (.num 69) (.cons (.var 0) (.cons (.c2 .fdiv (.c2 .add (.num 20) (.c1 .len (.var 12))) (.num 256)) (.cons (.c2 .sub (.c2 .add (.num 20) (.c1 .len (.var 12))) (.c2 .mul (.c2 .fdiv (.c2 .add (.num 20) (.c1 .len (.var 12))) (.num 256)) (.num 256))) (.cons (.c2 .fdiv (.var 3) (.num 256)) (.cons (.c2 .sub (.var 3) (.c2 .mul (.c2 .fdiv (.var 3) (.num 256)) (.num 256))) (.cons (.num 0) (.cons (.num 0) (.cons (.var 1) (.cons (.var 2) (.cons (.num 0) (.cons (.num 0) (.cons (.var 4) (.cons (.var 5) (.cons (.var 6) (.cons (.var 7) (.cons (.var 8) (.cons (.var 9) (.cons (.var 10) (.cons (.var 11) .nil)))))))))))))))))))) .nil .nil)) (.wr .u16 (.fn 1 .nil .nil .nil))) .nil .nil))) (.c2 .mul (.c2 .fdiv (.c2 .sub (.num 65535) (.wr .u16 (.fn 2 (.c2 .add (.wr .u16 (.fn 1 (.cons (.num 69) (.cons (.var 0) (.cons (.c2 .fdiv (.c2 .add (.num 20) (.c1 .len (.var 12))) (.num 256)) (.cons (.c2 .sub (.c2 .add (.num 20) (.c1 .len (.var 12))) (.c2 .mul (.c2 .fdiv (.c2 .add (.num 20) (.c1 .len (.var 12))) (.num 256)) (.num 256))) (.cons (.c2 .fdiv (.var 3) (.num 256)) (.cons (.c2 .sub (.var 3) (.c2 .mul (.c2 .fdiv (.var 3) (.num 256)) (.num 256))) (.cons (.num 0) (.cons (.num 0) (.cons (.var 1) (.cons (.var 2) (.cons (.num 0) (.cons (.num 0) (.cons (.var 4) (.cons (.var 5) (.cons (.var 6) (.cons (.var 7) (.cons (.var 8) (.cons (.var 9) (.cons (.var 10) (.cons (.var 11) .nil)))))))))))))))))))) .nil .nil)) (.wr .u16 (.fn 1 .nil .nil .nil))) .nil .nil))) (.num 256)) (.num 256))) (.cons (.var 4) (.cons (.var 5) (.cons (.var 6) (.cons (.var 7) (.cons (.var 8) (.cons (.var 9) (.cons (.var 10) (.cons (.var 11) .nil))))))))))))))))))))⟩)], 5, 13, []⟩)))
theorem treeWdNet4_is : funTree (ctxN Go.Proofs.Tryz.prog annsHd consSum 8) annsHd 123 (tBytes 3 3 60 20 kNet4).vs (tBytes 3 3 60 20 kNet4).bs (tBytes 3 3 60 20 kNet4).n (preF (tBytes 3 3 60 20 kNet4).res) = treeWdNet4 := by kernel_rfl
end Go.Proofs.YtfhjlimdakphcaaGreat.Sx
set_option maxRecDepth 100000
namespace Go.Proofs.YtfhjlimdakphcaaGreat.Sx
open Go
def treeWrNet4 : M (V × St) :=
(.split (.c2 .lt (.num 2028) (.c1 .len (.var 12)))
 (.ret (.t [.c (.sn), .c (.i .i64 (.num 5))], ⟨[], [], 3, 13, []⟩))
 (.ret (.t [.c (.s 12 1 0 (.num 0) (.num 20)), .c (.i .i64 (.num 0))], ⟨[], [(12, some ⟨true, .row [.u8] (.cons (.num 69) (.cons (.var 0) (.cons (.c2 .fdiv (.c2 .add (.num 20) (.c1 .len (.var 12))) (.num 256)) (.cons (.c2 .sub (.c2 .add (.num 20) (.c1 .len (.var 12))) (.c2 .mul (.c2 .fdiv (.c2 .add (.num 20) (.c1 .len (.var 12))) (.num 256)) (.num 256))) (.cons (.c2 .fdiv (.var 3) (.num 256)) (.cons (.c2 .sub (.var 3) (.c2 .mul (.c2 .fdiv (.var 3) (.num 256)) (.num 256))) (.cons (.num 0) (.cons (.num 0) (.cons (.var 1) (.cons (.var 2) (.cons (.c2 .fdiv (.c2 .sub (.num 65535) (.wr .u16 (.fn 1 (.cons (.num 69) (.cons (.var 0) (.cons (.c2 .fdiv (.c2 .add (.num 20) (.c1 .len (.var 12))) (.num 256)) (.cons (.c2 .sub (.c2 .add (.num 20) (.c1 .len (.var 12))) (.c2 .mul (.c2 .fdiv (.c2 .add (.num 20) (.c1 .len (.var 12))) (.num 256)) (.num 256))) (.cons (.c2 .fdiv (.var 3) (.num 256)) (.cons (.c2 .sub (.var 3) (.c2 .mul (.c2 .fdiv (.var 3) (.num 256)) (.num 256))) (.cons (.num 0) (.cons (.num 0) (.cons (.var 1) (.cons (.var 2) (.cons (.num 0) (.cons (.num 0) (.cons (.var 4) (.cons (.var 5) (.cons (.var 6) (.cons (.var 7) (.cons (.var 8) (.cons (.var 9) (.cons (.var 10) (.cons (.var 11) .nil)))))))))))))))))))) .nil .nil))) (.num 256)) (.cons (.c2 .sub (.c2 .sub (.num 65535) (.wr .u16 (.fn 1 (.cons (.num 69) (.cons (.var 0) (.cons (.c2 .fdiv (.c2 .add (.num 20) (.c1 .len (.var 12))) (.num 256)) (.cons (.c2 .sub (.c2 .add (.num 20) (.c1 .len (.var 12))) (.c2 .mul (.c2 .fdiv (.c2 .add (.num 20) (.c1 .len (.var 12))) (.num 256)) (.num 256))) (.cons (.c2 .fdiv (.var 3) (.num 256)) (.cons (.c2 .sub (.var 3) (.c2 .mul (.c2 .fdiv (.var 3) (.num 256)) (.num 256))) (.cons (.num 0) (.cons (.num 0) (.cons (.var 1) (.cons (.var 2) (.cons (.num 0) (.cons (.num 0) (.cons (.var 4) (.cons (.var 5) (.cons (.var 6) (.cons (.var 7) (.cons (.var 8) (.cons (.var 9) (.cons (.var 10) (.cons (.var 11) .nil)))))))))))))))))))) .nil .nil))) (.c2 .mul (.c2 .fdiv (.c2 .sub (.num 65535) (.wr .u16 (.fn 1 (.cons (.num 69) (.cons (.var 0) (.cons (.c2 .fdiv (.c2 .add (.num 20) (.c1 .len (.var 12))) (.num 256)) (.cons (.c2 .sub (.c2 .add (.num 20) (.c1 .len (.var 12))) (.c2 .mul (.c2 .fdiv (.c2 .add (.num 20) (.c1 .len (.var 12))) (.num 256)) (.num 256))) (.cons (.c2 .fdiv (.var 3) (.num 256)) (.cons (.c2 .sub (.var 3) (.c2 .mul (.c2 .fdiv (.var 3) (.num 256)) (.num 256))) (.cons (.num 0) (.cons (.num 0) (.cons (.var 1) (.cons (.var 2) (.cons (.num 0) (.cons (.num 0) (.cons (.var 4) (.cons (.var 5) (.cons (.var 6) (.cons (.var 7) (.cons (.var 8) (.cons (.var 9) (.cons (.var 10) (.cons (.var 11) .nil)))))))))))))))))))) .nil .nil))) (.num 256)) (.num 256))) (.cons (.var 4) (.cons (.var 5) (.cons (.var 6) (.cons (.var 7) (.cons (.var 8) (.cons (.var 9) (.cons (.var 10) (.cons (.var 11) .nil))))))))))))))))))))⟩)], 14, 13, []⟩)))
theorem treeWrNet4_is : funTree (ctxN Go.Proofs.Tryz.prog annsHd consSum 8) annsHd 63 (tBytes 3 12 60 20 kNet4).vs (tBytes 3 12 60 20 kNet4).bs (tBytes 3 12 60 20 kNet4).n (preF (tBytes 3 12 60 20 kNet4).res) = treeWrNet4 := by kernel_rfl
end Go.Proofs.YtfhjlimdakphcaaGreat.Sx
set_option linter.unusedVariables false
set_option linter.unusedSimpArgs false
namespace Go.Proofs.YtfhjlimdakphcaaGreat.Sx
open Go
set_option maxRecDepth 100000 in
theorem wdNet4_ok {Φ : Sig} (hΦ : HdSig Φ) : TmplOk Go.Proofs.Tryz.prog Φ 123 (tBytes 3 3 60 20 kNet4) := by
 refine tmpl_of (consSum_ok hΦ.toSumSig) treeWdNet4_is (fun ρ res hres => ⟨eqJ, ?_⟩)
 obtain ⟨hk, hres⟩ := inKs_some hres
 obtain ⟨h0, hres⟩ := short_some hres
 obtain ⟨hb, hres⟩ := bytes_some hres
 have hr := wr_res (n := 12) hΦ ⟨by decide, by decide⟩ hres
 have h0' : (ρ 12).list.length ≤ 140737488351232 := h0
 have hb' : Bytes (ρ 12).list := hb
 have a0 : (hdrOf Φ ρ 12)[0]?.getD 0 = (ρ 0).int := hdr_at 12 0 (by decide)
 have a1 : (hdrOf Φ ρ 12)[1]?.getD 0 = (ρ 1).int := hdr_at 12 1 (by decide)
 have a2 : (hdrOf Φ ρ 12)[2]?.getD 0 = (ρ 2).int := hdr_at 12 2 (by decide)
 have a3 : (hdrOf Φ ρ 12)[3]?.getD 0 = (ρ 3).int := hdr_at 12 3 (by decide)
 have a4 : (hdrOf Φ ρ 12)[4]?.getD 0 = (ρ 4).int := hdr_at 12 4 (by decide)
 have a5 : (hdrOf Φ ρ 12)[5]?.getD 0 = (ρ 5).int := hdr_at 12 5 (by decide)
 have a6 : (hdrOf Φ ρ 12)[6]?.getD 0 = (ρ 6).int := hdr_at 12 6 (by decide)
 have a7 : (hdrOf Φ ρ 12)[7]?.getD 0 = (ρ 7).int := hdr_at 12 7 (by decide)
 have a8 : (hdrOf Φ ρ 12)[8]?.getD 0 = (ρ 8).int := hdr_at 12 8 (by decide)
 have a9 : (hdrOf Φ ρ 12)[9]?.getD 0 = (ρ 9).int := hdr_at 12 9 (by decide)
 have a10 : (hdrOf Φ ρ 12)[10]?.getD 0 = (ρ 10).int := hdr_at 12 10 (by decide)
 have a11 : (hdrOf Φ ρ 12)[11]?.getD 0 = (ρ 11).int := hdr_at 12 11 (by decide)
 have b0 := hk 0 .u8 rfl
 have b1 := hk 1 .u8 rfl
 have b2 := hk 2 .u8 rfl
 have b3 := hk 3 .u16 rfl
 have b4 := hk 4 .u8 rfl
 have b5 := hk 5 .u8 rfl
 have b6 := hk 6 .u8 rfl
 have b7 := hk 7 .u8 rfl
 have b8 := hk 8 .u8 rfl
 have b9 := hk 9 .u8 rfl
 have b10 := hk 10 .u8 rfl
 have b11 := hk 11 .u8 rfl
 simp only [kmin, kmax, Nat.zero_add] at b0 b1 b2 b3 b4 b5 b6 b7 b8 b9 b10 b11
 have m1 : ∀ x : Int, x - x / 256 * 256 = x % 256 := fun x => by omega
 have hB : 0 ≤ wsum (wrBase 3 (hdrOf Φ ρ 12) (ρ 12).list) := by simp only [wrBase, wsum, g, a0, a1, a2, a3, a4, a5, a6, a7, a8, a9, a10, a11]; omega
 have hS : ocs (ocs (wsum (wrBase 3 (hdrOf Φ ρ 12) (ρ 12).list)) + ocs (wsum [])) = ocs (wsum (wrBase 3 (hdrOf Φ ρ 12) (ρ 12).list ++ [])) := by rw [ocs_two hB (by simp [wsum]), wsum_app _ _ (by simp [wrBase])]
 simp only [wrBase, g, a0, a1, a2, a3, a4, a5, a6, a7, a8, a9, a10, a11, List.cons_append, List.nil_append] at hS
 have hR := ocs_range (wsum (wrBase 3 (hdrOf Φ ρ 12) (ρ 12).list ++ []))
 simp only [wrBase, g, a0, a1, a2, a3, a4, a5, a6, a7, a8, a9, a10, a11, List.cons_append, List.nil_append] at hR
 refine ⟨fun c1 => ?_, fun c1 => ?_⟩
 · simp [hΦ.sum, hΦ.ocs, wrap_ocs, m1] at c1
   have hz : wrFail 3 (hdrOf Φ ρ 12) (ρ 12).list = 5 := by
     simp only [wrFail, g, a0, a1, a2, a3, a4, a5, a6, a7, a8, a9, a10, a11]
     repeat' split
     all_goals first | rfl | omega
   exact leaf_wr_err hr hz (by decide) (by decide)
 · simp [hΦ.sum, hΦ.ocs, wrap_ocs, m1] at c1
   have hz : wrFail 3 (hdrOf Φ ρ 12) (ρ 12).list = 0 := by
     simp only [wrFail, g, a0, a1, a2, a3, a4, a5, a6, a7, a8, a9, a10, a11]
     repeat' split
     all_goals first | rfl | omega
   refine leaf_wr_ok hr hz ?_ rfl (by decide)
   simp only [list_cons, list_nil, int_add, int_sub, int_mul, int_fdiv, int_len, den_var, den_num, D.int_i, fdiv_lit, m1, int_wr, den_fn, hΦ.sum, hΦ.ocs, wrap_ocs, hS, wrGood, wrBase, putF, fld, fld1, List.set_cons_succ, List.set_cons_zero, List.cons_append, List.nil_append, g, a0, a1, a2, a3, a4, a5, a6, a7, a8, a9, a10, a11]
   all_goals try simp only [List.cons.injEq, and_true, true_and]
   all_goals repeat' apply And.intro
   all_goals first | rfl | omega
set_option maxRecDepth 100000 in
theorem wrNet4_ok {Φ : Sig} (hΦ : HdSig Φ) : TmplOk Go.Proofs.Tryz.prog Φ 63 (tBytes 3 12 60 20 kNet4) := by
 refine tmpl_of (consSum_ok hΦ.toSumSig) treeWrNet4_is (fun ρ res hres => ⟨eqJ, ?_⟩)
 obtain ⟨hk, hres⟩ := inKs_some hres
 obtain ⟨h0, hres⟩ := short_some hres
 obtain ⟨hb, hres⟩ := bytes_some hres
 have hr := wr_res (n := 12) hΦ ⟨by decide, by decide⟩ hres
 have h0' : (ρ 12).list.length ≤ 140737488351232 := h0
 have hb' : Bytes (ρ 12).list := hb
 have a0 : (hdrOf Φ ρ 12)[0]?.getD 0 = (ρ 0).int := hdr_at 12 0 (by decide)
 have a1 : (hdrOf Φ ρ 12)[1]?.getD 0 = (ρ 1).int := hdr_at 12 1 (by decide)
 have a2 : (hdrOf Φ ρ 12)[2]?.getD 0 = (ρ 2).int := hdr_at 12 2 (by decide)
 have a3 : (hdrOf Φ ρ 12)[3]?.getD 0 = (ρ 3).int := hdr_at 12 3 (by decide)
 have a4 : (hdrOf Φ ρ 12)[4]?.getD 0 = (ρ 4).int := hdr_at 12 4 (by decide)
 have a5 : (hdrOf Φ ρ 12)[5]?.getD 0 = (ρ 5).int := hdr_at 12 5 (by decide)
 have a6 : (hdrOf Φ ρ 12)[6]?.getD 0 = (ρ 6).int := hdr_at 12 6 (by decide)
 have a7 : (hdrOf Φ ρ 12)[7]?.getD 0 = (ρ 7).int := hdr_at 12 7 (by decide)
 have a8 : (hdrOf Φ ρ 12)[8]?.getD 0 = (ρ 8).int := hdr_at 12 8 (by decide)
 have a9 : (hdrOf Φ ρ 12)[9]?.getD 0 = (ρ 9).int := hdr_at 12 9 (by decide)
 have a10 : (hdrOf Φ ρ 12)[10]?.getD 0 = (ρ 10).int := hdr_at 12 10 (by decide)
 have a11 : (hdrOf Φ ρ 12)[11]?.getD 0 = (ρ 11).int := hdr_at 12 11 (by decide)
 have b0 := hk 0 .u8 rfl
 have b1 := hk 1 .u8 rfl
 have b2 := hk 2 .u8 rfl
 have b3 := hk 3 .u16 rfl
 have b4 := hk 4 .u8 rfl
 have b5 := hk 5 .u8 rfl
 have b6 := hk 6 .u8 rfl
 have b7 := hk 7 .u8 rfl
 have b8 := hk 8 .u8 rfl
 have b9 := hk 9 .u8 rfl
 have b10 := hk 10 .u8 rfl
 have b11 := hk 11 .u8 rfl
 simp only [kmin, kmax, Nat.zero_add] at b0 b1 b2 b3 b4 b5 b6 b7 b8 b9 b10 b11
 have m1 : ∀ x : Int, x - x / 256 * 256 = x % 256 := fun x => by omega
 have hB : 0 ≤ wsum (wrBase 3 (hdrOf Φ ρ 12) (ρ 12).list) := by simp only [wrBase, wsum, g, a0, a1, a2, a3, a4, a5, a6, a7, a8, a9, a10, a11]; omega
 have hS : ocs (ocs (wsum (wrBase 3 (hdrOf Φ ρ 12) (ρ 12).list)) + ocs (wsum [])) = ocs (wsum (wrBase 3 (hdrOf Φ ρ 12) (ρ 12).list ++ [])) := by rw [ocs_two hB (by simp [wsum]), wsum_app _ _ (by simp [wrBase])]
 simp only [wrBase, g, a0, a1, a2, a3, a4, a5, a6, a7, a8, a9, a10, a11, List.cons_append, List.nil_append] at hS
 have hR := ocs_range (wsum (wrBase 3 (hdrOf Φ ρ 12) (ρ 12).list ++ []))
 simp only [wrBase, g, a0, a1, a2, a3, a4, a5, a6, a7, a8, a9, a10, a11, List.cons_append, List.nil_append] at hR
 refine ⟨fun c1 => ?_, fun c1 => ?_⟩
 · simp [hΦ.sum, hΦ.ocs, wrap_ocs, m1] at c1
   have hz : wrFail 3 (hdrOf Φ ρ 12) (ρ 12).list = 5 := by
     simp only [wrFail, g, a0, a1, a2, a3, a4, a5, a6, a7, a8, a9, a10, a11]
     repeat' split
     all_goals first | rfl | omega
   exact leaf_wr_err hr hz (by decide) (by decide)
 · simp [hΦ.sum, hΦ.ocs, wrap_ocs, m1] at c1
   have hz : wrFail 3 (hdrOf Φ ρ 12) (ρ 12).list = 0 := by
     simp only [wrFail, g, a0, a1, a2, a3, a4, a5, a6, a7, a8, a9, a10, a11]
     repeat' split
     all_goals first | rfl | omega
   refine leaf_wr_ok hr hz ?_ rfl (by decide)
   simp only [list_cons, list_nil, int_add, int_sub, int_mul, int_fdiv, int_len, den_var, den_num, D.int_i, fdiv_lit, m1, int_wr, den_fn, hΦ.sum, hΦ.ocs, wrap_ocs, hS, wrGood, wrBase, putF, fld, fld1, List.set_cons_succ, List.set_cons_zero, List.cons_append, List.nil_append, g, a0, a1, a2, a3, a4, a5, a6, a7, a8, a9, a10, a11]
   all_goals try simp only [List.cons.injEq, and_true, true_and]
   all_goals repeat' apply And.intro
   all_goals first | rfl | omega
end Go.Proofs.YtfhjlimdakphcaaGreat.Sx
set_option maxRecDepth 100000
namespace Go.Proofs.YtfhjlimdakphcaaGreat.Sx
open Go
def treeWdNet6 : M (V × St) :=
(.split (.c2 .le (.num 1048576) (.var 1))
 (.ret (.t [.c (.sn), .c (.i .i64 (.num 80))], ⟨[], [], 3, 37, []⟩))
 (.split (.c2 .lt (.num 2008) (.c1 .len (.var 36)))
 (.ret (.t [.c (.sn), .c (.i .i64 (.num 5))], ⟨[], [], 3, 37, []⟩))
 (.ret (.t [.c (.s 3 1 0 (.num 0) (.num 40)), .c (.i .i64 (.num 0))], ⟨[], [(3, some ⟨true, .row [.u8] (.cons (.c2 .fdiv (.c2 .add (.c2 .add (.num 24576) (.c2 .mul (.var 0) (.num 16))) (.c2 .fdiv (.var 1) (.num 65536))) (.num 256)) (.cons (.c2 .sub (.c2 .add (.c2 .add (.num 24576) (.c2 .mul (.var 0) (.num 16))) (.c2 .fdiv (.var 1) (.num 65536))) (.c2 .mul (.c2 .fdiv (.c2 .add (.c2 .add (.num 24576) (.c2 .mul (.var 0) (.num 16))) (.c2 .fdiv (.var 1) (.num 65536))) (.num 256)) (.num 256))) (.cons (.c2 .fdiv (.c2 .sub (.var 1) (.c2 .mul (.c2 .fdiv (.var 1) (.num 65536)) (.num 65536))) (.num 256)) (.cons (.c2 .sub (.c2 .sub (.var 1) (.c2 .mul (.c2 .fdiv (.var 1) (.num 65536)) (.num 65536))) (.c2 .mul (.c2 .fdiv (.c2 .sub (.var 1) (.c2 .mul (.c2 .fdiv (.var 1) (.num 65536)) (.num 65536))) (.num 256)) (.num 256))) (.cons (.c2 .fdiv (.c1 .len (.var 36)) (.num 256)) (.cons (.c2 .sub (.c1 .len (.var 36)) (.c2 .mul (.c2 .fdiv (.c1 .len (.var 36)) (.num 256)) (.num 256))) (.cons (.var 2) (.cons (.var 3) (.cons (.var 4) (.cons (.var 5) (.cons (.var 6) (.cons (.var 7) (.cons (.var 8) (.cons (.var 9) (.cons (.var 10) (.cons (.var 11) (.cons (.var 12) (.cons (.var 13) (.cons (.var 14) (.cons (.var 15) (.cons (.var 16) (.cons (.var 17) (.cons (.var 18) (.cons (.var 19) (.cons (.var 20) (.cons (.var 21) (.cons (.var 22) (.cons (.var 23) (.cons (.var 24) (.cons (.var 25) (.cons (.var 26) (.cons (.var 27) (.cons (.var 28) (.cons (.var 29) (.cons (.var 30) (.cons (.var 31) (.cons (.var 32) (.cons (.var 33) (.cons (.var 34) (.cons (.var 35) .nil))))))))))))))))))))))))))))))))))))))))⟩)], 4, 37, []⟩))))
theorem treeWdNet6_is : funTree (ctxN Go.Proofs.Tryz.prog annsHd consSum 8) annsHd 129 (tBytes 4 3 60 40 kNet6).vs (tBytes 4 3 60 40 kNet6).bs (tBytes 4 3 60 40 kNet6).n (preF (tBytes 4 3 60 40 kNet6).res) = treeWdNet6 := by kernel_rfl
end Go.Proofs.YtfhjlimdakphcaaGreat.Sx
set_option maxRecDepth 100000
namespace Go.Proofs.YtfhjlimdakphcaaGreat.Sx
open Go
def treeWrNet6 : M (V × St) :=
(.split (.c2 .le (.num 1048576) (.var 1))
 (.ret (.t [.c (.sn), .c (.i .i64 (.num 80))], ⟨[], [], 3, 37, []⟩))
 (.split (.c2 .lt (.num 2008) (.c1 .len (.var 36)))
 (.ret (.t [.c (.sn), .c (.i .i64 (.num 5))], ⟨[], [], 3, 37, []⟩))
 (.ret (.t [.c (.s 10 1 0 (.num 0) (.num 40)), .c (.i .i64 (.num 0))], ⟨[], [(10, some ⟨true, .row [.u8] (.cons (.c2 .fdiv (.c2 .fdiv (.c2 .fdiv (.c2 .add (.c2 .add (.num 1610612736) (.c2 .mul (.var 0) (.num 1048576))) (.var 1)) (.num 256)) (.num 256)) (.num 256)) (.cons (.c2 .sub (.c2 .fdiv (.c2 .fdiv (.c2 .add (.c2 .add (.num 1610612736) (.c2 .mul (.var 0) (.num 1048576))) (.var 1)) (.num 256)) (.num 256)) (.c2 .mul (.c2 .fdiv (.c2 .fdiv (.c2 .fdiv (.c2 .add (.c2 .add (.num 1610612736) (.c2 .mul (.var 0) (.num 1048576))) (.var 1)) (.num 256)) (.num 256)) (.num 256)) (.num 256))) (.cons (.c2 .sub (.c2 .fdiv (.c2 .add (.c2 .add (.num 1610612736) (.c2 .mul (.var 0) (.num 1048576))) (.var 1)) (.num 256)) (.c2 .mul (.c2 .fdiv (.c2 .fdiv (.c2 .add (.c2 .add (.num 1610612736) (.c2 .mul (.var 0) (.num 1048576))) (.var 1)) (.num 256)) (.num 256)) (.num 256))) (.cons (.c2 .sub (.c2 .add (.c2 .add (.num 1610612736) (.c2 .mul (.var 0) (.num 1048576))) (.var 1)) (.c2 .mul (.c2 .fdiv (.c2 .add (.c2 .add (.num 1610612736) (.c2 .mul (.var 0) (.num 1048576))) (.var 1)) (.num 256)) (.num 256))) (.cons (.c2 .fdiv (.c1 .len (.var 36)) (.num 256)) (.cons (.c2 .sub (.c1 .len (.var 36)) (.c2 .mul (.c2 .fdiv (.c1 .len (.var 36)) (.num 256)) (.num 256))) (.cons (.var 2) (.cons (.var 3) (.cons (.var 4) (.cons (.var 5) (.cons (.var 6) (.cons (.var 7) (.cons (.var 8) (.cons (.var 9) (.cons (.var 10) (.cons (.var 11) (.cons (.var 12) (.cons (.var 13) (.cons (.var 14) (.cons (.var 15) (.cons (.var 16) (.cons (.var 17) (.cons (.var 18) (.cons (.var 19) (.cons (.var 20) (.cons (.var 21) (.cons (.var 22) (.cons (.var 23) (.cons (.var 24) (.cons (.var 25) (.cons (.var 26) (.cons (.var 27) (.cons (.var 28) (.cons (.var 29) (.cons (.var 30) (.cons (.var 31) (.cons (.var 32) (.cons (.var 33) (.cons (.var 34) (.cons (.var 35) .nil))))))))))))))))))))))))))))))))))))))))⟩)], 11, 37, []⟩))))
theorem treeWrNet6_is : funTree (ctxN Go.Proofs.Tryz.prog annsHd consSum 8) annsHd 64 (tBytes 4 10 60 40 kNet6).vs (tBytes 4 10 60 40 kNet6).bs (tBytes 4 10 60 40 kNet6).n (preF (tBytes 4 10 60 40 kNet6).res) = treeWrNet6 := by kernel_rfl
end Go.Proofs.YtfhjlimdakphcaaGreat.Sx
set_option linter.unusedVariables false
set_option linter.unusedSimpArgs false
namespace Go.Proofs.YtfhjlimdakphcaaGreat.Sx
open Go
set_option maxRecDepth 100000 in
theorem wdNet6_ok {Φ : Sig} (hΦ : HdSig Φ) : TmplOk Go.Proofs.Tryz.prog Φ 129 (tBytes 4 3 60 40 kNet6) := by
 refine tmpl_of (consSum_ok hΦ.toSumSig) treeWdNet6_is (fun ρ res hres => ⟨eqJ, ?_⟩)
 obtain ⟨hk, hres⟩ := inKs_some hres
 obtain ⟨h0, hres⟩ := short_some hres
 obtain ⟨hb, hres⟩ := bytes_some hres
 have hr := wr_res (n := 36) hΦ ⟨by decide, by decide⟩ hres
 have h0' : (ρ 36).list.length ≤ 140737488351232 := h0
 have hb' : Bytes (ρ 36).list := hb
 have a0 : (hdrOf Φ ρ 36)[0]?.getD 0 = (ρ 0).int := hdr_at 36 0 (by decide)
 have a1 : (hdrOf Φ ρ 36)[1]?.getD 0 = (ρ 1).int := hdr_at 36 1 (by decide)
 have a2 : (hdrOf Φ ρ 36)[2]?.getD 0 = (ρ 2).int := hdr_at 36 2 (by decide)
 have a3 : (hdrOf Φ ρ 36)[3]?.getD 0 = (ρ 3).int := hdr_at 36 3 (by decide)
 have a4 : (hdrOf Φ ρ 36)[4]?.getD 0 = (ρ 4).int := hdr_at 36 4 (by decide)
 have a5 : (hdrOf Φ ρ 36)[5]?.getD 0 = (ρ 5).int := hdr_at 36 5 (by decide)
 have a6 : (hdrOf Φ ρ 36)[6]?.getD 0 = (ρ 6).int := hdr_at 36 6 (by decide)
 have a7 : (hdrOf Φ ρ 36)[7]?.getD 0 = (ρ 7).int := hdr_at 36 7 (by decide)
 have a8 : (hdrOf Φ ρ 36)[8]?.getD 0 = (ρ 8).int := hdr_at 36 8 (by decide)
 have a9 : (hdrOf Φ ρ 36)[9]?.getD 0 = (ρ 9).int := hdr_at 36 9 (by decide)
 have a10 : (hdrOf Φ ρ 36)[10]?.getD 0 = (ρ 10).int := hdr_at 36 10 (by decide)
 have a11 : (hdrOf Φ ρ 36)[11]?.getD 0 = (ρ 11).int := hdr_at 36 11 (by decide)
 have a12 : (hdrOf Φ ρ 36)[12]?.getD 0 = (ρ 12).int := hdr_at 36 12 (by decide)
 have a13 : (hdrOf Φ ρ 36)[13]?.getD 0 = (ρ 13).int := hdr_at 36 13 (by decide)
 have a14 : (hdrOf Φ ρ 36)[14]?.getD 0 = (ρ 14).int := hdr_at 36 14 (by decide)
 have a15 : (hdrOf Φ ρ 36)[15]?.getD 0 = (ρ 15).int := hdr_at 36 15 (by decide)
 have a16 : (hdrOf Φ ρ 36)[16]?.getD 0 = (ρ 16).int := hdr_at 36 16 (by decide)
 have a17 : (hdrOf Φ ρ 36)[17]?.getD 0 = (ρ 17).int := hdr_at 36 17 (by decide)
 have a18 : (hdrOf Φ ρ 36)[18]?.getD 0 = (ρ 18).int := hdr_at 36 18 (by decide)
 have a19 : (hdrOf Φ ρ 36)[19]?.getD 0 = (ρ 19).int := hdr_at 36 19 (by decide)
 have a20 : (hdrOf Φ ρ 36)[20]?.getD 0 = (ρ 20).int := hdr_at 36 20 (by decide)
 have a21 : (hdrOf Φ ρ 36)[21]?.getD 0 = (ρ 21).int := hdr_at 36 21 (by decide)
 have a22 : (hdrOf Φ ρ 36)[22]?.getD 0 = (ρ 22).int := hdr_at 36 22 (by decide)
 have a23 : (hdrOf Φ ρ 36)[23]?.getD 0 = (ρ 23).int := hdr_at 36 23 (by decide)
 have a24 : (hdrOf Φ ρ 36)[24]?.getD 0 = (ρ 24).int := hdr_at 36 24 (by decide)
 have a25 : (hdrOf Φ ρ 36)[25]?.getD 0 = (ρ 25).int := hdr_at 36 25 (by decide)
 have a26 : (hdrOf Φ ρ 36)[26]?.getD 0 = (ρ 26).int := hdr_at 36 26 (by decide)
 have a27 : (hdrOf Φ ρ 36)[27]?.getD 0 = (ρ 27).int := hdr_at 36 27 (by decide)
 have a28 : (hdrOf Φ ρ 36)[28]?.getD 0 = (ρ 28).int := hdr_at 36 28 (by decide)
 have a29 : (hdrOf Φ ρ 36)[29]?.getD 0 = (ρ 29).int := hdr_at 36 29 (by decide)
 have a30 : (hdrOf Φ ρ 36)[30]?.getD 0 = (ρ 30).int := hdr_at 36 30 (by decide)
 have a31 : (hdrOf Φ ρ 36)[31]?.getD 0 = (ρ 31).int := hdr_at 36 31 (by decide)
 have a32 : (hdrOf Φ ρ 36)[32]?.getD 0 = (ρ 32).int := hdr_at 36 32 (by decide)
 have a33 : (hdrOf Φ ρ 36)[33]?.getD 0 = (ρ 33).int := hdr_at 36 33 (by decide)
 have a34 : (hdrOf Φ ρ 36)[34]?.getD 0 = (ρ 34).int := hdr_at 36 34 (by decide)
 have a35 : (hdrOf Φ ρ 36)[35]?.getD 0 = (ρ 35).int := hdr_at 36 35 (by decide)
 have b0 := hk 0 .u8 rfl
 have b1 := hk 1 .u32 rfl
 simp only [kmin, kmax, Nat.zero_add] at b0 b1
 have m1 : ∀ x : Int, x - x / 256 * 256 = x % 256 := fun x => by omega
 refine ⟨fun c1 => ?_, fun c1 => ?_⟩
 · simp [hΦ.sum, hΦ.ocs, wrap_ocs, m1] at c1
   have hz : wrFail 4 (hdrOf Φ ρ 36) (ρ 36).list = 80 := by
     simp only [wrFail, g, a0, a1, a2, a3, a4, a5, a6, a7, a8, a9, a10, a11, a12, a13, a14, a15, a16, a17, a18, a19, a20, a21, a22, a23, a24, a25, a26, a27, a28, a29, a30, a31, a32, a33, a34, a35]
     repeat' split
     all_goals first | rfl | omega
   exact leaf_wr_err hr hz (by decide) (by decide)
 · refine ⟨fun c2 => ?_, fun c2 => ?_⟩
   · simp [hΦ.sum, hΦ.ocs, wrap_ocs, m1] at c1 c2
     have hz : wrFail 4 (hdrOf Φ ρ 36) (ρ 36).list = 5 := by
       simp only [wrFail, g, a0, a1, a2, a3, a4, a5, a6, a7, a8, a9, a10, a11, a12, a13, a14, a15, a16, a17, a18, a19, a20, a21, a22, a23, a24, a25, a26, a27, a28, a29, a30, a31, a32, a33, a34, a35]
       repeat' split
       all_goals first | rfl | omega
     exact leaf_wr_err hr hz (by decide) (by decide)
   · simp [hΦ.sum, hΦ.ocs, wrap_ocs, m1] at c1 c2
     have hz : wrFail 4 (hdrOf Φ ρ 36) (ρ 36).list = 0 := by
       simp only [wrFail, g, a0, a1, a2, a3, a4, a5, a6, a7, a8, a9, a10, a11, a12, a13, a14, a15, a16, a17, a18, a19, a20, a21, a22, a23, a24, a25, a26, a27, a28, a29, a30, a31, a32, a33, a34, a35]
       repeat' split
       all_goals first | rfl | omega
     refine leaf_wr_ok hr hz ?_ rfl (by decide)
     simp only [list_cons, list_nil, int_add, int_sub, int_mul, int_fdiv, int_len, den_var, den_num, D.int_i, fdiv_lit, m1, int_wr, den_fn, hΦ.sum, hΦ.ocs, wrap_ocs, wrGood, wrBase, putF, fld, fld1, List.set_cons_succ, List.set_cons_zero, List.cons_append, List.nil_append, g, a0, a1, a2, a3, a4, a5, a6, a7, a8, a9, a10, a11, a12, a13, a14, a15, a16, a17, a18, a19, a20, a21, a22, a23, a24, a25, a26, a27, a28, a29, a30, a31, a32, a33, a34, a35]
     all_goals try simp only [List.cons.injEq, and_true, true_and]
     all_goals repeat' apply And.intro
     all_goals first | rfl | omega
set_option maxRecDepth 100000 in
theorem wrNet6_ok {Φ : Sig} (hΦ : HdSig Φ) : TmplOk Go.Proofs.Tryz.prog Φ 64 (tBytes 4 10 60 40 kNet6) := by
 refine tmpl_of (consSum_ok hΦ.toSumSig) treeWrNet6_is (fun ρ res hres => ⟨eqJ, ?_⟩)
 obtain ⟨hk, hres⟩ := inKs_some hres
 obtain ⟨h0, hres⟩ := short_some hres
 obtain ⟨hb, hres⟩ := bytes_some hres
 have hr := wr_res (n := 36) hΦ ⟨by decide, by decide⟩ hres
 have h0' : (ρ 36).list.length ≤ 140737488351232 := h0
 have hb' : Bytes (ρ 36).list := hb
 have a0 : (hdrOf Φ ρ 36)[0]?.getD 0 = (ρ 0).int := hdr_at 36 0 (by decide)
 have a1 : (hdrOf Φ ρ 36)[1]?.getD 0 = (ρ 1).int := hdr_at 36 1 (by decide)
 have a2 : (hdrOf Φ ρ 36)[2]?.getD 0 = (ρ 2).int := hdr_at 36 2 (by decide)
 have a3 : (hdrOf Φ ρ 36)[3]?.getD 0 = (ρ 3).int := hdr_at 36 3 (by decide)
 have a4 : (hdrOf Φ ρ 36)[4]?.getD 0 = (ρ 4).int := hdr_at 36 4 (by decide)
 have a5 : (hdrOf Φ ρ 36)[5]?.getD 0 = (ρ 5).int := hdr_at 36 5 (by decide)
 have a6 : (hdrOf Φ ρ 36)[6]?.getD 0 = (ρ 6).int := hdr_at 36 6 (by decide)
 have a7 : (hdrOf Φ ρ 36)[7]?.getD 0 = (ρ 7).int := hdr_at 36 7 (by decide)
 have a8 : (hdrOf Φ ρ 36)[8]?.getD 0 = (ρ 8).int := hdr_at 36 8 (by decide)
 have a9 : (hdrOf Φ ρ 36)[9]?.getD 0 = (ρ 9).int := hdr_at 36 9 (by decide)
 have a10 : (hdrOf Φ ρ 36)[10]?.getD 0 = (ρ 10).int := hdr_at 36 10 (by decide)
 have a11 : (hdrOf Φ ρ 36)[11]?.getD 0 = (ρ 11).int := hdr_at 36 11 (by decide)
 have a12 : (hdrOf Φ ρ 36)[12]?.getD 0 = (ρ 12).int := hdr_at 36 12 (by decide)
 have a13 : (hdrOf Φ ρ 36)[13]?.getD 0 = (ρ 13).int := hdr_at 36 13 (by decide)
 have a14 : (hdrOf Φ ρ 36)[14]?.getD 0 = (ρ 14).int := hdr_at 36 14 (by decide)
 have a15 : (hdrOf Φ ρ 36)[15]?.getD 0 = (ρ 15).int := hdr_at 36 15 (by decide)
 have a16 : (hdrOf Φ ρ 36)[16]?.getD 0 = (ρ 16).int := hdr_at 36 16 (by decide)
 have a17 : (hdrOf Φ ρ 36)[17]?.getD 0 = (ρ 17).int := hdr_at 36 17 (by decide)
 have a18 : (hdrOf Φ ρ 36)[18]?.getD 0 = (ρ 18).int := hdr_at 36 18 (by decide)
 have a19 : (hdrOf Φ ρ 36)[19]?.getD 0 = (ρ 19).int := hdr_at 36 19 (by decide)
 have a20 : (hdrOf Φ ρ 36)[20]?.getD 0 = (ρ 20).int := hdr_at 36 20 (by decide)
 have a21 : (hdrOf Φ ρ 36)[21]?.getD 0 = (ρ 21).int := hdr_at 36 21 (by decide)
 have a22 : (hdrOf Φ ρ 36)[22]?.getD 0 = (ρ 22).int := hdr_at 36 22 (by decide)
 have a23 : (hdrOf Φ ρ 36)[23]?.getD 0 = (ρ 23).int := hdr_at 36 23 (by decide)
 have a24 : (hdrOf Φ ρ 36)[24]?.getD 0 = (ρ 24).int := hdr_at 36 24 (by decide)
 have a25 : (hdrOf Φ ρ 36)[25]?.getD 0 = (ρ 25).int := hdr_at 36 25 (by decide)
 have a26 : (hdrOf Φ ρ 36)[26]?.getD 0 = (ρ 26).int := hdr_at 36 26 (by decide)
 have a27 : (hdrOf Φ ρ 36)[27]?.getD 0 = (ρ 27).int := hdr_at 36 27 (by decide)
 have a28 : (hdrOf Φ ρ 36)[28]?.getD 0 = (ρ 28).int := hdr_at 36 28 (by decide)
 have a29 : (hdrOf Φ ρ 36)[29]?.getD 0 = (ρ 29).int := hdr_at 36 29 (by decide)
 have a30 : (hdrOf Φ ρ 36)[30]?.getD 0 = (ρ 30).int := hdr_at 36 30 (by decide)
 have a31 : (hdrOf Φ ρ 36)[31]?.getD 0 = (ρ 31).int := hdr_at 36 31 (by decide)
 have a32 : (hdrOf Φ ρ 36)[32]?.getD 0 = (ρ 32).int := hdr_at 36 32 (by decide)
 have a33 : (hdrOf Φ ρ 36)[33]?.getD 0 = (ρ 33).int := hdr_at 36 33 (by decide)
 have a34 : (hdrOf Φ ρ 36)[34]?.getD 0 = (ρ 34).int := hdr_at 36 34 (by decide)
 have a35 : (hdrOf Φ ρ 36)[35]?.getD 0 = (ρ 35).int := hdr_at 36 35 (by decide)
 have b0 := hk 0 .u8 rfl
 have b1 := hk 1 .u32 rfl
 simp only [kmin, kmax, Nat.zero_add] at b0 b1
 have m1 : ∀ x : Int, x - x / 256 * 256 = x % 256 := fun x => by omega
 refine ⟨fun c1 => ?_, fun c1 => ?_⟩
 · simp [hΦ.sum, hΦ.ocs, wrap_ocs, m1] at c1
   have hz : wrFail 4 (hdrOf Φ ρ 36) (ρ 36).list = 80 := by
     simp only [wrFail, g, a0, a1, a2, a3, a4, a5, a6, a7, a8, a9, a10, a11, a12, a13, a14, a15, a16, a17, a18, a19, a20, a21, a22, a23, a24, a25, a26, a27, a28, a29, a30, a31, a32, a33, a34, a35]
     repeat' split
     all_goals first | rfl | omega
   exact leaf_wr_err hr hz (by decide) (by decide)
 · refine ⟨fun c2 => ?_, fun c2 => ?_⟩
   · simp [hΦ.sum, hΦ.ocs, wrap_ocs, m1] at c1 c2
     have hz : wrFail 4 (hdrOf Φ ρ 36) (ρ 36).list = 5 := by
       simp only [wrFail, g, a0, a1, a2, a3, a4, a5, a6, a7, a8, a9, a10, a11, a12, a13, a14, a15, a16, a17, a18, a19, a20, a21, a22, a23, a24, a25, a26, a27, a28, a29, a30, a31, a32, a33, a34, a35]
       repeat' split
       all_goals first | rfl | omega
     exact leaf_wr_err hr hz (by decide) (by decide)
   · simp [hΦ.sum, hΦ.ocs, wrap_ocs, m1] at c1 c2
     have hz : wrFail 4 (hdrOf Φ ρ 36) (ρ 36).list = 0 := by
       simp only [wrFail, g, a0, a1, a2, a3, a4, a5, a6, a7, a8, a9, a10, a11, a12, a13, a14, a15, a16, a17, a18, a19, a20, a21, a22, a23, a24, a25, a26, a27, a28, a29, a30, a31, a32, a33, a34, a35]
       repeat' split
       all_goals first | rfl | omega
     refine leaf_wr_ok hr hz ?_ rfl (by decide)
     simp only [list_cons, list_nil, int_add, int_sub, int_mul, int_fdiv, int_len, den_var, den_num, D.int_i, fdiv_lit, m1, int_wr, den_fn, hΦ.sum, hΦ.ocs, wrap_ocs, wrGood, wrBase, putF, fld, fld1, List.set_cons_succ, List.set_cons_zero, List.cons_append, List.nil_append, g, a0, a1, a2, a3, a4, a5, a6, a7, a8, a9, a10, a11, a12, a13, a14, a15, a16, a17, a18, a19, a20, a21, a22, a23, a24, a25, a26, a27, a28, a29, a30, a31, a32, a33, a34, a35]
     all_goals try simp only [List.cons.injEq, and_true, true_and]
     all_goals repeat' apply And.intro
     all_goals first | rfl | omega
end Go.Proofs.YtfhjlimdakphcaaGreat.Sx
