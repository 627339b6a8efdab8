/- Sx: texts of this claim put together: PeK, TPsA, TPsB, PsK, PsL, PkA, PkM, TPkThere, TPkNew, TPkOff, TPkOn. Conditions: none. -/
import Derived.Test.YtfhjlimdakphcaaGreatQ6
import Derived.Test.YtfhjlimdakphcaaGreatProg
import Derived.KernelRfl
set_option linter.unusedVariables false
set_option linter.unusedSimpArgs false
namespace Go.Proofs.YtfhjlimdakphcaaGreat.Sx
open Go
end Go.Proofs.YtfhjlimdakphcaaGreat.Sx
set_option maxRecDepth 100000
namespace Go.Proofs.YtfhjlimdakphcaaGreat.Sx
open Go
end Go.Proofs.YtfhjlimdakphcaaGreat.Sx
set_option maxRecDepth 100000
namespace Go.Proofs.YtfhjlimdakphcaaGreat.Sx
open Go
end Go.Proofs.YtfhjlimdakphcaaGreat.Sx
set_option linter.unusedVariables false
set_option linter.unusedSimpArgs false
set_option maxRecDepth 100000
namespace Go.Proofs.YtfhjlimdakphcaaGreat.Sx
open Go
def nOf (ρ : Env) : Nat := min (ρ 1).int.toNat 8
def lOf (ρ : Env) : List Int := (ρ 2).list.take (73 * nOf ρ)
structure PsD (ρ : Env) (cut : Bool) (n0 : Nat) : Prop where
 i : StkIn (lOf ρ) (ρ 0).list (nOf ρ)
 n1 : (ρ 1).int = n0
 len : (ρ 2).list.length = 73 * n0
 no : cut = false → nOf ρ = n0
 yes : cut = true → nOf ρ = 8 ∧ 8 ≤ n0
section
variable {ρ ρ' : Env} {cut : Bool} {n0 : Nat}
theorem PsD.le (D : PsD ρ cut n0) : nOf ρ ≤ n0 ∧ nOf ρ ≤ 8 := by
 have h8 : nOf ρ ≤ 8 := Nat.min_le_right _ _
 cases cut with
 | true => have := D.yes rfl; omega
 | false => have := D.no rfl; omega
theorem same3 (h : ∀ j, j < 3 → ρ' j = ρ j) : nOf ρ' = nOf ρ ∧ lOf ρ' = lOf ρ := by
 have e : nOf ρ' = nOf ρ := by rw [nOf, nOf, h 1 (by decide)]
 exact ⟨e, by rw [lOf, lOf, e, h 2 (by decide)]⟩
theorem PsD.to (D : PsD ρ cut n0) (h : ∀ j, j < 3 → ρ' j = ρ j) : PsD ρ' cut n0 := by
 obtain ⟨e1, e2⟩ := same3 h
 exact ⟨by rw [e1, e2, h 0 (by decide)]; exact D.i, by rw [h 1 (by decide)]; exact D.n1, by rw [h 2 (by decide)]; exact D.len, by rw [e1]; exact D.no, by rw [e1]; exact D.yes⟩
theorem PsD.at_ (D : PsD ρ cut n0) {j : Nat} (hj : j < 73 * nOf ρ) : (ρ 2).list[j]? = (lOf ρ)[j]? := by rw [lOf, List.getElem?_take, if_pos hj]
theorem PsD.hd (D : PsD ρ cut n0) {i : Nat} (hi : i < nOf ρ) : hdAt (ρ 2).list i = hdAt (lOf ρ) i := by
 apply List.ext_getElem?
 intro j
 rw [hdAt, hdAt, List.getElem?_take, List.getElem?_take]
 split
 · rw [List.getElem?_drop, List.getElem?_drop]; exact D.at_ (by omega)
 · rfl
end
end Go.Proofs.YtfhjlimdakphcaaGreat.Sx
set_option linter.unusedVariables false
set_option linter.unusedSimpArgs false
set_option maxRecDepth 100000
namespace Go.Proofs.YtfhjlimdakphcaaGreat.Sx
open Go
theorem ps_val {ρ : Env} {t : T} {x : O Res} {res : Res} (h : (T.den ΦP ρ t).bool = true) (hx : x.val (T.den ΦP ρ) = some res) : (O.chk t x).val (T.den ΦP ρ) = some res := by simp only [O.val]; rw [if_pos h]; exact hx
end Go.Proofs.YtfhjlimdakphcaaGreat.Sx
set_option linter.unusedVariables false
namespace Go.Proofs.YtfhjlimdakphcaaGreat.Sx
open Go
def pkC (jm v : Nat) : List C := [.b (.bol true), .s jm 1 0 (.num 0) (.c1 .len (.var v)), .i .i64 (.var (v + 1)), .i .i64 (.var (v + 2)), .i .i64 (.var (v + 3))]
def pkV (jp : Nat) : V := .c (.p jp (.num 0) 0 0)
def pkBs (jp jm v : Nat) : Bs := [(jp, ⟨true, .cells (pkC jm v)⟩), (jm, ⟨true, .row [.u8] (.var v)⟩)]
def pkOk (v : Nat) (x : O Res) : O Res :=
 .chk (.c2 .le (.num 0) (.var (v + 1))) (.chk (.c2 .le (.var (v + 1)) (.var (v + 2))) (.chk (.c2 .le (.var (v + 2)) (.c1 .len (.var v))) (.chk (.c2 .le (.c2 .sub (.var (v + 2)) (.var (v + 1))) (.num 2048)) (.chk (.c2 .le (.c1 .len (.var v)) (.num 2560)) (.chk (.c2 .le (.var (v + 1)) (.num 2560)) (.chk (.c2 .le (.num 0) (.var (v + 2))) (.chk (.c2 .le (.var (v + 2)) (.num 2560)) (.chk (.c2 .le (.num 0) (.var (v + 3))) (.chk (.c2 .le (.var (v + 3)) (.num 1000)) (bytes v x))))))))))
def pkD (v : Nat) : T := .c2 .take (.c2 .sub (.var (v + 2)) (.var (v + 1))) (.c2 .drop (.var (v + 1)) (.var v))
def tThere : Tmpl := ⟨[pkV 0], pkBs 0 1 0, 4, pkOk 0 (.ret ⟨.c (.i .i64 (.num 0)), [], 10⟩)⟩
def onT : T := .fn 82 (.var 0) (.cons (.var 1) (.cons (.var 2) .nil)) (varsT 4 73)
def onN : T := .fn 73 (.var 4) .nil .nil
def onErr : T := .fn 70 (varsT 4 73) (pkD 0) .nil
def pkCells (jm : Nat) (m f t mv : T) : List C := [.b (.bol true), .s jm 1 0 (.num 0) (.c1 .len m), .i .i64 f, .i .i64 t, .i .i64 mv]
def onF : T := .fn 84 (.var 1) onN .nil
def onTo : T := .c2 .add onF (.c2 .add onN (.c2 .sub (.var 2) (.var 1)))
def onRes (j nb : Nat) : O Res :=
 .split (.c2 .eq onErr (.num 0))
   (.chk (.c1 (.kin [.u8]) onT) (.chk (.c2 .le (.c1 .len onT) (.num 2560)) (.chk (.c2 .le (.num 4) onN) (.chk (.c2 .le onN (.num 40)) (.chk (.c2 .le (.c2 .add onN (.c2 .sub (.var 2) (.var 1))) (.num 2048))
     (.chk (.c2 .le (.num 0) onF) (.chk (.c2 .le onF (.num 2560)) (.chk (.c2 .le onTo (.c1 .len onT)) (.chk (.c2 .le onTo (.num 2560))
       (.ret ⟨.c (.i .i64 (.num 0)), [(j, some ⟨true, .row [.u8] onT⟩), (0, some ⟨true, .cells (pkCells j onT onF onTo (.c2 .add (.var 3) (.num 1)))⟩), (1, none)], nb⟩))))))))))
   (.ret ⟨.c (.i .i64 onErr), [], nb⟩)
def tOn (j : Nat) : Tmpl := ⟨[pkV 0, headV 4], pkBs 0 1 0, 77, pkOk 0 (inR 4 0 255 (kinH 4 (onRes j 300)))⟩
def offErr : T := .fn 75 (pkD 0) (.var 4) .nil
def offHead : T := .fn 76 (pkD 0) (.var 4) .nil
def offN : T := .fn 73 (.var 4) .nil .nil
def offRes (nb : Nat) : O Res :=
 .split (.c2 .eq offErr (.num 0))
   (.chk (.c2 .le (.num 4) offN) (.chk (.c2 .le offN (.c2 .sub (.var 2) (.var 1)))
     (.ret ⟨.t [.g (rdCells offHead 0 kHead), .c (.i .i64 (.num 0))], [(0, some ⟨true, .cells (pkCells 1 (.var 0) (.c2 .add (.var 1) offN) (.var 2) (.c2 .add (.var 3) (.num 1)))⟩), (1, some ⟨true, .row [.u8] (.var 0)⟩)], nb⟩)))
   (.ret ⟨.t [.g (zeroC' kHead), .c (.i .i64 offErr)], [], nb⟩)
def tOff : Tmpl := ⟨[pkV 0, .c (.i .u8 (.var 4))], pkBs 0 1 0, 5, pkOk 0 (inR 4 0 255 (offRes 300))⟩
def newT : T := .fn 83 (.var 0) (.var 1) (.var 2)
def tNew (jp jm : Nat) : Tmpl := ⟨[slc 0 0, .c (.i .i64 (.var 1)), .c (.i .i64 (.var 2))], [(0, rowB 0)], 3, .chk (.c2 .le (.c1 .len (.var 0)) (.num 2048)) (bytes 0 (inR 1 0 256 (inR 2 0 256 (.chk (.c1 (.kin [.u8]) newT) (.chk (.c2 .eq (.c1 .len newT) (.c2 .add (.c2 .add (.var 1) (.c1 .len (.var 0))) (.var 2)))
 (.ret ⟨.t [.c (.p jp (.num 0) 0 0), .c (.i .i64 (.num 0))], [(jp, some ⟨true, .cells (pkCells jm newT (.var 1) (.c2 .add (.var 1) (.c1 .len (.var 0))) (.num 0))⟩), (jm, some ⟨true, .row [.u8] newT⟩)], 20⟩))))))⟩
def consOn : List (Nat × Con) := (30, tThere.con) :: (consWd ++ consRd)
def annsPk : Anns := fun _ _ _ => .unroll 40
end Go.Proofs.YtfhjlimdakphcaaGreat.Sx
set_option linter.unusedVariables false
set_option linter.unusedSimpArgs false
namespace Go.Proofs.YtfhjlimdakphcaaGreat.Sx
open Go
theorem rep0 (n : Nat) : (List.replicate n [(0 : Int)]).flatten = List.replicate n 0 := by
 induction n with
 | zero => rfl
 | succ n ih => rw [List.replicate_succ, List.flatten_cons, ih]; rfl
theorem spl_at {l s : List Int} {i : Nat} : splL l (i : Int) s = l.take i ++ (s ++ l.drop (i + s.length)) := by
 rw [splL, Int.toNat_natCast, List.append_assoc]
theorem spl_twice {l a b : List Int} {i : Nat} (h : i + a.length ≤ l.length) (hab : a.length = b.length) : splL (splL l (i : Int) a) (i : Int) b = splL l (i : Int) b := by
 rw [spl_at, spl_at, spl_at]
 have hi : (l.take i).length = i := by rw [List.length_take]; omega
 rw [List.take_append_of_le_length (by omega), List.take_of_length_le (by omega), ← hab]
 congr 2
 rw [← List.append_assoc, List.drop_append_of_le_length (by rw [List.length_append]; omega), List.drop_of_length_le (by rw [List.length_append]; omega)]; rfl
theorem spl_len {l s : List Int} {i : Nat} (h : i + s.length ≤ l.length) : (splL l (i : Int) s).length = l.length := by
 rw [spl_at, List.length_append, List.length_append, List.length_take, List.length_drop]; omega
theorem spl_zero {N n : Nat} {d w : List Int} (hN : N = 64 + n + d.length + 64) (hw : w.length = n) : splL (splL (List.replicate N 0) ((64 + n : Nat) : Int) d) (64 : Int) w = List.replicate 64 0 ++ ((w ++ d) ++ List.replicate 64 0) := by
 have h1 : splL (List.replicate N 0) ((64 + n : Nat) : Int) d = List.replicate (64 + n) 0 ++ (d ++ List.replicate 64 0) := by
   rw [spl_at, List.take_replicate, List.drop_replicate, show min (64 + n) N = 64 + n from by omega, show N - (64 + n + d.length) = 64 from by omega]
 rw [h1, show (64 : Int) = ((64 : Nat) : Int) from rfl, spl_at, List.take_append_of_le_length (by simp), List.take_replicate, hw,
   List.drop_append_of_le_length (by simp), List.drop_replicate, show 64 + n - (64 + n) = 0 from by omega, show min 64 (64 + n) = 64 from by omega]
 simp
theorem spl_none {l : List Int} {i : Nat} (h : i ≤ l.length) : splL l (i : Int) [] = l := by
 rw [spl_at]; simp
structure PkIs (ρ : Env) (v : Nat) : Prop where
 f0 : 0 ≤ (ρ (v + 1)).int
 ft : (ρ (v + 1)).int ≤ (ρ (v + 2)).int
 tm : (ρ (v + 2)).int ≤ (ρ v).list.length
 d : (ρ (v + 2)).int - (ρ (v + 1)).int ≤ 2048
 m : (ρ v).list.length ≤ 2560
 mv0 : 0 ≤ (ρ (v + 3)).int
 mv1 : (ρ (v + 3)).int ≤ 1000
 bytes : Bytes (ρ v).list
section
variable {Φ : Sig} {ρ : Env}
theorem pk_some {v : Nat} {x : O Res} {res : Res} (h : (pkOk v x).val (T.den Φ ρ) = some res) : PkIs ρ v ∧ x.val (T.den Φ ρ) = some res := by
 obtain ⟨h1, h⟩ := chk_some h
 obtain ⟨h2, h⟩ := chk_some h
 obtain ⟨h3, h⟩ := chk_some h
 obtain ⟨h4, h⟩ := chk_some h
 obtain ⟨h5, h⟩ := chk_some h
 obtain ⟨_, h⟩ := chk_some h
 obtain ⟨_, h⟩ := chk_some h
 obtain ⟨_, h⟩ := chk_some h
 obtain ⟨h6, h⟩ := chk_some h
 obtain ⟨h7, h⟩ := chk_some h
 obtain ⟨hb, h⟩ := bytes_some h
 rw [le_t, den_var, den_num] at h1 h6
 rw [le_t, den_var, den_var] at h2
 rw [le_t, int_len, den_var, den_var] at h3
 rw [le_t, int_sub, den_var, den_var, den_num] at h4
 rw [le_t, int_len, den_var, den_num] at h5
 rw [le_t, den_var, den_num] at h7
 exact ⟨⟨h1, h2, h3, h4, by have h5 : ((ρ v).list.length : Int) ≤ 2560 := h5; omega, h6, h7, hb⟩, h⟩
def dataR (ρ : Env) (v : Nat) : List Int := dataOf (ρ v).list (ρ (v + 1)).int (ρ (v + 2)).int
theorem den_pkD {v : Nat} (h : PkIs ρ v) : (T.den Φ ρ (pkD v)).list = dataR ρ v := by
 have h1 := h.f0
 have h2 := h.ft
 rw [pkD, list_take, list_drop, int_sub, den_var, den_var, den_var, dataR, dataOf, show ((ρ (v + 2)).int - (ρ (v + 1)).int).toNat = (ρ (v + 2)).int.toNat - (ρ (v + 1)).int.toNat from by omega]
theorem data_len {v : Nat} (h : PkIs ρ v) : ((dataR ρ v).length : Int) = (ρ (v + 2)).int - (ρ (v + 1)).int := by
 have h1 := h.f0
 have h2 := h.ft
 have h3 := h.tm
 rw [dataR, dataOf, List.length_take, List.length_drop]; omega
theorem data_bytes {v : Nat} (h : PkIs ρ v) : Bytes (dataR ρ v) := bytes_take (bytes_drop h.bytes _) _
def atE (ρ : Env) (b : Nat) : Env := fun i => ρ (b + i)
theorem vars_atE (Φ : Sig) (ρ : Env) (b : Nat) : ∀ (n c : Nat), (T.den Φ ρ (varsT (b + c) n)).list = (T.den Φ (atE ρ b) (varsT c n)).list
 | 0, _ => rfl
 | n + 1, c => by
   show (ρ (b + c)).int :: (T.den Φ ρ (varsT (b + c + 1) n)).list = (atE ρ b c).int :: (T.den Φ (atE ρ b) (varsT (c + 1) n)).list
   rw [show b + c + 1 = b + (c + 1) from by omega, vars_atE Φ ρ b n (c + 1)]; rfl
theorem andZ_at {b : Nat} (l : List Nat) : (T.den Φ ρ (andZ (l.map (b + ·)))).bool = true ↔ (T.den Φ (atE ρ b) (andZ l)).bool = true := by
 rw [andZ_t, andZ_t]
 constructor
 · exact fun h i hi => h (b + i) (List.mem_map.mpr ⟨i, hi, rfl⟩)
 · intro h i hi
   obtain ⟨j, hj, rfl⟩ := List.mem_map.mp hi
   exact h j hj
def csOf4 : Nat → List (T × Int)
 | 2 => [(.c2 .lt (.num 7) (.var 18), 60), (.c2 .lt (.num 4095) (.var 19), 60)]
 | 4 => [(.c2 .le (.num 1048576) (.var 34), 80)]
 | 5 => [(.c2 .le (.num 64) (.var 73), 90)]
 | _ => []
theorem cs4_is {k : Nat} (hk : 1 ≤ k ∧ k ≤ 6) : csVal (T.den Φ ρ) (csOf4 k) = csVal (T.den Φ (atE ρ 4)) (csOf k) := by
 have : k = 1 ∨ k = 2 ∨ k = 3 ∨ k = 4 ∨ k = 5 ∨ k = 6 := by omega
 rcases this with rfl | rfl | rfl | rfl | rfl | rfl <;> rfl
theorem cs4_ne {k : Nat} : ∀ {t : T} {e : Int}, (t, e) ∈ csOf4 k → ¬ e = 0 := by
 intro t e h
 unfold csOf4 at h
 split at h <;> simp at h
 · rcases h with ⟨_, rfl⟩ | ⟨_, rfl⟩ <;> decide
 · obtain ⟨_, rfl⟩ := h; decide
 · obtain ⟨_, rfl⟩ := h; decide
def bndT4 (i : Nat) (up : Bool) : T := if up then .c2 .le (.var (4 + i)) (.num (kmax (kAt kHead i))) else .c2 .le (.num 0) (.var (4 + i))
def chksB4 (x : M (V × St)) : List (Nat × Bool) → M (V × St)
 | [] => x
 | (i, up) :: l => .chk (bndT4 i up) (chksB4 x l)
theorem chksB4_ok {J : Inv} {B : BK} {K : BK → Env → V × St → Prop} {x : M (V × St)} (hh : HeadOk (atE ρ 4)) (hx : x.ok Φ J B ρ K) : ∀ {l : List (Nat × Bool)}, (l.all fun p => decide (p.1 < 73)) = true → (chksB4 x l).ok Φ J B ρ K
 | [], _ => hx
 | (i, up) :: l, h => by
   simp only [List.all_cons, Bool.and_eq_true, decide_eq_true_eq] at h
   refine ⟨?_, chksB4_ok hh hx h.2⟩
   have hi := kmin_head ⟨i, h.1⟩
   have hb := hh i _ hi.2
   rw [Nat.zero_add] at hb
   unfold bndT4
   split
   · rw [le_t, den_var, den_num]; exact hb.2
   · rw [le_t, den_var, den_num]; exact (hi.1 ▸ hb.1 : (0 : Int) ≤ (atE ρ 4 i).int)
theorem kinH4_some {x : O Res} {res : Res} (h : (kinH 4 x).val (T.den Φ ρ) = some res) : HeadOk (atE ρ 4) ∧ x.val (T.den Φ ρ) = some res := by
 obtain ⟨h1, h⟩ := chk_some h
 refine ⟨?_, h⟩
 have h1 : inKinds kHead 0 (T.den Φ ρ (varsT (4 + 0) 73)).list = true := h1
 rw [vars_atE] at h1
 have : (kinH 0 (O.ret res)).val (T.den Φ (atE ρ 4)) = some res := by
   simp only [kinH, O.val]
   rw [if_pos (by exact h1)]
 exact (kinH_some this).1
end
def headR (ρ : Env) : List Int := (T.den ΦP (atE ρ 4) (varsT 0 73)).list
theorem headR_is {ρ : Env} : (T.den ΦP ρ (varsT 4 73)).list = headR ρ := vars_atE ΦP ρ 4 73 0
def onErrR (e : T) (n : Nat) : V × St := (.w (.c (.i .i64 e)), ⟨[], [], n, 77, []⟩)
def onChain (n : Nat) (x : M (V × St)) : List (T × Int) → M (V × St)
 | [] => x
 | (t, e) :: cs => .split t (.ret (onErrR (.num e) n)) (onChain n x cs)
def layLen (z : Nat) : T := .c2 .add (.c2 .add (.num (.ofNat (64 + z))) (.c2 .sub (.var 2) (.var 1))) (.num 64)
def onW (k z : Nat) (F : T) : T := .c2 .take (.num (.ofNat z)) (.fn (30 + k) F (pkD 0) .nil)
def onLay (k z n : Nat) (F : T) : V × St := (.w (.c (.i .i64 (.num 0))), ⟨[], [(83, some ⟨true, .row [.u8] (.spl (.spl (.c2 .rep (layLen z) (.cons (.num 0) .nil)) (.num (.ofNat (64 + z))) (pkD 0)) (.num 64) (onW k z F))⟩),
 (0, some ⟨true, .cells [.b (.bol true), .s 83 1 0 (.num 0) (layLen z), .i .i64 (.num 64), .i .i64 (.c2 .sub (layLen z) (.num 64)), .i .i64 (.c2 .add (.var 3) (.num 1))]⟩)], n, 77, []⟩)
def inF (z : Nat) : T := .c2 .sub (.var 1) (.num (.ofNat z))
def inE (z : Nat) : T := .wr .i64 (.c2 .add (inF z) (.c2 .mx (.num (.ofNat z)) (.num 0)))
def onIn (k z n : Nat) (F : T) : V × St := (.w (.c (.i .i64 (.num 0))), ⟨[], [(1, some ⟨true, .row [.u8] (.spl (.spl (.var 0) (inF z) (.c2 .rep (.c2 .sub (inE z) (inF z)) (.cons (.num 0) .nil))) (inF z) (onW k z F))⟩),
 (0, some ⟨true, .cells [.b (.bol true), .s 1 1 0 (.num 0) (.c1 .len (.var 0)), .i .i64 (inF z), .i .i64 (.var 2), .i .i64 (.c2 .add (.var 3) (.num 1))]⟩)], n, 77, []⟩)
def onTree (k z n1 n2 : Nat) (F : T) (bl : List (Nat × Bool)) : M (V × St) :=
 .split (.c1 .not (andZ ((outs k).map (4 + ·)))) (.ret (onErrR (.num 120) n1)) (onChain n2
   (.chk (.c2 .eq (.c2 .sub (.var 2) (.var 1)) (.c1 .len (pkD 0)))
     (chksB4 (.chk (.c1 (.kin [.u8]) (pkD 0))
       (.split (.c2 .eq (.fn (40 + k) F (pkD 0) .nil) (.num 0))
         (.chk (.c1 (.kin [.u8]) (.fn (30 + k) F (pkD 0) .nil)) (.chk (.c2 .eq (.c1 .len (.fn (30 + k) F (pkD 0) .nil)) (.num (.ofNat z)))
           (.split (.c2 .lt (.c2 .sub (.num 2048) (.c2 .sub (.var 2) (.var 1))) (.num (.ofNat z))) (.ret (onErrR (.num 5) 83))
             (.split (.c2 .lt (.var 1) (.num (.ofNat z))) (.ret (onLay k z 84 F))
               (.chk (.c2 .le (inF z) (inE z)) (.chk (.c2 .le (inE z) (.c1 .len (.var 0))) (.chk (.c2 .le (.c2 .add (inF z) (.num (.ofNat z))) (.c1 .len (.var 0)))
                 (.ret (onIn k z 83 F)))))))))
         (.ret (onErrR (.fn (40 + k) F (pkD 0) .nil) 83)))) bl)) (csOf4 k))
structure OnRes (ρ : Env) (res : Res) : Prop where
 bad : ¬ pushErr (headR ρ) (dataR ρ 0) = 0 → res = ⟨.c (.i .i64 onErr), [], 300⟩
 good : pushErr (headR ρ) (dataR ρ 0) = 0 → res = ⟨.c (.i .i64 (.num 0)), [(83, some ⟨true, .row [.u8] onT⟩), (0, some ⟨true, .cells (pkCells 83 onT onF onTo (.c2 .add (.var 3) (.num 1)))⟩), (1, none)], 300⟩
section
variable {ρ : Env}
theorem headR_g (i : Nat) (h : i < 73) : g (headR ρ) i = (ρ (4 + i)).int := vars_g ΦP (atE ρ 4) h
theorem den_onErr (h : PkIs ρ 0) : (T.den ΦP ρ onErr).int = pushErr (headR ρ) (dataR ρ 0) := by
 show pushErr (T.den ΦP ρ (varsT 4 73)).list (T.den ΦP ρ (pkD 0)).list = _
 rw [headR_is, den_pkD h]
theorem den_onN : (T.den ΦP ρ onN).int = hdSize (g (headR ρ) 0).toNat := by
 show (hdSize (ρ 4).int.toNat : Int) = _
 rw [headR_g 0 (by decide)]
theorem den_onT : (T.den ΦP ρ onT).list = onMem (ρ 0).list [(ρ 1).int, (ρ 2).int] (headR ρ) := by
 show onMem (ρ 0).list [(ρ 1).int, (ρ 2).int] (T.den ΦP ρ (varsT 4 73)).list = _
 rw [headR_is]
theorem den_onF : (T.den ΦP ρ onF).int = onFrom (ρ 1).int (hdSize (g (headR ρ) 0).toNat) := by
 show onFrom (ρ 1).int (T.den ΦP ρ onN).int = _
 rw [den_onN]
theorem on_res (hp : PkIs ρ 0) {res : Res} (h : (onRes 83 300).val (T.den ΦP ρ) = some res) : OnRes ρ res := by
 have he := den_onErr hp
 refine ⟨fun hb => ?_, fun hg => ?_⟩
 · simp only [onRes, O.val] at h
   rw [if_neg (by rw [eq_t, he]; exact hb)] at h
   injection h with h; exact h.symm
 · simp only [onRes, O.val] at h
   rw [if_pos (by rw [eq_t, he]; exact hg)] at h
   repeat' (split at h)
   all_goals first | (cases h; done) | (injection h with h; exact h.symm)
theorem leaf_on_err {n : Nat} {res : Res} {t : T} {e : Int} (hp : PkIs ρ 0) (hr : OnRes ρ res) (he : pushErr (headR ρ) (dataR ρ 0) = e) (h0 : ¬ e = 0) (ht : (T.den ΦP ρ t).int = e) (hn : n ≤ 300) : LeafG (pkBs 0 1 0) 1 ΦP ρ ρ res (onErrR t n) := by
 rw [hr.bad (by rw [he]; exact h0)]
 exact .inl ⟨⟨rfl, by rw [ht, den_onErr hp, he]⟩, trivial, hn⟩
theorem onChain_ok {J : Inv} {B : BK} {K : BK → Env → V × St → Prop} {n : Nat} {x : M (V × St)} : ∀ {cs : List (T × Int)}, (∀ e, ¬ e = 0 → csVal (T.den ΦP ρ) cs = e → K B ρ (onErrR (.num e) n)) → (csVal (T.den ΦP ρ) cs = 0 → x.ok ΦP J B ρ K) → (∀ t e, (t, e) ∈ cs → ¬ e = 0) → (onChain n x cs).ok ΦP J B ρ K
 | [], _, h2, _ => h2 rfl
 | (t, e) :: cs, h1, h2, h3 => by
   refine ⟨fun c => ?_, fun c => ?_⟩
   · exact h1 e (h3 t e (by simp)) (by rw [csVal, if_pos c])
   · have hv : csVal (T.den ΦP ρ) ((t, e) :: cs) = csVal (T.den ΦP ρ) cs := by rw [csVal, if_neg (by rw [c]; decide)]
     rw [hv] at h1 h2
     exact onChain_ok h1 h2 (fun t' e' h' => h3 t' e' (by simp [h']))
theorem not_head4 (h : (ρ 4).int < 1 ∨ 6 < (ρ 4).int) : ¬ headIs (headR ρ) := not_head_vars (ρ := atE ρ 4) h
theorem fields4 {k : Nat} (hk : 1 ≤ k ∧ k ≤ 6) : hdFields k (headR ρ) = (T.den ΦP ρ (varsT (4 + hdOff k) (hdKinds k).length)).list := by
 rw [vars_atE]; exact fields_vars hk
theorem on_kind {k n1 n2 : Nat} {B : BK} {res : Res} {F : T} (hp : PkIs ρ 0) (hr : OnRes ρ res) (hk : 1 ≤ k ∧ k ≤ 6) (h0 : (ρ 4).int = k) (hh : HeadOk (atE ρ 4)) (hF : (T.den ΦP ρ F).list = hdFields k (headR ρ)) (hn : n1 ≤ 300 ∧ n2 ≤ 300)
   {bl : List (Nat × Bool)} (hbl : (bl.all fun p => decide (p.1 < 73)) = true) : (onTree k (hdSize k) n1 n2 F bl).ok ΦP eqJ B ρ (fun _ ρ' r => LeafG (pkBs 0 1 0) 1 ΦP ρ ρ' res r) := by
 have g0 : g (headR ρ) 0 = k := (headR_g 0 (by decide)).trans h0
 have hg : GoodInts (hdKinds k) (hdFields k (headR ρ)) := good_fields (Φ := ΦP) (ρ := atE ρ 4) hk hh
 have hD := den_pkD (Φ := ΦP) hp
 have hDl : ((dataR ρ 0).length : Int) = (ρ 2).int - (ρ 1).int := data_len hp
 have f0 : 0 ≤ (ρ 1).int := hp.f0
 have ft : (ρ 1).int ≤ (ρ 2).int := hp.ft
 have tm : (ρ 2).int ≤ (ρ 0).list.length := hp.tm
 have hm := hp.m
 have mv1 : (ρ 3).int ≤ 1000 := hp.mv1
 have mv0 : 0 ≤ (ρ 3).int := hp.mv0
 have hw : (T.den ΦP ρ (.fn (40 + k) F (pkD 0) .nil)).int = wrFail k (hdFields k (headR ρ)) (dataR ρ 0) := by
   rw [den_fn, sigW.wrErr k _ _ _ hk.1 hk.2, hF, hD]; rfl
 have hgd : (T.den ΦP ρ (.fn (30 + k) F (pkD 0) .nil)).list = wrGood k (hdFields k (headR ρ)) (dataR ρ 0) := by
   rw [den_fn, sigW.wrRow k _ _ _ hk.1 hk.2, hF, hD]; rfl
 have hwl := wr_len hk (hdFields k (headR ρ)) (dataR ρ 0)
 have hW : (T.den ΦP ρ (onW k (hdSize k) F)).list = wrGood k (hdFields k (headR ρ)) (dataR ρ 0) := by
   rw [onW, list_take, hgd]
   exact List.take_of_length_le (by rw [hwl]; exact Nat.le_refl _)
 have hhr : headRow (headR ρ) (dataR ρ 0) = wrGood k (hdFields k (headR ρ)) (dataR ρ 0) := by rw [headRow, g0, Int.toNat_natCast]
 have hz40 : hdSize k ≤ 40 := by
   have : k = 1 ∨ k = 2 ∨ k = 3 ∨ k = 4 ∨ k = 5 ∨ k = 6 := by omega
   rcases this with rfl | rfl | rfl | rfl | rfl | rfl <;> decide
 have his : headIs (headR ρ) ↔ (T.den ΦP (atE ρ 4) (andZ (outs k))).bool = true := headIs_vars (Φ := ΦP) (ρ := atE ρ 4) hk h0
 refine ⟨fun c => ?_, fun c => ?_⟩
 · rw [not_t] at c
   refine leaf_on_err (e := 120) hp hr ?_ (by decide) rfl hn.1
   rw [pushErr, if_neg]
   intro h
   rw [(andZ_at (outs k)).mpr (his.mp h)] at c; cases c
 · rw [not_f] at c
   have hE : pushErr (headR ρ) (dataR ρ 0) = wrFail k (hdFields k (headR ρ)) (dataR ρ 0) := by
     rw [pushErr, if_pos (his.mpr ((andZ_at (outs k)).mp c)), g0, Int.toNat_natCast]
   have hcs : csVal (T.den ΦP ρ) (csOf4 k) = chkF k (hdFields k (headR ρ)) := (cs4_is hk).trans (cs_is (Φ := ΦP) (ρ := atE ρ 4) hk)
   refine onChain_ok (fun e he hv => leaf_on_err hp hr ?_ he rfl hn.2) (fun hv => ?_) (fun t e h => cs4_ne h)
   · rw [hcs] at hv
     rw [hE, chk_wr hk (by rw [hv]; exact he), hv]
   refine ⟨by rw [eq_t, int_sub, int_len, den_var, den_var, hD]; exact hDl.symm, ?_⟩
   refine chksB4_ok hh ?_ hbl
   refine ⟨by rw [bytes_t, hD]; exact data_bytes hp, fun d => ?_, fun d => ?_⟩
   · rw [eq_t, hw] at d
     have d : wrFail k (hdFields k (headR ρ)) (dataR ρ 0) = 0 := d
     have hsz := size_k hk d
     have hpe := hE.trans d
     have hiF : (T.den ΦP ρ (inF (hdSize k))).int = (ρ 1).int - hdSize k := by rw [inF, int_sub, den_var]; rfl
     have hmx : (T.den ΦP ρ (.c2 .mx (.num (.ofNat (hdSize k))) (.num 0))).int = hdSize k := by show max (Int.ofNat (hdSize k)) 0 = _; simp only [Int.ofNat_eq_natCast]; omega
     refine ⟨?_, ?_, fun e => ?_, fun e => ⟨fun q => ?_, fun q => ?_⟩⟩
     · rw [bytes_t, hgd]; exact bytes_k hk hg d
     · rw [eq_t, int_len, hgd, hwl]; rfl
     · exfalso
       rw [lt_t, int_sub, int_sub, den_var, den_var, den_num] at e
       replace e : (2048 : Int) - ((ρ 2).int - (ρ 1).int) < hdSize k := e
       omega
     · rw [lt_t, den_var] at q
       have q : (ρ 1).int < hdSize k := q
       rw [hr.good hpe]
       have hll : (T.den ΦP ρ (layLen (hdSize k))).int = ((64 + hdSize k + (dataR ρ 0).length + 64 : Nat) : Int) := by
         rw [layLen, int_add, int_add, int_sub, den_var, den_var]
         show (((64 + hdSize k : Nat) : Int) + ((ρ 2).int - (ρ 1).int)) + 64 = _
         omega
       have hrow : onMem (ρ 0).list [(ρ 1).int, (ρ 2).int] (headR ρ) = List.replicate 64 0 ++ ((wrGood k (hdFields k (headR ρ)) (dataR ρ 0) ++ dataR ρ 0) ++ List.replicate 64 0) := by
         rw [onMem, g0, Int.toNat_natCast, if_pos (show g [(ρ 1).int, (ρ 2).int] 0 < hdSize k from q)]
         show List.replicate 64 0 ++ (pushRow (headR ρ) (dataR ρ 0) ++ _) = _
         rw [pushRow, hhr]
       have hlr : (onMem (ρ 0).list [(ρ 1).int, (ρ 2).int] (headR ρ)).length = 64 + hdSize k + (dataR ρ 0).length + 64 := by
         rw [hrow]; simp only [List.length_append, List.length_replicate, hwl]; omega
       have hfr : (T.den ΦP ρ onF).int = 64 := by rw [den_onF, g0, Int.toNat_natCast, onFrom, if_pos q]
       refine .inr (.inl ⟨by decide, ⟨_, rfl, rfl⟩, rfl, ⟨⟨rfl, rfl⟩, ⟨rfl, rfl, ⟨rfl, ?_⟩, rfl, rfl, ⟨rfl, ⟨rfl, rfl, rfl, rfl, ?_⟩, ⟨rfl, hfr.symm⟩, ⟨rfl, ?_⟩, ⟨rfl, rfl⟩, trivial⟩, rfl, trivial⟩, (show (84 : Nat) ≤ 300 by decide)⟩⟩)
       · rw [den_onT, hrow]
         show splL (splL (List.replicate (T.den ΦP ρ (layLen (hdSize k))).int.toNat [(0 : Int)]).flatten ((64 + hdSize k : Nat) : Int) (T.den ΦP ρ (pkD 0)).list) (64 : Int) (T.den ΦP ρ (onW k (hdSize k) F)).list = _
         rw [rep0, hW, hD, hll, Int.toNat_natCast]
         exact spl_zero rfl hwl
       · rw [int_len, den_onT, hll, hlr]
       · rw [int_sub, hll, onTo, int_add, hfr, int_add, int_sub, den_onN, den_var, den_var, g0, Int.toNat_natCast]
         show ((64 + hdSize k + (dataR ρ 0).length + 64 : Nat) : Int) - 64 = (64 : Int) + (hdSize k + ((ρ 2).int - (ρ 1).int))
         omega
     · rw [lt_f, den_var] at q
       have q : (hdSize k : Int) ≤ (ρ 1).int := q
       obtain ⟨i, hi⟩ := Int.eq_ofNat_of_zero_le (show 0 ≤ (ρ 1).int - hdSize k by omega)
       have hiE : (T.den ΦP ρ (inE (hdSize k))).int = (ρ 1).int := by
         rw [inE, int_wr, int_add, hiF, hmx, Int.sub_add_cancel]
         exact wrap_is (by simp only [kmin]; omega) (by simp only [kmax]; omega)
       refine ⟨by rw [le_t, hiE, hiF]; omega, by rw [le_t, hiE, int_len, den_var]; omega, ?_, ?_⟩
       · rw [le_t, int_add, hiF, int_len, den_var]; show (ρ 1).int - hdSize k + hdSize k ≤ _; omega
       rw [hr.good hpe]
       have hrow : onMem (ρ 0).list [(ρ 1).int, (ρ 2).int] (headR ρ) = splL (ρ 0).list (i : Int) (wrGood k (hdFields k (headR ρ)) (dataR ρ 0)) := by
         rw [onMem, g0, Int.toNat_natCast, if_neg (show ¬ g [(ρ 1).int, (ρ 2).int] 0 < hdSize k by show ¬ (ρ 1).int < hdSize k; omega), spl_at, hwl]
         show (ρ 0).list.take ((ρ 1).int.toNat - hdSize k) ++ (headRow (headR ρ) (dataR ρ 0) ++ (ρ 0).list.drop (ρ 1).int.toNat) = _
         rw [hhr, show (ρ 1).int.toNat - hdSize k = i from by omega, show (ρ 1).int.toNat = i + hdSize k from by omega]
       have hfit : i + hdSize k ≤ (ρ 0).list.length := by omega
       have hfr : (T.den ΦP ρ onF).int = (ρ 1).int - hdSize k := by rw [den_onF, g0, Int.toNat_natCast, onFrom, if_neg (by omega)]
       refine .inr (.inr ⟨by decide, ⟨_, rfl, rfl⟩, rfl, rfl, ⟨⟨rfl, rfl⟩, ⟨rfl, rfl, ⟨rfl, ?_⟩, rfl, rfl, ⟨rfl, ⟨rfl, rfl, rfl, rfl, ?_⟩, ⟨rfl, ?_⟩, ⟨rfl, ?_⟩, ⟨rfl, rfl⟩, trivial⟩, rfl, trivial⟩, (show (84 : Nat) ≤ 300 by decide)⟩⟩)
       · rw [den_onT, hrow]
         show splL (splL (ρ 0).list (T.den ΦP ρ (inF (hdSize k))).int (List.replicate ((T.den ΦP ρ (inE (hdSize k))).int - (T.den ΦP ρ (inF (hdSize k))).int).toNat [(0 : Int)]).flatten) (T.den ΦP ρ (inF (hdSize k))).int (T.den ΦP ρ (onW k (hdSize k) F)).list = _
         rw [rep0, hW, hiE, hiF, hi]
         have hr2 : ((ρ 1).int - (i : Int)).toNat = hdSize k := by omega
         refine spl_twice ?_ ?_
         · rw [List.length_replicate]; omega
         · rw [List.length_replicate, hwl]; omega
       · rw [int_len, int_len, den_onT, hrow, den_var, spl_len (by rw [hwl]; exact hfit)]
       · rw [hiF, hfr]
       · rw [onTo, int_add, hfr, int_add, int_sub, den_onN, den_var, den_var, g0, Int.toNat_natCast]; omega
   · rw [eq_f, hw] at d
     exact leaf_on_err hp hr hE d hw (by decide)
def offF (z : Int) : T := .c2 .sub (.var 1) (.num z)
def offE (z : Int) : T := .wr .i64 (.c2 .add (offF z) (.c2 .mx (.num z) (.num 0)))
def offErrR (e : T) (n : Nat) : V × St := (.t [.g (zeroC' kHead), .c (.i .i64 e)], ⟨[], [], n, 5, []⟩)
def offOk (k n : Nat) (z : Int) : V × St := (.t [.g (hdC k (.var 4) (.fn (10 + k) (pkD 0) .nil .nil)), .c (.i .i64 (.num 0))], ⟨[], [(0, some ⟨true, .cells [.b (.bol true), .s 1 1 0 (.num 0) (.c1 .len (.var 0)), .i .i64 (offF z), .i .i64 (.var 2), .i .i64 (.c2 .add (.var 3) (.num 1))]⟩),
 (1, some ⟨true, .row [.u8] (.spl (.var 0) (offF z) (.c2 .rep (.c2 .sub (offE z) (offF z)) (.cons (.num 0) .nil)))⟩)], n, 5, []⟩)
def offTree (k n : Nat) (z : Int) (w : V × St) : M (V × St) :=
 .chk (.c2 .eq (.c2 .sub (.var 2) (.var 1)) (.c1 .len (pkD 0))) (.chk (.c1 (.kin [.u8]) (pkD 0))
   (.split (.c1 .not (.c2 .eq (.fn (20 + k) (pkD 0) .nil .nil) (.num 0))) (.ret (offErrR (.fn (20 + k) (pkD 0) .nil .nil) n))
     (.split (.c2 .lt (.num z) (.c2 .sub (.num 0) (.c2 .sub (.var 2) (.var 1)))) (.ret w)
       (.chk (.c2 .le (offF z) (offE z)) (.chk (.c2 .le (offE z) (.c1 .len (.var 0))) (.ret (offOk k n z)))))))
structure OffRes (ρ : Env) (res : Res) : Prop where
 bad : ¬ popErr (dataR ρ 0) (ρ 4).int = 0 → res = ⟨.t [.g (zeroC' kHead), .c (.i .i64 offErr)], [], 300⟩
 good : popErr (dataR ρ 0) (ρ 4).int = 0 → res = ⟨.t [.g (rdCells offHead 0 kHead), .c (.i .i64 (.num 0))], [(0, some ⟨true, .cells (pkCells 1 (.var 0) (.c2 .add (.var 1) offN) (.var 2) (.c2 .add (.var 3) (.num 1)))⟩), (1, some ⟨true, .row [.u8] (.var 0)⟩)], 300⟩
theorem den_offErr (h : PkIs ρ 0) : (T.den ΦP ρ offErr).int = popErr (dataR ρ 0) (ρ 4).int := by
 show popErr (T.den ΦP ρ (pkD 0)).list (ρ 4).int = _
 rw [den_pkD h]
theorem off_res (hp : PkIs ρ 0) {res : Res} (h : (offRes 300).val (T.den ΦP ρ) = some res) : OffRes ρ res := by
 have he := den_offErr hp
 refine ⟨fun hb => ?_, fun hg => ?_⟩
 · simp only [offRes, O.val] at h
   rw [if_neg (by rw [eq_t, he]; exact hb)] at h
   injection h with h; exact h.symm
 · simp only [offRes, O.val] at h
   rw [if_pos (by rw [eq_t, he]; exact hg)] at h
   repeat' (split at h)
   all_goals first | (cases h; done) | (injection h with h; exact h.symm)
theorem leaf_off_err {n : Nat} {res : Res} {t : T} {e : Int} (hp : PkIs ρ 0) (hr : OffRes ρ res) (he : popErr (dataR ρ 0) (ρ 4).int = e) (h0 : ¬ e = 0) (ht : (T.den ΦP ρ t).int = e) (hn : n ≤ 300) : Leaf ΦP ρ ρ res (offErrR t n) := by
 rw [hr.bad (by rw [he]; exact h0)]
 exact ⟨⟨zero_eqL kHead, ⟨rfl, by rw [ht, den_offErr hp, he]⟩, trivial⟩, trivial, hn⟩
theorem offK_ok {k n : Nat} {z : Int} {w : V × St} {B : BK} {res : Res} (hp : PkIs ρ 0) (hr : OffRes ρ res) (hk : 1 ≤ k ∧ k ≤ 6) (h0 : (ρ 4).int = k) (hz : z = -(hdSize k : Int)) (hn : n ≤ 300) : (offTree k n z w).ok ΦP eqJ B ρ (fun _ ρ' r => Leaf ΦP ρ ρ' res r) := by
 have hD := den_pkD (Φ := ΦP) hp
 have hDl : ((dataR ρ 0).length : Int) = (ρ 2).int - (ρ 1).int := data_len hp
 have f0 : 0 ≤ (ρ 1).int := hp.f0
 have ft : (ρ 1).int ≤ (ρ 2).int := hp.ft
 have tm : (ρ 2).int ≤ (ρ 0).list.length := hp.tm
 have hm := hp.m
 have hE : (T.den ΦP ρ (.fn (20 + k) (pkD 0) .nil .nil)).int = rdErr k (dataR ρ 0) := by rw [den_fn, sigW.rdErr k _ _ _ hk.1 hk.2, hD]; rfl
 have hF : (T.den ΦP ρ (.fn (10 + k) (pkD 0) .nil .nil)).list = rdRow k (dataR ρ 0) := by rw [den_fn, sigW.rdRow k _ _ _ hk.1 hk.2, hD]; rfl
 have hP : popErr (dataR ρ 0) (ρ 4).int = rdErr k (dataR ρ 0) := by rw [popErr, h0, if_pos (by omega), Int.toNat_natCast]
 refine ⟨by rw [eq_t, int_sub, int_len, den_var, den_var, hD]; exact hDl.symm, by rw [bytes_t, hD]; exact data_bytes hp, fun c => ?_, fun c => ?_⟩
 · rw [not_t, eq_f, hE] at c
   exact leaf_off_err hp hr hP c hE hn
 · rw [not_f, eq_t, hE] at c
   have c : rdErr k (dataR ρ 0) = 0 := c
   have hsz := rd_size c
   have hF1 : (T.den ΦP ρ (offF z)).int = (ρ 1).int + hdSize k := by rw [offF, int_sub, den_var, den_num, hz]; show (ρ 1).int - -(hdSize k : Int) = _; omega
   have hmx : (T.den ΦP ρ (.c2 .mx (.num z) (.num 0))).int = 0 := by show max z 0 = 0; omega
   have hE1 : (T.den ΦP ρ (offE z)).int = (ρ 1).int + hdSize k := by
     rw [offE, int_wr, int_add, hF1, hmx, Int.add_zero]
     exact wrap_is (by simp only [kmin]; omega) (by simp only [kmax]; omega)
   refine ⟨fun d => ?_, fun d => ⟨by rw [le_t, hE1, hF1]; omega, by rw [le_t, hE1, int_len, den_var]; omega, ?_⟩⟩
   · exfalso
     rw [lt_t, int_sub, int_sub, den_var, den_var, den_num, den_num] at d
     replace d : z < 0 - ((ρ 2).int - (ρ 1).int) := d
     omega
   · rw [hr.good (hP.trans c)]
     have hH : (T.den ΦP ρ offHead).list = headOf k (rdRow k (dataR ρ 0)) := by
       show popHead (T.den ΦP ρ (pkD 0)).list (ρ 4).int = _
       rw [popHead, h0, Int.toNat_natCast, hD]
     have hN : (T.den ΦP ρ offN).int = hdSize k := by show (hdSize (ρ 4).int.toNat : Int) = _; rw [h0, Int.toNat_natCast]
     obtain ⟨i, hi⟩ := Int.eq_ofNat_of_zero_le (show 0 ≤ (ρ 1).int + hdSize k by omega)
     refine ⟨⟨?_, ⟨rfl, rfl⟩, trivial⟩, ⟨rfl, rfl, ⟨rfl, ⟨rfl, rfl, rfl, rfl, rfl⟩, ⟨rfl, ?_⟩, ⟨rfl, rfl⟩, ⟨rfl, rfl⟩, trivial⟩, rfl, rfl, ⟨rfl, ?_⟩, trivial⟩, hn⟩
     · exact cells_eqL hH kHead _ _ 0 (cells_head hk h0 hF) (fun i _ => by rw [Nat.zero_add])
     · rw [hF1, int_add, hN, den_var]
     · show splL (ρ 0).list (T.den ΦP ρ (offF z)).int (List.replicate ((T.den ΦP ρ (offE z)).int - (T.den ΦP ρ (offF z)).int).toNat [(0 : Int)]).flatten = _
       rw [hF1, hE1, Int.sub_self, hi]
       exact spl_none (by omega)
end
end Go.Proofs.YtfhjlimdakphcaaGreat.Sx
set_option maxRecDepth 100000
namespace Go.Proofs.YtfhjlimdakphcaaGreat.Sx
open Go
def treePkThere : M (V × St) :=
(.split (.c2 .lt (.c2 .sub (.var 2) (.var 1)) (.num 1))
 (.ret (.w (.c (.i .i64 (.num 0))), ⟨[], [], 2, 4, []⟩))
 (.chk (.c2 .le (.c2 .add (.var 1) (.num 1)) (.c1 .len (.var 0)))
 (.ret (.w (.c (.i .i64 (.num 0))), ⟨[], [], 2, 4, []⟩))))
theorem treePkThere_is : funTree (ctxN Go.Proofs.Tryz.prog annsPk [] 8) annsPk 30 tThere.vs tThere.bs tThere.n (preF tThere.res) = treePkThere := by kernel_rfl
end Go.Proofs.YtfhjlimdakphcaaGreat.Sx
set_option maxRecDepth 100000
namespace Go.Proofs.YtfhjlimdakphcaaGreat.Sx
open Go
def treePkNew : M (V × St) :=
(.ret (.t [.c (.p 1 (.num 0) 0 0), .c (.i .i64 (.num 0))], ⟨[], [(1, some ⟨true, .cells [.b (.bol true), .s 2 1 0 (.num 0) (.c2 .add (.c2 .add (.var 1) (.c1 .len (.var 0))) (.var 2)), .i .i64 (.var 1), .i .i64 (.c2 .sub (.c2 .add (.c2 .add (.var 1) (.c1 .len (.var 0))) (.var 2)) (.var 2)), .i .i64 (.num 0)]⟩), (2, some ⟨true, .row [.u8] (.spl (.c2 .rep (.c2 .add (.c2 .add (.var 1) (.c1 .len (.var 0))) (.var 2)) (.cons (.num 0) .nil)) (.var 1) (.var 0))⟩)], 3, 3, []⟩))
theorem treePkNew_is : funTree (ctxN Go.Proofs.Tryz.prog annsPk [] 8) annsPk 7 (tNew 1 2).vs (tNew 1 2).bs (tNew 1 2).n (preF (tNew 1 2).res) = treePkNew := by kernel_rfl
end Go.Proofs.YtfhjlimdakphcaaGreat.Sx
set_option maxRecDepth 100000
namespace Go.Proofs.YtfhjlimdakphcaaGreat.Sx
open Go
def xPkOff0 : T := (.c2 .take (.c2 .sub (.var 2) (.var 1)) (.c2 .drop (.var 1) (.var 0)))
def xPkOff1 : T := (.wr .i64 (.c2 .add (.c2 .sub (.var 1) (.num (-14))) (.c2 .mx (.num (-14)) (.num 0))))
def xPkOff2 : T := (.wr .i64 (.c2 .add (.c2 .sub (.var 1) (.num (-4))) (.c2 .mx (.num (-4)) (.num 0))))
def xPkOff3 : T := (.c2 .lt (.num (-20)) (.c2 .sub (.num 0) (.c2 .sub (.var 2) (.var 1))))
def xPkOff4 : T := (.wr .i64 (.c2 .add (.c2 .sub (.var 1) (.num (-20))) (.c2 .mx (.num (-20)) (.num 0))))
def xPkOff5 : T := (.wr .i64 (.c2 .add (.c2 .sub (.var 1) (.num (-40))) (.c2 .mx (.num (-40)) (.num 0))))
def xPkOff6 : T := (.wr .i64 (.c2 .add (.c2 .sub (.var 1) (.num (-8))) (.c2 .mx (.num (-8)) (.num 0))))
def treePkOff : M (V × St) :=
(.split (.c2 .lt (.var 4) (.num 1))
 (.ret (.t [.g [.i .u8 (.num 0), .i .u8 (.num 0), .i .u8 (.num 0), .i .u8 (.num 0), .i .u8 (.num 0), .i .u8 (.num 0), .i .u8 (.num 0), .i .u8 (.num 0), .i .u8 (.num 0), .i .u8 (.num 0), .i .u8 (.num 0), .i .u8 (.num 0), .i .u8 (.num 0), .i .u16 (.num 0), .i .u8 (.num 0), .i .u16 (.num 0), .i .u16 (.num 0), .i .u8 (.num 0), .i .u8 (.num 0), .i .u8 (.num 0), .i .u16 (.num 0), .i .u8 (.num 0), .i .u8 (.num 0), .i .u8 (.num 0), .i .u8 (.num 0), .i .u8 (.num 0), .i .u8 (.num 0), .i .u8 (.num 0), .i .u8 (.num 0), .i .u8 (.num 0), .i .u32 (.num 0), .i .u8 (.num 0), .i .u8 (.num 0), .i .u8 (.num 0), .i .u8 (.num 0), .i .u8 (.num 0), .i .u8 (.num 0), .i .u8 (.num 0), .i .u8 (.num 0), .i .u8 (.num 0), .i .u8 (.num 0), .i .u8 (.num 0), .i .u8 (.num 0), .i .u8 (.num 0), .i .u8 (.num 0), .i .u8 (.num 0), .i .u8 (.num 0), .i .u8 (.num 0), .i .u8 (.num 0), .i .u8 (.num 0), .i .u8 (.num 0), .i .u8 (.num 0), .i .u8 (.num 0), .i .u8 (.num 0), .i .u8 (.num 0), .i .u8 (.num 0), .i .u8 (.num 0), .i .u8 (.num 0), .i .u8 (.num 0), .i .u8 (.num 0), .i .u8 (.num 0), .i .u8 (.num 0), .i .u8 (.num 0), .i .u8 (.num 0), .i .u8 (.num 0), .i .u16 (.num 0), .i .u16 (.num 0), .i .u32 (.num 0), .i .u32 (.num 0), .i .u8 (.num 0), .i .u16 (.num 0), .i .u16 (.num 0), .i .u16 (.num 0)], .c (.i .i64 (.num 120))], ⟨[], [], 15, 5, []⟩))
 (.split (.c2 .lt (.num 6) (.var 4))
 (.ret (.t [.g [.i .u8 (.num 0), .i .u8 (.num 0), .i .u8 (.num 0), .i .u8 (.num 0), .i .u8 (.num 0), .i .u8 (.num 0), .i .u8 (.num 0), .i .u8 (.num 0), .i .u8 (.num 0), .i .u8 (.num 0), .i .u8 (.num 0), .i .u8 (.num 0), .i .u8 (.num 0), .i .u16 (.num 0), .i .u8 (.num 0), .i .u16 (.num 0), .i .u16 (.num 0), .i .u8 (.num 0), .i .u8 (.num 0), .i .u8 (.num 0), .i .u16 (.num 0), .i .u8 (.num 0), .i .u8 (.num 0), .i .u8 (.num 0), .i .u8 (.num 0), .i .u8 (.num 0), .i .u8 (.num 0), .i .u8 (.num 0), .i .u8 (.num 0), .i .u8 (.num 0), .i .u32 (.num 0), .i .u8 (.num 0), .i .u8 (.num 0), .i .u8 (.num 0), .i .u8 (.num 0), .i .u8 (.num 0), .i .u8 (.num 0), .i .u8 (.num 0), .i .u8 (.num 0), .i .u8 (.num 0), .i .u8 (.num 0), .i .u8 (.num 0), .i .u8 (.num 0), .i .u8 (.num 0), .i .u8 (.num 0), .i .u8 (.num 0), .i .u8 (.num 0), .i .u8 (.num 0), .i .u8 (.num 0), .i .u8 (.num 0), .i .u8 (.num 0), .i .u8 (.num 0), .i .u8 (.num 0), .i .u8 (.num 0), .i .u8 (.num 0), .i .u8 (.num 0), .i .u8 (.num 0), .i .u8 (.num 0), .i .u8 (.num 0), .i .u8 (.num 0), .i .u8 (.num 0), .i .u8 (.num 0), .i .u8 (.num 0), .i .u8 (.num 0), .i .u8 (.num 0), .i .u16 (.num 0), .i .u16 (.num 0), .i .u32 (.num 0), .i .u32 (.num 0), .i .u8 (.num 0), .i .u16 (.num 0), .i .u16 (.num 0), .i .u16 (.num 0)], .c (.i .i64 (.num 120))], ⟨[], [], 15, 5, []⟩))
 (.split (.c2 .eq (.var 4) (.num 1))
 (.chk (.c2 .eq (.c2 .sub (.var 2) (.var 1)) (.c1 .len xPkOff0))
 (.chk (.c1 (.kin [.u8]) xPkOff0)
 (.split (.c1 .not (.c2 .eq (.fn 21 xPkOff0 .nil .nil) (.num 0)))
 (.ret (.t [.g [.i .u8 (.num 0), .i .u8 (.num 0), .i .u8 (.num 0), .i .u8 (.num 0), .i .u8 (.num 0), .i .u8 (.num 0), .i .u8 (.num 0), .i .u8 (.num 0), .i .u8 (.num 0), .i .u8 (.num 0), .i .u8 (.num 0), .i .u8 (.num 0), .i .u8 (.num 0), .i .u16 (.num 0), .i .u8 (.num 0), .i .u16 (.num 0), .i .u16 (.num 0), .i .u8 (.num 0), .i .u8 (.num 0), .i .u8 (.num 0), .i .u16 (.num 0), .i .u8 (.num 0), .i .u8 (.num 0), .i .u8 (.num 0), .i .u8 (.num 0), .i .u8 (.num 0), .i .u8 (.num 0), .i .u8 (.num 0), .i .u8 (.num 0), .i .u8 (.num 0), .i .u32 (.num 0), .i .u8 (.num 0), .i .u8 (.num 0), .i .u8 (.num 0), .i .u8 (.num 0), .i .u8 (.num 0), .i .u8 (.num 0), .i .u8 (.num 0), .i .u8 (.num 0), .i .u8 (.num 0), .i .u8 (.num 0), .i .u8 (.num 0), .i .u8 (.num 0), .i .u8 (.num 0), .i .u8 (.num 0), .i .u8 (.num 0), .i .u8 (.num 0), .i .u8 (.num 0), .i .u8 (.num 0), .i .u8 (.num 0), .i .u8 (.num 0), .i .u8 (.num 0), .i .u8 (.num 0), .i .u8 (.num 0), .i .u8 (.num 0), .i .u8 (.num 0), .i .u8 (.num 0), .i .u8 (.num 0), .i .u8 (.num 0), .i .u8 (.num 0), .i .u8 (.num 0), .i .u8 (.num 0), .i .u8 (.num 0), .i .u8 (.num 0), .i .u8 (.num 0), .i .u16 (.num 0), .i .u16 (.num 0), .i .u32 (.num 0), .i .u32 (.num 0), .i .u8 (.num 0), .i .u16 (.num 0), .i .u16 (.num 0), .i .u16 (.num 0)], .c (.i .i64 (.fn 21 xPkOff0 .nil .nil))], ⟨[], [], 78, 5, []⟩))
 (.split (.c2 .lt (.num (-14)) (.c2 .sub (.num 0) (.c2 .sub (.var 2) (.var 1))))
 (.ret (.t [.g [.i .u8 (.var 4), .i .u8 (.wr .u8 (.c2 .rd (.fn 11 xPkOff0 .nil .nil) (.num 0))), .i .u8 (.wr .u8 (.c2 .rd (.fn 11 xPkOff0 .nil .nil) (.num 1))), .i .u8 (.wr .u8 (.c2 .rd (.fn 11 xPkOff0 .nil .nil) (.num 2))), .i .u8 (.wr .u8 (.c2 .rd (.fn 11 xPkOff0 .nil .nil) (.num 3))), .i .u8 (.wr .u8 (.c2 .rd (.fn 11 xPkOff0 .nil .nil) (.num 4))), .i .u8 (.wr .u8 (.c2 .rd (.fn 11 xPkOff0 .nil .nil) (.num 5))), .i .u8 (.wr .u8 (.c2 .rd (.fn 11 xPkOff0 .nil .nil) (.num 6))), .i .u8 (.wr .u8 (.c2 .rd (.fn 11 xPkOff0 .nil .nil) (.num 7))), .i .u8 (.wr .u8 (.c2 .rd (.fn 11 xPkOff0 .nil .nil) (.num 8))), .i .u8 (.wr .u8 (.c2 .rd (.fn 11 xPkOff0 .nil .nil) (.num 9))), .i .u8 (.wr .u8 (.c2 .rd (.fn 11 xPkOff0 .nil .nil) (.num 10))), .i .u8 (.wr .u8 (.c2 .rd (.fn 11 xPkOff0 .nil .nil) (.num 11))), .i .u16 (.wr .u16 (.c2 .rd (.fn 11 xPkOff0 .nil .nil) (.num 12))), .i .u8 (.num 0), .i .u16 (.num 0), .i .u16 (.num 0), .i .u8 (.num 0), .i .u8 (.num 0), .i .u8 (.num 0), .i .u16 (.num 0), .i .u8 (.num 0), .i .u8 (.num 0), .i .u8 (.num 0), .i .u8 (.num 0), .i .u8 (.num 0), .i .u8 (.num 0), .i .u8 (.num 0), .i .u8 (.num 0), .i .u8 (.num 0), .i .u32 (.num 0), .i .u8 (.num 0), .i .u8 (.num 0), .i .u8 (.num 0), .i .u8 (.num 0), .i .u8 (.num 0), .i .u8 (.num 0), .i .u8 (.num 0), .i .u8 (.num 0), .i .u8 (.num 0), .i .u8 (.num 0), .i .u8 (.num 0), .i .u8 (.num 0), .i .u8 (.num 0), .i .u8 (.num 0), .i .u8 (.num 0), .i .u8 (.num 0), .i .u8 (.num 0), .i .u8 (.num 0), .i .u8 (.num 0), .i .u8 (.num 0), .i .u8 (.num 0), .i .u8 (.num 0), .i .u8 (.num 0), .i .u8 (.num 0), .i .u8 (.num 0), .i .u8 (.num 0), .i .u8 (.num 0), .i .u8 (.num 0), .i .u8 (.num 0), .i .u8 (.num 0), .i .u8 (.num 0), .i .u8 (.num 0), .i .u8 (.num 0), .i .u8 (.num 0), .i .u16 (.num 0), .i .u16 (.num 0), .i .u32 (.num 0), .i .u32 (.num 0), .i .u8 (.num 0), .i .u16 (.num 0), .i .u16 (.num 0), .i .u16 (.num 0)], .c (.i .i64 (.num 6))], ⟨[], [], 78, 5, []⟩))
 (.chk (.c2 .le (.c2 .sub (.var 1) (.num (-14))) xPkOff1)
 (.chk (.c2 .le xPkOff1 (.c1 .len (.var 0)))
 (.ret (.t [.g [.i .u8 (.var 4), .i .u8 (.wr .u8 (.c2 .rd (.fn 11 xPkOff0 .nil .nil) (.num 0))), .i .u8 (.wr .u8 (.c2 .rd (.fn 11 xPkOff0 .nil .nil) (.num 1))), .i .u8 (.wr .u8 (.c2 .rd (.fn 11 xPkOff0 .nil .nil) (.num 2))), .i .u8 (.wr .u8 (.c2 .rd (.fn 11 xPkOff0 .nil .nil) (.num 3))), .i .u8 (.wr .u8 (.c2 .rd (.fn 11 xPkOff0 .nil .nil) (.num 4))), .i .u8 (.wr .u8 (.c2 .rd (.fn 11 xPkOff0 .nil .nil) (.num 5))), .i .u8 (.wr .u8 (.c2 .rd (.fn 11 xPkOff0 .nil .nil) (.num 6))), .i .u8 (.wr .u8 (.c2 .rd (.fn 11 xPkOff0 .nil .nil) (.num 7))), .i .u8 (.wr .u8 (.c2 .rd (.fn 11 xPkOff0 .nil .nil) (.num 8))), .i .u8 (.wr .u8 (.c2 .rd (.fn 11 xPkOff0 .nil .nil) (.num 9))), .i .u8 (.wr .u8 (.c2 .rd (.fn 11 xPkOff0 .nil .nil) (.num 10))), .i .u8 (.wr .u8 (.c2 .rd (.fn 11 xPkOff0 .nil .nil) (.num 11))), .i .u16 (.wr .u16 (.c2 .rd (.fn 11 xPkOff0 .nil .nil) (.num 12))), .i .u8 (.num 0), .i .u16 (.num 0), .i .u16 (.num 0), .i .u8 (.num 0), .i .u8 (.num 0), .i .u8 (.num 0), .i .u16 (.num 0), .i .u8 (.num 0), .i .u8 (.num 0), .i .u8 (.num 0), .i .u8 (.num 0), .i .u8 (.num 0), .i .u8 (.num 0), .i .u8 (.num 0), .i .u8 (.num 0), .i .u8 (.num 0), .i .u32 (.num 0), .i .u8 (.num 0), .i .u8 (.num 0), .i .u8 (.num 0), .i .u8 (.num 0), .i .u8 (.num 0), .i .u8 (.num 0), .i .u8 (.num 0), .i .u8 (.num 0), .i .u8 (.num 0), .i .u8 (.num 0), .i .u8 (.num 0), .i .u8 (.num 0), .i .u8 (.num 0), .i .u8 (.num 0), .i .u8 (.num 0), .i .u8 (.num 0), .i .u8 (.num 0), .i .u8 (.num 0), .i .u8 (.num 0), .i .u8 (.num 0), .i .u8 (.num 0), .i .u8 (.num 0), .i .u8 (.num 0), .i .u8 (.num 0), .i .u8 (.num 0), .i .u8 (.num 0), .i .u8 (.num 0), .i .u8 (.num 0), .i .u8 (.num 0), .i .u8 (.num 0), .i .u8 (.num 0), .i .u8 (.num 0), .i .u8 (.num 0), .i .u8 (.num 0), .i .u16 (.num 0), .i .u16 (.num 0), .i .u32 (.num 0), .i .u32 (.num 0), .i .u8 (.num 0), .i .u16 (.num 0), .i .u16 (.num 0), .i .u16 (.num 0)], .c (.i .i64 (.num 0))], ⟨[], [(0, some ⟨true, .cells [.b (.bol true), .s 1 1 0 (.num 0) (.c1 .len (.var 0)), .i .i64 (.c2 .sub (.var 1) (.num (-14))), .i .i64 (.var 2), .i .i64 (.c2 .add (.var 3) (.num 1))]⟩), (1, some ⟨true, .row [.u8] (.spl (.var 0) (.c2 .sub (.var 1) (.num (-14))) (.c2 .rep (.c2 .sub xPkOff1 (.c2 .sub (.var 1) (.num (-14)))) (.cons (.num 0) .nil)))⟩)], 78, 5, []⟩))))))))
 (.split (.c2 .eq (.var 4) (.num 2))
 (.chk (.c2 .eq (.c2 .sub (.var 2) (.var 1)) (.c1 .len xPkOff0))
 (.chk (.c1 (.kin [.u8]) xPkOff0)
 (.split (.c1 .not (.c2 .eq (.fn 22 xPkOff0 .nil .nil) (.num 0)))
 (.ret (.t [.g [.i .u8 (.num 0), .i .u8 (.num 0), .i .u8 (.num 0), .i .u8 (.num 0), .i .u8 (.num 0), .i .u8 (.num 0), .i .u8 (.num 0), .i .u8 (.num 0), .i .u8 (.num 0), .i .u8 (.num 0), .i .u8 (.num 0), .i .u8 (.num 0), .i .u8 (.num 0), .i .u16 (.num 0), .i .u8 (.num 0), .i .u16 (.num 0), .i .u16 (.num 0), .i .u8 (.num 0), .i .u8 (.num 0), .i .u8 (.num 0), .i .u16 (.num 0), .i .u8 (.num 0), .i .u8 (.num 0), .i .u8 (.num 0), .i .u8 (.num 0), .i .u8 (.num 0), .i .u8 (.num 0), .i .u8 (.num 0), .i .u8 (.num 0), .i .u8 (.num 0), .i .u32 (.num 0), .i .u8 (.num 0), .i .u8 (.num 0), .i .u8 (.num 0), .i .u8 (.num 0), .i .u8 (.num 0), .i .u8 (.num 0), .i .u8 (.num 0), .i .u8 (.num 0), .i .u8 (.num 0), .i .u8 (.num 0), .i .u8 (.num 0), .i .u8 (.num 0), .i .u8 (.num 0), .i .u8 (.num 0), .i .u8 (.num 0), .i .u8 (.num 0), .i .u8 (.num 0), .i .u8 (.num 0), .i .u8 (.num 0), .i .u8 (.num 0), .i .u8 (.num 0), .i .u8 (.num 0), .i .u8 (.num 0), .i .u8 (.num 0), .i .u8 (.num 0), .i .u8 (.num 0), .i .u8 (.num 0), .i .u8 (.num 0), .i .u8 (.num 0), .i .u8 (.num 0), .i .u8 (.num 0), .i .u8 (.num 0), .i .u8 (.num 0), .i .u8 (.num 0), .i .u16 (.num 0), .i .u16 (.num 0), .i .u32 (.num 0), .i .u32 (.num 0), .i .u8 (.num 0), .i .u16 (.num 0), .i .u16 (.num 0), .i .u16 (.num 0)], .c (.i .i64 (.fn 22 xPkOff0 .nil .nil))], ⟨[], [], 78, 5, []⟩))
 (.split (.c2 .lt (.num (-4)) (.c2 .sub (.num 0) (.c2 .sub (.var 2) (.var 1))))
 (.ret (.t [.g [.i .u8 (.var 4), .i .u8 (.num 0), .i .u8 (.num 0), .i .u8 (.num 0), .i .u8 (.num 0), .i .u8 (.num 0), .i .u8 (.num 0), .i .u8 (.num 0), .i .u8 (.num 0), .i .u8 (.num 0), .i .u8 (.num 0), .i .u8 (.num 0), .i .u8 (.num 0), .i .u16 (.num 0), .i .u8 (.wr .u8 (.c2 .rd (.fn 12 xPkOff0 .nil .nil) (.num 0))), .i .u16 (.wr .u16 (.c2 .rd (.fn 12 xPkOff0 .nil .nil) (.num 1))), .i .u16 (.wr .u16 (.c2 .rd (.fn 12 xPkOff0 .nil .nil) (.num 2))), .i .u8 (.num 0), .i .u8 (.num 0), .i .u8 (.num 0), .i .u16 (.num 0), .i .u8 (.num 0), .i .u8 (.num 0), .i .u8 (.num 0), .i .u8 (.num 0), .i .u8 (.num 0), .i .u8 (.num 0), .i .u8 (.num 0), .i .u8 (.num 0), .i .u8 (.num 0), .i .u32 (.num 0), .i .u8 (.num 0), .i .u8 (.num 0), .i .u8 (.num 0), .i .u8 (.num 0), .i .u8 (.num 0), .i .u8 (.num 0), .i .u8 (.num 0), .i .u8 (.num 0), .i .u8 (.num 0), .i .u8 (.num 0), .i .u8 (.num 0), .i .u8 (.num 0), .i .u8 (.num 0), .i .u8 (.num 0), .i .u8 (.num 0), .i .u8 (.num 0), .i .u8 (.num 0), .i .u8 (.num 0), .i .u8 (.num 0), .i .u8 (.num 0), .i .u8 (.num 0), .i .u8 (.num 0), .i .u8 (.num 0), .i .u8 (.num 0), .i .u8 (.num 0), .i .u8 (.num 0), .i .u8 (.num 0), .i .u8 (.num 0), .i .u8 (.num 0), .i .u8 (.num 0), .i .u8 (.num 0), .i .u8 (.num 0), .i .u8 (.num 0), .i .u8 (.num 0), .i .u16 (.num 0), .i .u16 (.num 0), .i .u32 (.num 0), .i .u32 (.num 0), .i .u8 (.num 0), .i .u16 (.num 0), .i .u16 (.num 0), .i .u16 (.num 0)], .c (.i .i64 (.num 6))], ⟨[], [], 78, 5, []⟩))
 (.chk (.c2 .le (.c2 .sub (.var 1) (.num (-4))) xPkOff2)
 (.chk (.c2 .le xPkOff2 (.c1 .len (.var 0)))
 (.ret (.t [.g [.i .u8 (.var 4), .i .u8 (.num 0), .i .u8 (.num 0), .i .u8 (.num 0), .i .u8 (.num 0), .i .u8 (.num 0), .i .u8 (.num 0), .i .u8 (.num 0), .i .u8 (.num 0), .i .u8 (.num 0), .i .u8 (.num 0), .i .u8 (.num 0), .i .u8 (.num 0), .i .u16 (.num 0), .i .u8 (.wr .u8 (.c2 .rd (.fn 12 xPkOff0 .nil .nil) (.num 0))), .i .u16 (.wr .u16 (.c2 .rd (.fn 12 xPkOff0 .nil .nil) (.num 1))), .i .u16 (.wr .u16 (.c2 .rd (.fn 12 xPkOff0 .nil .nil) (.num 2))), .i .u8 (.num 0), .i .u8 (.num 0), .i .u8 (.num 0), .i .u16 (.num 0), .i .u8 (.num 0), .i .u8 (.num 0), .i .u8 (.num 0), .i .u8 (.num 0), .i .u8 (.num 0), .i .u8 (.num 0), .i .u8 (.num 0), .i .u8 (.num 0), .i .u8 (.num 0), .i .u32 (.num 0), .i .u8 (.num 0), .i .u8 (.num 0), .i .u8 (.num 0), .i .u8 (.num 0), .i .u8 (.num 0), .i .u8 (.num 0), .i .u8 (.num 0), .i .u8 (.num 0), .i .u8 (.num 0), .i .u8 (.num 0), .i .u8 (.num 0), .i .u8 (.num 0), .i .u8 (.num 0), .i .u8 (.num 0), .i .u8 (.num 0), .i .u8 (.num 0), .i .u8 (.num 0), .i .u8 (.num 0), .i .u8 (.num 0), .i .u8 (.num 0), .i .u8 (.num 0), .i .u8 (.num 0), .i .u8 (.num 0), .i .u8 (.num 0), .i .u8 (.num 0), .i .u8 (.num 0), .i .u8 (.num 0), .i .u8 (.num 0), .i .u8 (.num 0), .i .u8 (.num 0), .i .u8 (.num 0), .i .u8 (.num 0), .i .u8 (.num 0), .i .u8 (.num 0), .i .u16 (.num 0), .i .u16 (.num 0), .i .u32 (.num 0), .i .u32 (.num 0), .i .u8 (.num 0), .i .u16 (.num 0), .i .u16 (.num 0), .i .u16 (.num 0)], .c (.i .i64 (.num 0))], ⟨[], [(0, some ⟨true, .cells [.b (.bol true), .s 1 1 0 (.num 0) (.c1 .len (.var 0)), .i .i64 (.c2 .sub (.var 1) (.num (-4))), .i .i64 (.var 2), .i .i64 (.c2 .add (.var 3) (.num 1))]⟩), (1, some ⟨true, .row [.u8] (.spl (.var 0) (.c2 .sub (.var 1) (.num (-4))) (.c2 .rep (.c2 .sub xPkOff2 (.c2 .sub (.var 1) (.num (-4)))) (.cons (.num 0) .nil)))⟩)], 78, 5, []⟩))))))))
 (.split (.c2 .eq (.var 4) (.num 3))
 (.chk (.c2 .eq (.c2 .sub (.var 2) (.var 1)) (.c1 .len xPkOff0))
 (.chk (.c1 (.kin [.u8]) xPkOff0)
 (.split (.c1 .not (.c2 .eq (.fn 23 xPkOff0 .nil .nil) (.num 0)))
 (.ret (.t [.g [.i .u8 (.num 0), .i .u8 (.num 0), .i .u8 (.num 0), .i .u8 (.num 0), .i .u8 (.num 0), .i .u8 (.num 0), .i .u8 (.num 0), .i .u8 (.num 0), .i .u8 (.num 0), .i .u8 (.num 0), .i .u8 (.num 0), .i .u8 (.num 0), .i .u8 (.num 0), .i .u16 (.num 0), .i .u8 (.num 0), .i .u16 (.num 0), .i .u16 (.num 0), .i .u8 (.num 0), .i .u8 (.num 0), .i .u8 (.num 0), .i .u16 (.num 0), .i .u8 (.num 0), .i .u8 (.num 0), .i .u8 (.num 0), .i .u8 (.num 0), .i .u8 (.num 0), .i .u8 (.num 0), .i .u8 (.num 0), .i .u8 (.num 0), .i .u8 (.num 0), .i .u32 (.num 0), .i .u8 (.num 0), .i .u8 (.num 0), .i .u8 (.num 0), .i .u8 (.num 0), .i .u8 (.num 0), .i .u8 (.num 0), .i .u8 (.num 0), .i .u8 (.num 0), .i .u8 (.num 0), .i .u8 (.num 0), .i .u8 (.num 0), .i .u8 (.num 0), .i .u8 (.num 0), .i .u8 (.num 0), .i .u8 (.num 0), .i .u8 (.num 0), .i .u8 (.num 0), .i .u8 (.num 0), .i .u8 (.num 0), .i .u8 (.num 0), .i .u8 (.num 0), .i .u8 (.num 0), .i .u8 (.num 0), .i .u8 (.num 0), .i .u8 (.num 0), .i .u8 (.num 0), .i .u8 (.num 0), .i .u8 (.num 0), .i .u8 (.num 0), .i .u8 (.num 0), .i .u8 (.num 0), .i .u8 (.num 0), .i .u8 (.num 0), .i .u8 (.num 0), .i .u16 (.num 0), .i .u16 (.num 0), .i .u32 (.num 0), .i .u32 (.num 0), .i .u8 (.num 0), .i .u16 (.num 0), .i .u16 (.num 0), .i .u16 (.num 0)], .c (.i .i64 (.fn 23 xPkOff0 .nil .nil))], ⟨[], [], 78, 5, []⟩))
 (.split xPkOff3
 (.ret (.t [.g [.i .u8 (.var 4), .i .u8 (.num 0), .i .u8 (.num 0), .i .u8 (.num 0), .i .u8 (.num 0), .i .u8 (.num 0), .i .u8 (.num 0), .i .u8 (.num 0), .i .u8 (.num 0), .i .u8 (.num 0), .i .u8 (.num 0), .i .u8 (.num 0), .i .u8 (.num 0), .i .u16 (.num 0), .i .u8 (.num 0), .i .u16 (.num 0), .i .u16 (.num 0), .i .u8 (.wr .u8 (.c2 .rd (.fn 13 xPkOff0 .nil .nil) (.num 0))), .i .u8 (.wr .u8 (.c2 .rd (.fn 13 xPkOff0 .nil .nil) (.num 1))), .i .u8 (.wr .u8 (.c2 .rd (.fn 13 xPkOff0 .nil .nil) (.num 2))), .i .u16 (.wr .u16 (.c2 .rd (.fn 13 xPkOff0 .nil .nil) (.num 3))), .i .u8 (.wr .u8 (.c2 .rd (.fn 13 xPkOff0 .nil .nil) (.num 4))), .i .u8 (.wr .u8 (.c2 .rd (.fn 13 xPkOff0 .nil .nil) (.num 5))), .i .u8 (.wr .u8 (.c2 .rd (.fn 13 xPkOff0 .nil .nil) (.num 6))), .i .u8 (.wr .u8 (.c2 .rd (.fn 13 xPkOff0 .nil .nil) (.num 7))), .i .u8 (.wr .u8 (.c2 .rd (.fn 13 xPkOff0 .nil .nil) (.num 8))), .i .u8 (.wr .u8 (.c2 .rd (.fn 13 xPkOff0 .nil .nil) (.num 9))), .i .u8 (.wr .u8 (.c2 .rd (.fn 13 xPkOff0 .nil .nil) (.num 10))), .i .u8 (.wr .u8 (.c2 .rd (.fn 13 xPkOff0 .nil .nil) (.num 11))), .i .u8 (.num 0), .i .u32 (.num 0), .i .u8 (.num 0), .i .u8 (.num 0), .i .u8 (.num 0), .i .u8 (.num 0), .i .u8 (.num 0), .i .u8 (.num 0), .i .u8 (.num 0), .i .u8 (.num 0), .i .u8 (.num 0), .i .u8 (.num 0), .i .u8 (.num 0), .i .u8 (.num 0), .i .u8 (.num 0), .i .u8 (.num 0), .i .u8 (.num 0), .i .u8 (.num 0), .i .u8 (.num 0), .i .u8 (.num 0), .i .u8 (.num 0), .i .u8 (.num 0), .i .u8 (.num 0), .i .u8 (.num 0), .i .u8 (.num 0), .i .u8 (.num 0), .i .u8 (.num 0), .i .u8 (.num 0), .i .u8 (.num 0), .i .u8 (.num 0), .i .u8 (.num 0), .i .u8 (.num 0), .i .u8 (.num 0), .i .u8 (.num 0), .i .u8 (.num 0), .i .u8 (.num 0), .i .u16 (.num 0), .i .u16 (.num 0), .i .u32 (.num 0), .i .u32 (.num 0), .i .u8 (.num 0), .i .u16 (.num 0), .i .u16 (.num 0), .i .u16 (.num 0)], .c (.i .i64 (.num 6))], ⟨[], [], 78, 5, []⟩))
 (.chk (.c2 .le (.c2 .sub (.var 1) (.num (-20))) xPkOff4)
 (.chk (.c2 .le xPkOff4 (.c1 .len (.var 0)))
 (.ret (.t [.g [.i .u8 (.var 4), .i .u8 (.num 0), .i .u8 (.num 0), .i .u8 (.num 0), .i .u8 (.num 0), .i .u8 (.num 0), .i .u8 (.num 0), .i .u8 (.num 0), .i .u8 (.num 0), .i .u8 (.num 0), .i .u8 (.num 0), .i .u8 (.num 0), .i .u8 (.num 0), .i .u16 (.num 0), .i .u8 (.num 0), .i .u16 (.num 0), .i .u16 (.num 0), .i .u8 (.wr .u8 (.c2 .rd (.fn 13 xPkOff0 .nil .nil) (.num 0))), .i .u8 (.wr .u8 (.c2 .rd (.fn 13 xPkOff0 .nil .nil) (.num 1))), .i .u8 (.wr .u8 (.c2 .rd (.fn 13 xPkOff0 .nil .nil) (.num 2))), .i .u16 (.wr .u16 (.c2 .rd (.fn 13 xPkOff0 .nil .nil) (.num 3))), .i .u8 (.wr .u8 (.c2 .rd (.fn 13 xPkOff0 .nil .nil) (.num 4))), .i .u8 (.wr .u8 (.c2 .rd (.fn 13 xPkOff0 .nil .nil) (.num 5))), .i .u8 (.wr .u8 (.c2 .rd (.fn 13 xPkOff0 .nil .nil) (.num 6))), .i .u8 (.wr .u8 (.c2 .rd (.fn 13 xPkOff0 .nil .nil) (.num 7))), .i .u8 (.wr .u8 (.c2 .rd (.fn 13 xPkOff0 .nil .nil) (.num 8))), .i .u8 (.wr .u8 (.c2 .rd (.fn 13 xPkOff0 .nil .nil) (.num 9))), .i .u8 (.wr .u8 (.c2 .rd (.fn 13 xPkOff0 .nil .nil) (.num 10))), .i .u8 (.wr .u8 (.c2 .rd (.fn 13 xPkOff0 .nil .nil) (.num 11))), .i .u8 (.num 0), .i .u32 (.num 0), .i .u8 (.num 0), .i .u8 (.num 0), .i .u8 (.num 0), .i .u8 (.num 0), .i .u8 (.num 0), .i .u8 (.num 0), .i .u8 (.num 0), .i .u8 (.num 0), .i .u8 (.num 0), .i .u8 (.num 0), .i .u8 (.num 0), .i .u8 (.num 0), .i .u8 (.num 0), .i .u8 (.num 0), .i .u8 (.num 0), .i .u8 (.num 0), .i .u8 (.num 0), .i .u8 (.num 0), .i .u8 (.num 0), .i .u8 (.num 0), .i .u8 (.num 0), .i .u8 (.num 0), .i .u8 (.num 0), .i .u8 (.num 0), .i .u8 (.num 0), .i .u8 (.num 0), .i .u8 (.num 0), .i .u8 (.num 0), .i .u8 (.num 0), .i .u8 (.num 0), .i .u8 (.num 0), .i .u8 (.num 0), .i .u8 (.num 0), .i .u8 (.num 0), .i .u16 (.num 0), .i .u16 (.num 0), .i .u32 (.num 0), .i .u32 (.num 0), .i .u8 (.num 0), .i .u16 (.num 0), .i .u16 (.num 0), .i .u16 (.num 0)], .c (.i .i64 (.num 0))], ⟨[], [(0, some ⟨true, .cells [.b (.bol true), .s 1 1 0 (.num 0) (.c1 .len (.var 0)), .i .i64 (.c2 .sub (.var 1) (.num (-20))), .i .i64 (.var 2), .i .i64 (.c2 .add (.var 3) (.num 1))]⟩), (1, some ⟨true, .row [.u8] (.spl (.var 0) (.c2 .sub (.var 1) (.num (-20))) (.c2 .rep (.c2 .sub xPkOff4 (.c2 .sub (.var 1) (.num (-20)))) (.cons (.num 0) .nil)))⟩)], 78, 5, []⟩))))))))
 (.split (.c2 .eq (.var 4) (.num 4))
 (.chk (.c2 .eq (.c2 .sub (.var 2) (.var 1)) (.c1 .len xPkOff0))
 (.chk (.c1 (.kin [.u8]) xPkOff0)
 (.split (.c1 .not (.c2 .eq (.fn 24 xPkOff0 .nil .nil) (.num 0)))
 (.ret (.t [.g [.i .u8 (.num 0), .i .u8 (.num 0), .i .u8 (.num 0), .i .u8 (.num 0), .i .u8 (.num 0), .i .u8 (.num 0), .i .u8 (.num 0), .i .u8 (.num 0), .i .u8 (.num 0), .i .u8 (.num 0), .i .u8 (.num 0), .i .u8 (.num 0), .i .u8 (.num 0), .i .u16 (.num 0), .i .u8 (.num 0), .i .u16 (.num 0), .i .u16 (.num 0), .i .u8 (.num 0), .i .u8 (.num 0), .i .u8 (.num 0), .i .u16 (.num 0), .i .u8 (.num 0), .i .u8 (.num 0), .i .u8 (.num 0), .i .u8 (.num 0), .i .u8 (.num 0), .i .u8 (.num 0), .i .u8 (.num 0), .i .u8 (.num 0), .i .u8 (.num 0), .i .u32 (.num 0), .i .u8 (.num 0), .i .u8 (.num 0), .i .u8 (.num 0), .i .u8 (.num 0), .i .u8 (.num 0), .i .u8 (.num 0), .i .u8 (.num 0), .i .u8 (.num 0), .i .u8 (.num 0), .i .u8 (.num 0), .i .u8 (.num 0), .i .u8 (.num 0), .i .u8 (.num 0), .i .u8 (.num 0), .i .u8 (.num 0), .i .u8 (.num 0), .i .u8 (.num 0), .i .u8 (.num 0), .i .u8 (.num 0), .i .u8 (.num 0), .i .u8 (.num 0), .i .u8 (.num 0), .i .u8 (.num 0), .i .u8 (.num 0), .i .u8 (.num 0), .i .u8 (.num 0), .i .u8 (.num 0), .i .u8 (.num 0), .i .u8 (.num 0), .i .u8 (.num 0), .i .u8 (.num 0), .i .u8 (.num 0), .i .u8 (.num 0), .i .u8 (.num 0), .i .u16 (.num 0), .i .u16 (.num 0), .i .u32 (.num 0), .i .u32 (.num 0), .i .u8 (.num 0), .i .u16 (.num 0), .i .u16 (.num 0), .i .u16 (.num 0)], .c (.i .i64 (.fn 24 xPkOff0 .nil .nil))], ⟨[], [], 78, 5, []⟩))
 (.split (.c2 .lt (.num (-40)) (.c2 .sub (.num 0) (.c2 .sub (.var 2) (.var 1))))
 (.ret (.t [.g [.i .u8 (.var 4), .i .u8 (.num 0), .i .u8 (.num 0), .i .u8 (.num 0), .i .u8 (.num 0), .i .u8 (.num 0), .i .u8 (.num 0), .i .u8 (.num 0), .i .u8 (.num 0), .i .u8 (.num 0), .i .u8 (.num 0), .i .u8 (.num 0), .i .u8 (.num 0), .i .u16 (.num 0), .i .u8 (.num 0), .i .u16 (.num 0), .i .u16 (.num 0), .i .u8 (.num 0), .i .u8 (.num 0), .i .u8 (.num 0), .i .u16 (.num 0), .i .u8 (.num 0), .i .u8 (.num 0), .i .u8 (.num 0), .i .u8 (.num 0), .i .u8 (.num 0), .i .u8 (.num 0), .i .u8 (.num 0), .i .u8 (.num 0), .i .u8 (.wr .u8 (.c2 .rd (.fn 14 xPkOff0 .nil .nil) (.num 0))), .i .u32 (.wr .u32 (.c2 .rd (.fn 14 xPkOff0 .nil .nil) (.num 1))), .i .u8 (.wr .u8 (.c2 .rd (.fn 14 xPkOff0 .nil .nil) (.num 2))), .i .u8 (.wr .u8 (.c2 .rd (.fn 14 xPkOff0 .nil .nil) (.num 3))), .i .u8 (.wr .u8 (.c2 .rd (.fn 14 xPkOff0 .nil .nil) (.num 4))), .i .u8 (.wr .u8 (.c2 .rd (.fn 14 xPkOff0 .nil .nil) (.num 5))), .i .u8 (.wr .u8 (.c2 .rd (.fn 14 xPkOff0 .nil .nil) (.num 6))), .i .u8 (.wr .u8 (.c2 .rd (.fn 14 xPkOff0 .nil .nil) (.num 7))), .i .u8 (.wr .u8 (.c2 .rd (.fn 14 xPkOff0 .nil .nil) (.num 8))), .i .u8 (.wr .u8 (.c2 .rd (.fn 14 xPkOff0 .nil .nil) (.num 9))), .i .u8 (.wr .u8 (.c2 .rd (.fn 14 xPkOff0 .nil .nil) (.num 10))), .i .u8 (.wr .u8 (.c2 .rd (.fn 14 xPkOff0 .nil .nil) (.num 11))), .i .u8 (.wr .u8 (.c2 .rd (.fn 14 xPkOff0 .nil .nil) (.num 12))), .i .u8 (.wr .u8 (.c2 .rd (.fn 14 xPkOff0 .nil .nil) (.num 13))), .i .u8 (.wr .u8 (.c2 .rd (.fn 14 xPkOff0 .nil .nil) (.num 14))), .i .u8 (.wr .u8 (.c2 .rd (.fn 14 xPkOff0 .nil .nil) (.num 15))), .i .u8 (.wr .u8 (.c2 .rd (.fn 14 xPkOff0 .nil .nil) (.num 16))), .i .u8 (.wr .u8 (.c2 .rd (.fn 14 xPkOff0 .nil .nil) (.num 17))), .i .u8 (.wr .u8 (.c2 .rd (.fn 14 xPkOff0 .nil .nil) (.num 18))), .i .u8 (.wr .u8 (.c2 .rd (.fn 14 xPkOff0 .nil .nil) (.num 19))), .i .u8 (.wr .u8 (.c2 .rd (.fn 14 xPkOff0 .nil .nil) (.num 20))), .i .u8 (.wr .u8 (.c2 .rd (.fn 14 xPkOff0 .nil .nil) (.num 21))), .i .u8 (.wr .u8 (.c2 .rd (.fn 14 xPkOff0 .nil .nil) (.num 22))), .i .u8 (.wr .u8 (.c2 .rd (.fn 14 xPkOff0 .nil .nil) (.num 23))), .i .u8 (.wr .u8 (.c2 .rd (.fn 14 xPkOff0 .nil .nil) (.num 24))), .i .u8 (.wr .u8 (.c2 .rd (.fn 14 xPkOff0 .nil .nil) (.num 25))), .i .u8 (.wr .u8 (.c2 .rd (.fn 14 xPkOff0 .nil .nil) (.num 26))), .i .u8 (.wr .u8 (.c2 .rd (.fn 14 xPkOff0 .nil .nil) (.num 27))), .i .u8 (.wr .u8 (.c2 .rd (.fn 14 xPkOff0 .nil .nil) (.num 28))), .i .u8 (.wr .u8 (.c2 .rd (.fn 14 xPkOff0 .nil .nil) (.num 29))), .i .u8 (.wr .u8 (.c2 .rd (.fn 14 xPkOff0 .nil .nil) (.num 30))), .i .u8 (.wr .u8 (.c2 .rd (.fn 14 xPkOff0 .nil .nil) (.num 31))), .i .u8 (.wr .u8 (.c2 .rd (.fn 14 xPkOff0 .nil .nil) (.num 32))), .i .u8 (.wr .u8 (.c2 .rd (.fn 14 xPkOff0 .nil .nil) (.num 33))), .i .u8 (.wr .u8 (.c2 .rd (.fn 14 xPkOff0 .nil .nil) (.num 34))), .i .u8 (.wr .u8 (.c2 .rd (.fn 14 xPkOff0 .nil .nil) (.num 35))), .i .u16 (.num 0), .i .u16 (.num 0), .i .u32 (.num 0), .i .u32 (.num 0), .i .u8 (.num 0), .i .u16 (.num 0), .i .u16 (.num 0), .i .u16 (.num 0)], .c (.i .i64 (.num 6))], ⟨[], [], 78, 5, []⟩))
 (.chk (.c2 .le (.c2 .sub (.var 1) (.num (-40))) xPkOff5)
 (.chk (.c2 .le xPkOff5 (.c1 .len (.var 0)))
 (.ret (.t [.g [.i .u8 (.var 4), .i .u8 (.num 0), .i .u8 (.num 0), .i .u8 (.num 0), .i .u8 (.num 0), .i .u8 (.num 0), .i .u8 (.num 0), .i .u8 (.num 0), .i .u8 (.num 0), .i .u8 (.num 0), .i .u8 (.num 0), .i .u8 (.num 0), .i .u8 (.num 0), .i .u16 (.num 0), .i .u8 (.num 0), .i .u16 (.num 0), .i .u16 (.num 0), .i .u8 (.num 0), .i .u8 (.num 0), .i .u8 (.num 0), .i .u16 (.num 0), .i .u8 (.num 0), .i .u8 (.num 0), .i .u8 (.num 0), .i .u8 (.num 0), .i .u8 (.num 0), .i .u8 (.num 0), .i .u8 (.num 0), .i .u8 (.num 0), .i .u8 (.wr .u8 (.c2 .rd (.fn 14 xPkOff0 .nil .nil) (.num 0))), .i .u32 (.wr .u32 (.c2 .rd (.fn 14 xPkOff0 .nil .nil) (.num 1))), .i .u8 (.wr .u8 (.c2 .rd (.fn 14 xPkOff0 .nil .nil) (.num 2))), .i .u8 (.wr .u8 (.c2 .rd (.fn 14 xPkOff0 .nil .nil) (.num 3))), .i .u8 (.wr .u8 (.c2 .rd (.fn 14 xPkOff0 .nil .nil) (.num 4))), .i .u8 (.wr .u8 (.c2 .rd (.fn 14 xPkOff0 .nil .nil) (.num 5))), .i .u8 (.wr .u8 (.c2 .rd (.fn 14 xPkOff0 .nil .nil) (.num 6))), .i .u8 (.wr .u8 (.c2 .rd (.fn 14 xPkOff0 .nil .nil) (.num 7))), .i .u8 (.wr .u8 (.c2 .rd (.fn 14 xPkOff0 .nil .nil) (.num 8))), .i .u8 (.wr .u8 (.c2 .rd (.fn 14 xPkOff0 .nil .nil) (.num 9))), .i .u8 (.wr .u8 (.c2 .rd (.fn 14 xPkOff0 .nil .nil) (.num 10))), .i .u8 (.wr .u8 (.c2 .rd (.fn 14 xPkOff0 .nil .nil) (.num 11))), .i .u8 (.wr .u8 (.c2 .rd (.fn 14 xPkOff0 .nil .nil) (.num 12))), .i .u8 (.wr .u8 (.c2 .rd (.fn 14 xPkOff0 .nil .nil) (.num 13))), .i .u8 (.wr .u8 (.c2 .rd (.fn 14 xPkOff0 .nil .nil) (.num 14))), .i .u8 (.wr .u8 (.c2 .rd (.fn 14 xPkOff0 .nil .nil) (.num 15))), .i .u8 (.wr .u8 (.c2 .rd (.fn 14 xPkOff0 .nil .nil) (.num 16))), .i .u8 (.wr .u8 (.c2 .rd (.fn 14 xPkOff0 .nil .nil) (.num 17))), .i .u8 (.wr .u8 (.c2 .rd (.fn 14 xPkOff0 .nil .nil) (.num 18))), .i .u8 (.wr .u8 (.c2 .rd (.fn 14 xPkOff0 .nil .nil) (.num 19))), .i .u8 (.wr .u8 (.c2 .rd (.fn 14 xPkOff0 .nil .nil) (.num 20))), .i .u8 (.wr .u8 (.c2 .rd (.fn 14 xPkOff0 .nil .nil) (.num 21))), .i .u8 (.wr .u8 (.c2 .rd (.fn 14 xPkOff0 .nil .nil) (.num 22))), .i .u8 (.wr .u8 (.c2 .rd (.fn 14 xPkOff0 .nil .nil) (.num 23))), .i .u8 (.wr .u8 (.c2 .rd (.fn 14 xPkOff0 .nil .nil) (.num 24))), .i .u8 (.wr .u8 (.c2 .rd (.fn 14 xPkOff0 .nil .nil) (.num 25))), .i .u8 (.wr .u8 (.c2 .rd (.fn 14 xPkOff0 .nil .nil) (.num 26))), .i .u8 (.wr .u8 (.c2 .rd (.fn 14 xPkOff0 .nil .nil) (.num 27))), .i .u8 (.wr .u8 (.c2 .rd (.fn 14 xPkOff0 .nil .nil) (.num 28))), .i .u8 (.wr .u8 (.c2 .rd (.fn 14 xPkOff0 .nil .nil) (.num 29))), .i .u8 (.wr .u8 (.c2 .rd (.fn 14 xPkOff0 .nil .nil) (.num 30))), .i .u8 (.wr .u8 (.c2 .rd (.fn 14 xPkOff0 .nil .nil) (.num 31))), .i .u8 (.wr .u8 (.c2 .rd (.fn 14 xPkOff0 .nil .nil) (.num 32))), .i .u8 (.wr .u8 (.c2 .rd (.fn 14 xPkOff0 .nil .nil) (.num 33))), .i .u8 (.wr .u8 (.c2 .rd (.fn 14 xPkOff0 .nil .nil) (.num 34))), .i .u8 (.wr .u8 (.c2 .rd (.fn 14 xPkOff0 .nil .nil) (.num 35))), .i .u16 (.num 0), .i .u16 (.num 0), .i .u32 (.num 0), .i .u32 (.num 0), .i .u8 (.num 0), .i .u16 (.num 0), .i .u16 (.num 0), .i .u16 (.num 0)], .c (.i .i64 (.num 0))], ⟨[], [(0, some ⟨true, .cells [.b (.bol true), .s 1 1 0 (.num 0) (.c1 .len (.var 0)), .i .i64 (.c2 .sub (.var 1) (.num (-40))), .i .i64 (.var 2), .i .i64 (.c2 .add (.var 3) (.num 1))]⟩), (1, some ⟨true, .row [.u8] (.spl (.var 0) (.c2 .sub (.var 1) (.num (-40))) (.c2 .rep (.c2 .sub xPkOff5 (.c2 .sub (.var 1) (.num (-40)))) (.cons (.num 0) .nil)))⟩)], 78, 5, []⟩))))))))
 (.split (.c2 .eq (.var 4) (.num 5))
 (.chk (.c2 .eq (.c2 .sub (.var 2) (.var 1)) (.c1 .len xPkOff0))
 (.chk (.c1 (.kin [.u8]) xPkOff0)
 (.split (.c1 .not (.c2 .eq (.fn 25 xPkOff0 .nil .nil) (.num 0)))
 (.ret (.t [.g [.i .u8 (.num 0), .i .u8 (.num 0), .i .u8 (.num 0), .i .u8 (.num 0), .i .u8 (.num 0), .i .u8 (.num 0), .i .u8 (.num 0), .i .u8 (.num 0), .i .u8 (.num 0), .i .u8 (.num 0), .i .u8 (.num 0), .i .u8 (.num 0), .i .u8 (.num 0), .i .u16 (.num 0), .i .u8 (.num 0), .i .u16 (.num 0), .i .u16 (.num 0), .i .u8 (.num 0), .i .u8 (.num 0), .i .u8 (.num 0), .i .u16 (.num 0), .i .u8 (.num 0), .i .u8 (.num 0), .i .u8 (.num 0), .i .u8 (.num 0), .i .u8 (.num 0), .i .u8 (.num 0), .i .u8 (.num 0), .i .u8 (.num 0), .i .u8 (.num 0), .i .u32 (.num 0), .i .u8 (.num 0), .i .u8 (.num 0), .i .u8 (.num 0), .i .u8 (.num 0), .i .u8 (.num 0), .i .u8 (.num 0), .i .u8 (.num 0), .i .u8 (.num 0), .i .u8 (.num 0), .i .u8 (.num 0), .i .u8 (.num 0), .i .u8 (.num 0), .i .u8 (.num 0), .i .u8 (.num 0), .i .u8 (.num 0), .i .u8 (.num 0), .i .u8 (.num 0), .i .u8 (.num 0), .i .u8 (.num 0), .i .u8 (.num 0), .i .u8 (.num 0), .i .u8 (.num 0), .i .u8 (.num 0), .i .u8 (.num 0), .i .u8 (.num 0), .i .u8 (.num 0), .i .u8 (.num 0), .i .u8 (.num 0), .i .u8 (.num 0), .i .u8 (.num 0), .i .u8 (.num 0), .i .u8 (.num 0), .i .u8 (.num 0), .i .u8 (.num 0), .i .u16 (.num 0), .i .u16 (.num 0), .i .u32 (.num 0), .i .u32 (.num 0), .i .u8 (.num 0), .i .u16 (.num 0), .i .u16 (.num 0), .i .u16 (.num 0)], .c (.i .i64 (.fn 25 xPkOff0 .nil .nil))], ⟨[], [], 78, 5, []⟩))
 (.split xPkOff3
 (.ret (.t [.g [.i .u8 (.var 4), .i .u8 (.num 0), .i .u8 (.num 0), .i .u8 (.num 0), .i .u8 (.num 0), .i .u8 (.num 0), .i .u8 (.num 0), .i .u8 (.num 0), .i .u8 (.num 0), .i .u8 (.num 0), .i .u8 (.num 0), .i .u8 (.num 0), .i .u8 (.num 0), .i .u16 (.num 0), .i .u8 (.num 0), .i .u16 (.num 0), .i .u16 (.num 0), .i .u8 (.num 0), .i .u8 (.num 0), .i .u8 (.num 0), .i .u16 (.num 0), .i .u8 (.num 0), .i .u8 (.num 0), .i .u8 (.num 0), .i .u8 (.num 0), .i .u8 (.num 0), .i .u8 (.num 0), .i .u8 (.num 0), .i .u8 (.num 0), .i .u8 (.num 0), .i .u32 (.num 0), .i .u8 (.num 0), .i .u8 (.num 0), .i .u8 (.num 0), .i .u8 (.num 0), .i .u8 (.num 0), .i .u8 (.num 0), .i .u8 (.num 0), .i .u8 (.num 0), .i .u8 (.num 0), .i .u8 (.num 0), .i .u8 (.num 0), .i .u8 (.num 0), .i .u8 (.num 0), .i .u8 (.num 0), .i .u8 (.num 0), .i .u8 (.num 0), .i .u8 (.num 0), .i .u8 (.num 0), .i .u8 (.num 0), .i .u8 (.num 0), .i .u8 (.num 0), .i .u8 (.num 0), .i .u8 (.num 0), .i .u8 (.num 0), .i .u8 (.num 0), .i .u8 (.num 0), .i .u8 (.num 0), .i .u8 (.num 0), .i .u8 (.num 0), .i .u8 (.num 0), .i .u8 (.num 0), .i .u8 (.num 0), .i .u8 (.num 0), .i .u8 (.num 0), .i .u16 (.wr .u16 (.c2 .rd (.fn 15 xPkOff0 .nil .nil) (.num 0))), .i .u16 (.wr .u16 (.c2 .rd (.fn 15 xPkOff0 .nil .nil) (.num 1))), .i .u32 (.wr .u32 (.c2 .rd (.fn 15 xPkOff0 .nil .nil) (.num 2))), .i .u32 (.wr .u32 (.c2 .rd (.fn 15 xPkOff0 .nil .nil) (.num 3))), .i .u8 (.wr .u8 (.c2 .rd (.fn 15 xPkOff0 .nil .nil) (.num 4))), .i .u16 (.wr .u16 (.c2 .rd (.fn 15 xPkOff0 .nil .nil) (.num 5))), .i .u16 (.num 0), .i .u16 (.num 0)], .c (.i .i64 (.num 6))], ⟨[], [], 78, 5, []⟩))
 (.chk (.c2 .le (.c2 .sub (.var 1) (.num (-20))) xPkOff4)
 (.chk (.c2 .le xPkOff4 (.c1 .len (.var 0)))
 (.ret (.t [.g [.i .u8 (.var 4), .i .u8 (.num 0), .i .u8 (.num 0), .i .u8 (.num 0), .i .u8 (.num 0), .i .u8 (.num 0), .i .u8 (.num 0), .i .u8 (.num 0), .i .u8 (.num 0), .i .u8 (.num 0), .i .u8 (.num 0), .i .u8 (.num 0), .i .u8 (.num 0), .i .u16 (.num 0), .i .u8 (.num 0), .i .u16 (.num 0), .i .u16 (.num 0), .i .u8 (.num 0), .i .u8 (.num 0), .i .u8 (.num 0), .i .u16 (.num 0), .i .u8 (.num 0), .i .u8 (.num 0), .i .u8 (.num 0), .i .u8 (.num 0), .i .u8 (.num 0), .i .u8 (.num 0), .i .u8 (.num 0), .i .u8 (.num 0), .i .u8 (.num 0), .i .u32 (.num 0), .i .u8 (.num 0), .i .u8 (.num 0), .i .u8 (.num 0), .i .u8 (.num 0), .i .u8 (.num 0), .i .u8 (.num 0), .i .u8 (.num 0), .i .u8 (.num 0), .i .u8 (.num 0), .i .u8 (.num 0), .i .u8 (.num 0), .i .u8 (.num 0), .i .u8 (.num 0), .i .u8 (.num 0), .i .u8 (.num 0), .i .u8 (.num 0), .i .u8 (.num 0), .i .u8 (.num 0), .i .u8 (.num 0), .i .u8 (.num 0), .i .u8 (.num 0), .i .u8 (.num 0), .i .u8 (.num 0), .i .u8 (.num 0), .i .u8 (.num 0), .i .u8 (.num 0), .i .u8 (.num 0), .i .u8 (.num 0), .i .u8 (.num 0), .i .u8 (.num 0), .i .u8 (.num 0), .i .u8 (.num 0), .i .u8 (.num 0), .i .u8 (.num 0), .i .u16 (.wr .u16 (.c2 .rd (.fn 15 xPkOff0 .nil .nil) (.num 0))), .i .u16 (.wr .u16 (.c2 .rd (.fn 15 xPkOff0 .nil .nil) (.num 1))), .i .u32 (.wr .u32 (.c2 .rd (.fn 15 xPkOff0 .nil .nil) (.num 2))), .i .u32 (.wr .u32 (.c2 .rd (.fn 15 xPkOff0 .nil .nil) (.num 3))), .i .u8 (.wr .u8 (.c2 .rd (.fn 15 xPkOff0 .nil .nil) (.num 4))), .i .u16 (.wr .u16 (.c2 .rd (.fn 15 xPkOff0 .nil .nil) (.num 5))), .i .u16 (.num 0), .i .u16 (.num 0)], .c (.i .i64 (.num 0))], ⟨[], [(0, some ⟨true, .cells [.b (.bol true), .s 1 1 0 (.num 0) (.c1 .len (.var 0)), .i .i64 (.c2 .sub (.var 1) (.num (-20))), .i .i64 (.var 2), .i .i64 (.c2 .add (.var 3) (.num 1))]⟩), (1, some ⟨true, .row [.u8] (.spl (.var 0) (.c2 .sub (.var 1) (.num (-20))) (.c2 .rep (.c2 .sub xPkOff4 (.c2 .sub (.var 1) (.num (-20)))) (.cons (.num 0) .nil)))⟩)], 78, 5, []⟩))))))))
 (.split (.c2 .eq (.var 4) (.num 6))
 (.chk (.c2 .eq (.c2 .sub (.var 2) (.var 1)) (.c1 .len xPkOff0))
 (.chk (.c1 (.kin [.u8]) xPkOff0)
 (.split (.c1 .not (.c2 .eq (.fn 26 xPkOff0 .nil .nil) (.num 0)))
 (.ret (.t [.g [.i .u8 (.num 0), .i .u8 (.num 0), .i .u8 (.num 0), .i .u8 (.num 0), .i .u8 (.num 0), .i .u8 (.num 0), .i .u8 (.num 0), .i .u8 (.num 0), .i .u8 (.num 0), .i .u8 (.num 0), .i .u8 (.num 0), .i .u8 (.num 0), .i .u8 (.num 0), .i .u16 (.num 0), .i .u8 (.num 0), .i .u16 (.num 0), .i .u16 (.num 0), .i .u8 (.num 0), .i .u8 (.num 0), .i .u8 (.num 0), .i .u16 (.num 0), .i .u8 (.num 0), .i .u8 (.num 0), .i .u8 (.num 0), .i .u8 (.num 0), .i .u8 (.num 0), .i .u8 (.num 0), .i .u8 (.num 0), .i .u8 (.num 0), .i .u8 (.num 0), .i .u32 (.num 0), .i .u8 (.num 0), .i .u8 (.num 0), .i .u8 (.num 0), .i .u8 (.num 0), .i .u8 (.num 0), .i .u8 (.num 0), .i .u8 (.num 0), .i .u8 (.num 0), .i .u8 (.num 0), .i .u8 (.num 0), .i .u8 (.num 0), .i .u8 (.num 0), .i .u8 (.num 0), .i .u8 (.num 0), .i .u8 (.num 0), .i .u8 (.num 0), .i .u8 (.num 0), .i .u8 (.num 0), .i .u8 (.num 0), .i .u8 (.num 0), .i .u8 (.num 0), .i .u8 (.num 0), .i .u8 (.num 0), .i .u8 (.num 0), .i .u8 (.num 0), .i .u8 (.num 0), .i .u8 (.num 0), .i .u8 (.num 0), .i .u8 (.num 0), .i .u8 (.num 0), .i .u8 (.num 0), .i .u8 (.num 0), .i .u8 (.num 0), .i .u8 (.num 0), .i .u16 (.num 0), .i .u16 (.num 0), .i .u32 (.num 0), .i .u32 (.num 0), .i .u8 (.num 0), .i .u16 (.num 0), .i .u16 (.num 0), .i .u16 (.num 0)], .c (.i .i64 (.fn 26 xPkOff0 .nil .nil))], ⟨[], [], 78, 5, []⟩))
 (.split (.c2 .lt (.num (-8)) (.c2 .sub (.num 0) (.c2 .sub (.var 2) (.var 1))))
 (.ret (.t [.g [.i .u8 (.var 4), .i .u8 (.num 0), .i .u8 (.num 0), .i .u8 (.num 0), .i .u8 (.num 0), .i .u8 (.num 0), .i .u8 (.num 0), .i .u8 (.num 0), .i .u8 (.num 0), .i .u8 (.num 0), .i .u8 (.num 0), .i .u8 (.num 0), .i .u8 (.num 0), .i .u16 (.num 0), .i .u8 (.num 0), .i .u16 (.num 0), .i .u16 (.num 0), .i .u8 (.num 0), .i .u8 (.num 0), .i .u8 (.num 0), .i .u16 (.num 0), .i .u8 (.num 0), .i .u8 (.num 0), .i .u8 (.num 0), .i .u8 (.num 0), .i .u8 (.num 0), .i .u8 (.num 0), .i .u8 (.num 0), .i .u8 (.num 0), .i .u8 (.num 0), .i .u32 (.num 0), .i .u8 (.num 0), .i .u8 (.num 0), .i .u8 (.num 0), .i .u8 (.num 0), .i .u8 (.num 0), .i .u8 (.num 0), .i .u8 (.num 0), .i .u8 (.num 0), .i .u8 (.num 0), .i .u8 (.num 0), .i .u8 (.num 0), .i .u8 (.num 0), .i .u8 (.num 0), .i .u8 (.num 0), .i .u8 (.num 0), .i .u8 (.num 0), .i .u8 (.num 0), .i .u8 (.num 0), .i .u8 (.num 0), .i .u8 (.num 0), .i .u8 (.num 0), .i .u8 (.num 0), .i .u8 (.num 0), .i .u8 (.num 0), .i .u8 (.num 0), .i .u8 (.num 0), .i .u8 (.num 0), .i .u8 (.num 0), .i .u8 (.num 0), .i .u8 (.num 0), .i .u8 (.num 0), .i .u8 (.num 0), .i .u8 (.num 0), .i .u8 (.num 0), .i .u16 (.num 0), .i .u16 (.num 0), .i .u32 (.num 0), .i .u32 (.num 0), .i .u8 (.num 0), .i .u16 (.num 0), .i .u16 (.wr .u16 (.c2 .rd (.fn 16 xPkOff0 .nil .nil) (.num 0))), .i .u16 (.wr .u16 (.c2 .rd (.fn 16 xPkOff0 .nil .nil) (.num 1)))], .c (.i .i64 (.num 6))], ⟨[], [], 78, 5, []⟩))
 (.chk (.c2 .le (.c2 .sub (.var 1) (.num (-8))) xPkOff6)
 (.chk (.c2 .le xPkOff6 (.c1 .len (.var 0)))
 (.ret (.t [.g [.i .u8 (.var 4), .i .u8 (.num 0), .i .u8 (.num 0), .i .u8 (.num 0), .i .u8 (.num 0), .i .u8 (.num 0), .i .u8 (.num 0), .i .u8 (.num 0), .i .u8 (.num 0), .i .u8 (.num 0), .i .u8 (.num 0), .i .u8 (.num 0), .i .u8 (.num 0), .i .u16 (.num 0), .i .u8 (.num 0), .i .u16 (.num 0), .i .u16 (.num 0), .i .u8 (.num 0), .i .u8 (.num 0), .i .u8 (.num 0), .i .u16 (.num 0), .i .u8 (.num 0), .i .u8 (.num 0), .i .u8 (.num 0), .i .u8 (.num 0), .i .u8 (.num 0), .i .u8 (.num 0), .i .u8 (.num 0), .i .u8 (.num 0), .i .u8 (.num 0), .i .u32 (.num 0), .i .u8 (.num 0), .i .u8 (.num 0), .i .u8 (.num 0), .i .u8 (.num 0), .i .u8 (.num 0), .i .u8 (.num 0), .i .u8 (.num 0), .i .u8 (.num 0), .i .u8 (.num 0), .i .u8 (.num 0), .i .u8 (.num 0), .i .u8 (.num 0), .i .u8 (.num 0), .i .u8 (.num 0), .i .u8 (.num 0), .i .u8 (.num 0), .i .u8 (.num 0), .i .u8 (.num 0), .i .u8 (.num 0), .i .u8 (.num 0), .i .u8 (.num 0), .i .u8 (.num 0), .i .u8 (.num 0), .i .u8 (.num 0), .i .u8 (.num 0), .i .u8 (.num 0), .i .u8 (.num 0), .i .u8 (.num 0), .i .u8 (.num 0), .i .u8 (.num 0), .i .u8 (.num 0), .i .u8 (.num 0), .i .u8 (.num 0), .i .u8 (.num 0), .i .u16 (.num 0), .i .u16 (.num 0), .i .u32 (.num 0), .i .u32 (.num 0), .i .u8 (.num 0), .i .u16 (.num 0), .i .u16 (.wr .u16 (.c2 .rd (.fn 16 xPkOff0 .nil .nil) (.num 0))), .i .u16 (.wr .u16 (.c2 .rd (.fn 16 xPkOff0 .nil .nil) (.num 1)))], .c (.i .i64 (.num 0))], ⟨[], [(0, some ⟨true, .cells [.b (.bol true), .s 1 1 0 (.num 0) (.c1 .len (.var 0)), .i .i64 (.c2 .sub (.var 1) (.num (-8))), .i .i64 (.var 2), .i .i64 (.c2 .add (.var 3) (.num 1))]⟩), (1, some ⟨true, .row [.u8] (.spl (.var 0) (.c2 .sub (.var 1) (.num (-8))) (.c2 .rep (.c2 .sub xPkOff6 (.c2 .sub (.var 1) (.num (-8)))) (.cons (.num 0) .nil)))⟩)], 78, 5, []⟩))))))))
 (.fail 11)))))))))
theorem treePkOff_is : funTree (ctxN Go.Proofs.Tryz.prog annsPk consOn 8) annsPk 10 tOff.vs tOff.bs tOff.n (preF tOff.res) = treePkOff := by kernel_rfl
end Go.Proofs.YtfhjlimdakphcaaGreat.Sx
set_option maxRecDepth 100000
namespace Go.Proofs.YtfhjlimdakphcaaGreat.Sx
open Go
def xPkOn0 : T := (.c2 .and (.c2 .eq (.num 0) (.var 75)) (.c2 .eq (.num 0) (.var 76)))
def xPkOn1 : T := (.c2 .and (.c2 .eq (.num 0) (.var 69)) (.c2 .and (.c2 .eq (.num 0) (.var 70)) (.c2 .and (.c2 .eq (.num 0) (.var 71)) (.c2 .and (.c2 .eq (.num 0) (.var 72)) (.c2 .and (.c2 .eq (.num 0) (.var 73)) (.c2 .and (.c2 .eq (.num 0) (.var 74)) xPkOn0))))))
def xPkOn2 : T := (.c2 .and (.c2 .eq (.num 0) (.var 33)) (.c2 .and (.c2 .eq (.num 0) (.var 34)) (.c2 .and (.c2 .eq (.num 0) (.var 35)) (.c2 .and (.c2 .eq (.num 0) (.var 36)) (.c2 .and (.c2 .eq (.num 0) (.var 37)) (.c2 .and (.c2 .eq (.num 0) (.var 38)) (.c2 .and (.c2 .eq (.num 0) (.var 39)) (.c2 .and (.c2 .eq (.num 0) (.var 40)) (.c2 .and (.c2 .eq (.num 0) (.var 41)) (.c2 .and (.c2 .eq (.num 0) (.var 42)) (.c2 .and (.c2 .eq (.num 0) (.var 43)) (.c2 .and (.c2 .eq (.num 0) (.var 44)) (.c2 .and (.c2 .eq (.num 0) (.var 45)) (.c2 .and (.c2 .eq (.num 0) (.var 46)) (.c2 .and (.c2 .eq (.num 0) (.var 47)) (.c2 .and (.c2 .eq (.num 0) (.var 48)) (.c2 .and (.c2 .eq (.num 0) (.var 49)) (.c2 .and (.c2 .eq (.num 0) (.var 50)) (.c2 .and (.c2 .eq (.num 0) (.var 51)) (.c2 .and (.c2 .eq (.num 0) (.var 52)) (.c2 .and (.c2 .eq (.num 0) (.var 53)) (.c2 .and (.c2 .eq (.num 0) (.var 54)) (.c2 .and (.c2 .eq (.num 0) (.var 55)) (.c2 .and (.c2 .eq (.num 0) (.var 56)) (.c2 .and (.c2 .eq (.num 0) (.var 57)) (.c2 .and (.c2 .eq (.num 0) (.var 58)) (.c2 .and (.c2 .eq (.num 0) (.var 59)) (.c2 .and (.c2 .eq (.num 0) (.var 60)) (.c2 .and (.c2 .eq (.num 0) (.var 61)) (.c2 .and (.c2 .eq (.num 0) (.var 62)) (.c2 .and (.c2 .eq (.num 0) (.var 63)) (.c2 .and (.c2 .eq (.num 0) (.var 64)) (.c2 .and (.c2 .eq (.num 0) (.var 65)) (.c2 .and (.c2 .eq (.num 0) (.var 66)) (.c2 .and (.c2 .eq (.num 0) (.var 67)) (.c2 .and (.c2 .eq (.num 0) (.var 68)) xPkOn1))))))))))))))))))))))))))))))))))))
def xPkOn3 : T := (.c2 .and (.c2 .eq (.num 0) (.var 21)) (.c2 .and (.c2 .eq (.num 0) (.var 22)) (.c2 .and (.c2 .eq (.num 0) (.var 23)) (.c2 .and (.c2 .eq (.num 0) (.var 24)) (.c2 .and (.c2 .eq (.num 0) (.var 25)) (.c2 .and (.c2 .eq (.num 0) (.var 26)) (.c2 .and (.c2 .eq (.num 0) (.var 27)) (.c2 .and (.c2 .eq (.num 0) (.var 28)) (.c2 .and (.c2 .eq (.num 0) (.var 29)) (.c2 .and (.c2 .eq (.num 0) (.var 30)) (.c2 .and (.c2 .eq (.num 0) (.var 31)) (.c2 .and (.c2 .eq (.num 0) (.var 32)) xPkOn2))))))))))))
def xPkOn5 : T := (.cons (.var 5) (.cons (.var 6) (.cons (.var 7) (.cons (.var 8) (.cons (.var 9) (.cons (.var 10) (.cons (.var 11) (.cons (.var 12) (.cons (.var 13) (.cons (.var 14) (.cons (.var 15) (.cons (.var 16) (.cons (.var 17) .nil)))))))))))))
def xPkOn6 : T := (.c2 .add (.c2 .add (.num 78) (.c2 .sub (.var 2) (.var 1))) (.num 64))
def xPkOn7 : T := (.wr .i64 (.c2 .add (.c2 .sub (.var 1) (.num 14)) (.c2 .mx (.num 14) (.num 0))))
def xPkOn8 : T := (.fn 42 (.cons (.var 18) (.cons (.var 19) (.cons (.var 20) .nil))) xPkOff0 .nil)
def xPkOn9 : T := (.fn 32 (.cons (.var 18) (.cons (.var 19) (.cons (.var 20) .nil))) xPkOff0 .nil)
def xPkOn10 : T := (.c2 .add (.c2 .add (.num 68) (.c2 .sub (.var 2) (.var 1))) (.num 64))
def xPkOn11 : T := (.wr .i64 (.c2 .add (.c2 .sub (.var 1) (.num 4)) (.c2 .mx (.num 4) (.num 0))))
def xPkOn12 : T := (.cons (.var 21) (.cons (.var 22) (.cons (.var 23) (.cons (.var 24) (.cons (.var 25) (.cons (.var 26) (.cons (.var 27) (.cons (.var 28) (.cons (.var 29) (.cons (.var 30) (.cons (.var 31) (.cons (.var 32) .nil))))))))))))
def xPkOn13 : T := (.c2 .lt (.c2 .sub (.num 2048) (.c2 .sub (.var 2) (.var 1))) (.num 20))
def xPkOn14 : T := (.c2 .add (.c2 .add (.num 84) (.c2 .sub (.var 2) (.var 1))) (.num 64))
def xPkOn15 : T := (.spl (.c2 .rep xPkOn14 (.cons (.num 0) .nil)) (.num 84) xPkOff0)
def xPkOn16 : T := (.wr .i64 (.c2 .add (.c2 .sub (.var 1) (.num 20)) (.c2 .mx (.num 20) (.num 0))))
def xPkOn17 : T := (.c2 .le (.c2 .add (.c2 .sub (.var 1) (.num 20)) (.num 20)) (.c1 .len (.var 0)))
def xPkOn18 : T := (.spl (.var 0) (.c2 .sub (.var 1) (.num 20)) (.c2 .rep (.c2 .sub xPkOn16 (.c2 .sub (.var 1) (.num 20))) (.cons (.num 0) .nil)))
def xPkOn19 : T := (.cons (.var 33) (.cons (.var 34) (.cons (.var 35) (.cons (.var 36) (.cons (.var 37) (.cons (.var 38) (.cons (.var 39) (.cons (.var 40) (.cons (.var 41) (.cons (.var 42) (.cons (.var 43) (.cons (.var 44) (.cons (.var 45) (.cons (.var 46) (.cons (.var 47) (.cons (.var 48) (.cons (.var 49) (.cons (.var 50) (.cons (.var 51) (.cons (.var 52) (.cons (.var 53) (.cons (.var 54) (.cons (.var 55) (.cons (.var 56) (.cons (.var 57) (.cons (.var 58) (.cons (.var 59) (.cons (.var 60) (.cons (.var 61) (.cons (.var 62) (.cons (.var 63) (.cons (.var 64) (.cons (.var 65) (.cons (.var 66) (.cons (.var 67) (.cons (.var 68) .nil))))))))))))))))))))))))))))))))))))
def xPkOn20 : T := (.c2 .add (.c2 .add (.num 104) (.c2 .sub (.var 2) (.var 1))) (.num 64))
def xPkOn21 : T := (.wr .i64 (.c2 .add (.c2 .sub (.var 1) (.num 40)) (.c2 .mx (.num 40) (.num 0))))
def xPkOn22 : T := (.cons (.var 69) (.cons (.var 70) (.cons (.var 71) (.cons (.var 72) (.cons (.var 73) (.cons (.var 74) .nil))))))
def xPkOn23 : T := (.fn 46 (.cons (.var 75) (.cons (.var 76) .nil)) xPkOff0 .nil)
def xPkOn24 : T := (.fn 36 (.cons (.var 75) (.cons (.var 76) .nil)) xPkOff0 .nil)
def xPkOn25 : T := (.c2 .add (.c2 .add (.num 72) (.c2 .sub (.var 2) (.var 1))) (.num 64))
def xPkOn26 : T := (.wr .i64 (.c2 .add (.c2 .sub (.var 1) (.num 8)) (.c2 .mx (.num 8) (.num 0))))
def treePkOn : M (V × St) :=
(.split (.c2 .lt (.var 4) (.num 1))
 (.ret (.w (.c (.i .i64 (.num 120))), ⟨[], [], 16, 77, []⟩))
 (.split (.c2 .lt (.num 6) (.var 4))
 (.ret (.w (.c (.i .i64 (.num 120))), ⟨[], [], 16, 77, []⟩))
 (.split (.c2 .eq (.var 4) (.num 1))
 (.split (.c1 .not (.c2 .and (.c2 .eq (.num 0) (.var 18)) (.c2 .and (.c2 .eq (.num 0) (.var 19)) (.c2 .and (.c2 .eq (.num 0) (.var 20)) xPkOn3))))
 (.ret (.w (.c (.i .i64 (.num 120))), ⟨[], [], 20, 77, []⟩))
 (.chk (.c2 .eq (.c2 .sub (.var 2) (.var 1)) (.c1 .len xPkOff0))
 (.chk (.c2 .le (.num 0) (.var 5))
 (.chk (.c2 .le (.var 5) (.num 255))
 (.chk (.c2 .le (.num 0) (.var 6))
 (.chk (.c2 .le (.var 6) (.num 255))
 (.chk (.c2 .le (.num 0) (.var 7))
 (.chk (.c2 .le (.var 7) (.num 255))
 (.chk (.c2 .le (.num 0) (.var 8))
 (.chk (.c2 .le (.var 8) (.num 255))
 (.chk (.c2 .le (.num 0) (.var 9))
 (.chk (.c2 .le (.var 9) (.num 255))
 (.chk (.c2 .le (.num 0) (.var 10))
 (.chk (.c2 .le (.var 10) (.num 255))
 (.chk (.c2 .le (.num 0) (.var 11))
 (.chk (.c2 .le (.var 11) (.num 255))
 (.chk (.c2 .le (.num 0) (.var 12))
 (.chk (.c2 .le (.var 12) (.num 255))
 (.chk (.c2 .le (.num 0) (.var 13))
 (.chk (.c2 .le (.var 13) (.num 255))
 (.chk (.c2 .le (.num 0) (.var 14))
 (.chk (.c2 .le (.var 14) (.num 255))
 (.chk (.c2 .le (.num 0) (.var 15))
 (.chk (.c2 .le (.var 15) (.num 255))
 (.chk (.c2 .le (.num 0) (.var 16))
 (.chk (.c2 .le (.var 16) (.num 255))
 (.chk (.c2 .le (.num 0) (.var 17))
 (.chk (.c2 .le (.var 17) (.num 65535))
 (.chk (.c1 (.kin [.u8]) xPkOff0)
 (.split (.c2 .eq (.fn 41 xPkOn5 xPkOff0 .nil) (.num 0))
 (.chk (.c1 (.kin [.u8]) (.fn 31 xPkOn5 xPkOff0 .nil))
 (.chk (.c2 .eq (.c1 .len (.fn 31 xPkOn5 xPkOff0 .nil)) (.num 14))
 (.split (.c2 .lt (.c2 .sub (.num 2048) (.c2 .sub (.var 2) (.var 1))) (.num 14))
 (.ret (.w (.c (.i .i64 (.num 5))), ⟨[], [], 83, 77, []⟩))
 (.split (.c2 .lt (.var 1) (.num 14))
 (.ret (.w (.c (.i .i64 (.num 0))), ⟨[], [(83, some ⟨true, .row [.u8] (.spl (.spl (.c2 .rep xPkOn6 (.cons (.num 0) .nil)) (.num 78) xPkOff0) (.num 64) (.c2 .take (.num 14) (.fn 31 xPkOn5 xPkOff0 .nil)))⟩), (0, some ⟨true, .cells [.b (.bol true), .s 83 1 0 (.num 0) xPkOn6, .i .i64 (.num 64), .i .i64 (.c2 .sub xPkOn6 (.num 64)), .i .i64 (.c2 .add (.var 3) (.num 1))]⟩)], 84, 77, []⟩))
 (.chk (.c2 .le (.c2 .sub (.var 1) (.num 14)) xPkOn7)
 (.chk (.c2 .le xPkOn7 (.c1 .len (.var 0)))
 (.chk (.c2 .le (.c2 .add (.c2 .sub (.var 1) (.num 14)) (.num 14)) (.c1 .len (.var 0)))
 (.ret (.w (.c (.i .i64 (.num 0))), ⟨[], [(1, some ⟨true, .row [.u8] (.spl (.spl (.var 0) (.c2 .sub (.var 1) (.num 14)) (.c2 .rep (.c2 .sub xPkOn7 (.c2 .sub (.var 1) (.num 14))) (.cons (.num 0) .nil))) (.c2 .sub (.var 1) (.num 14)) (.c2 .take (.num 14) (.fn 31 xPkOn5 xPkOff0 .nil)))⟩), (0, some ⟨true, .cells [.b (.bol true), .s 1 1 0 (.num 0) (.c1 .len (.var 0)), .i .i64 (.c2 .sub (.var 1) (.num 14)), .i .i64 (.var 2), .i .i64 (.c2 .add (.var 3) (.num 1))]⟩)], 83, 77, []⟩)))))))))
 (.ret (.w (.c (.i .i64 (.fn 41 xPkOn5 xPkOff0 .nil))), ⟨[], [], 83, 77, []⟩))))))))))))))))))))))))))))))))
 (.split (.c2 .eq (.var 4) (.num 2))
 (.split (.c1 .not (.c2 .and (.c2 .eq (.num 0) (.var 5)) (.c2 .and (.c2 .eq (.num 0) (.var 6)) (.c2 .and (.c2 .eq (.num 0) (.var 7)) (.c2 .and (.c2 .eq (.num 0) (.var 8)) (.c2 .and (.c2 .eq (.num 0) (.var 9)) (.c2 .and (.c2 .eq (.num 0) (.var 10)) (.c2 .and (.c2 .eq (.num 0) (.var 11)) (.c2 .and (.c2 .eq (.num 0) (.var 12)) (.c2 .and (.c2 .eq (.num 0) (.var 13)) (.c2 .and (.c2 .eq (.num 0) (.var 14)) (.c2 .and (.c2 .eq (.num 0) (.var 15)) (.c2 .and (.c2 .eq (.num 0) (.var 16)) (.c2 .and (.c2 .eq (.num 0) (.var 17)) xPkOn3))))))))))))))
 (.ret (.w (.c (.i .i64 (.num 120))), ⟨[], [], 20, 77, []⟩))
 (.split (.c2 .lt (.num 7) (.var 18))
 (.ret (.w (.c (.i .i64 (.num 60))), ⟨[], [], 22, 77, []⟩))
 (.split (.c2 .lt (.num 4095) (.var 19))
 (.ret (.w (.c (.i .i64 (.num 60))), ⟨[], [], 22, 77, []⟩))
 (.chk (.c2 .eq (.c2 .sub (.var 2) (.var 1)) (.c1 .len xPkOff0))
 (.chk (.c2 .le (.num 0) (.var 18))
 (.chk (.c2 .le (.num 0) (.var 19))
 (.chk (.c2 .le (.num 0) (.var 20))
 (.chk (.c2 .le (.var 20) (.num 65535))
 (.chk (.c1 (.kin [.u8]) xPkOff0)
 (.split (.c2 .eq xPkOn8 (.num 0))
 (.chk (.c1 (.kin [.u8]) xPkOn9)
 (.chk (.c2 .eq (.c1 .len xPkOn9) (.num 4))
 (.split (.c2 .lt (.c2 .sub (.num 2048) (.c2 .sub (.var 2) (.var 1))) (.num 4))
 (.ret (.w (.c (.i .i64 (.num 5))), ⟨[], [], 83, 77, []⟩))
 (.split (.c2 .lt (.var 1) (.num 4))
 (.ret (.w (.c (.i .i64 (.num 0))), ⟨[], [(83, some ⟨true, .row [.u8] (.spl (.spl (.c2 .rep xPkOn10 (.cons (.num 0) .nil)) (.num 68) xPkOff0) (.num 64) (.c2 .take (.num 4) xPkOn9))⟩), (0, some ⟨true, .cells [.b (.bol true), .s 83 1 0 (.num 0) xPkOn10, .i .i64 (.num 64), .i .i64 (.c2 .sub xPkOn10 (.num 64)), .i .i64 (.c2 .add (.var 3) (.num 1))]⟩)], 84, 77, []⟩))
 (.chk (.c2 .le (.c2 .sub (.var 1) (.num 4)) xPkOn11)
 (.chk (.c2 .le xPkOn11 (.c1 .len (.var 0)))
 (.chk (.c2 .le (.c2 .add (.c2 .sub (.var 1) (.num 4)) (.num 4)) (.c1 .len (.var 0)))
 (.ret (.w (.c (.i .i64 (.num 0))), ⟨[], [(1, some ⟨true, .row [.u8] (.spl (.spl (.var 0) (.c2 .sub (.var 1) (.num 4)) (.c2 .rep (.c2 .sub xPkOn11 (.c2 .sub (.var 1) (.num 4))) (.cons (.num 0) .nil))) (.c2 .sub (.var 1) (.num 4)) (.c2 .take (.num 4) xPkOn9))⟩), (0, some ⟨true, .cells [.b (.bol true), .s 1 1 0 (.num 0) (.c1 .len (.var 0)), .i .i64 (.c2 .sub (.var 1) (.num 4)), .i .i64 (.var 2), .i .i64 (.c2 .add (.var 3) (.num 1))]⟩)], 83, 77, []⟩)))))))))
 (.ret (.w (.c (.i .i64 xPkOn8)), ⟨[], [], 83, 77, []⟩))))))))))))
 (.split (.c2 .eq (.var 4) (.num 3))
 (.split (.c1 .not (.c2 .and (.c2 .eq (.num 0) (.var 5)) (.c2 .and (.c2 .eq (.num 0) (.var 6)) (.c2 .and (.c2 .eq (.num 0) (.var 7)) (.c2 .and (.c2 .eq (.num 0) (.var 8)) (.c2 .and (.c2 .eq (.num 0) (.var 9)) (.c2 .and (.c2 .eq (.num 0) (.var 10)) (.c2 .and (.c2 .eq (.num 0) (.var 11)) (.c2 .and (.c2 .eq (.num 0) (.var 12)) (.c2 .and (.c2 .eq (.num 0) (.var 13)) (.c2 .and (.c2 .eq (.num 0) (.var 14)) (.c2 .and (.c2 .eq (.num 0) (.var 15)) (.c2 .and (.c2 .eq (.num 0) (.var 16)) (.c2 .and (.c2 .eq (.num 0) (.var 17)) (.c2 .and (.c2 .eq (.num 0) (.var 18)) (.c2 .and (.c2 .eq (.num 0) (.var 19)) (.c2 .and (.c2 .eq (.num 0) (.var 20)) xPkOn2)))))))))))))))))
 (.ret (.w (.c (.i .i64 (.num 120))), ⟨[], [], 20, 77, []⟩))
 (.chk (.c2 .eq (.c2 .sub (.var 2) (.var 1)) (.c1 .len xPkOff0))
 (.chk (.c2 .le (.num 0) (.var 21))
 (.chk (.c2 .le (.var 21) (.num 255))
 (.chk (.c2 .le (.num 0) (.var 22))
 (.chk (.c2 .le (.var 22) (.num 255))
 (.chk (.c2 .le (.num 0) (.var 23))
 (.chk (.c2 .le (.var 23) (.num 255))
 (.chk (.c2 .le (.num 0) (.var 24))
 (.chk (.c2 .le (.var 24) (.num 65535))
 (.chk (.c2 .le (.num 0) (.var 25))
 (.chk (.c2 .le (.var 25) (.num 255))
 (.chk (.c2 .le (.num 0) (.var 26))
 (.chk (.c2 .le (.var 26) (.num 255))
 (.chk (.c2 .le (.num 0) (.var 27))
 (.chk (.c2 .le (.var 27) (.num 255))
 (.chk (.c2 .le (.num 0) (.var 28))
 (.chk (.c2 .le (.var 28) (.num 255))
 (.chk (.c2 .le (.num 0) (.var 29))
 (.chk (.c2 .le (.var 29) (.num 255))
 (.chk (.c2 .le (.num 0) (.var 30))
 (.chk (.c2 .le (.var 30) (.num 255))
 (.chk (.c2 .le (.num 0) (.var 31))
 (.chk (.c2 .le (.var 31) (.num 255))
 (.chk (.c2 .le (.num 0) (.var 32))
 (.chk (.c2 .le (.var 32) (.num 255))
 (.chk (.c1 (.kin [.u8]) xPkOff0)
 (.split (.c2 .eq (.fn 43 xPkOn12 xPkOff0 .nil) (.num 0))
 (.chk (.c1 (.kin [.u8]) (.fn 33 xPkOn12 xPkOff0 .nil))
 (.chk (.c2 .eq (.c1 .len (.fn 33 xPkOn12 xPkOff0 .nil)) (.num 20))
 (.split xPkOn13
 (.ret (.w (.c (.i .i64 (.num 5))), ⟨[], [], 83, 77, []⟩))
 (.split (.c2 .lt (.var 1) (.num 20))
 (.ret (.w (.c (.i .i64 (.num 0))), ⟨[], [(83, some ⟨true, .row [.u8] (.spl xPkOn15 (.num 64) (.c2 .take (.num 20) (.fn 33 xPkOn12 xPkOff0 .nil)))⟩), (0, some ⟨true, .cells [.b (.bol true), .s 83 1 0 (.num 0) xPkOn14, .i .i64 (.num 64), .i .i64 (.c2 .sub xPkOn14 (.num 64)), .i .i64 (.c2 .add (.var 3) (.num 1))]⟩)], 84, 77, []⟩))
 (.chk (.c2 .le (.c2 .sub (.var 1) (.num 20)) xPkOn16)
 (.chk (.c2 .le xPkOn16 (.c1 .len (.var 0)))
 (.chk xPkOn17
 (.ret (.w (.c (.i .i64 (.num 0))), ⟨[], [(1, some ⟨true, .row [.u8] (.spl xPkOn18 (.c2 .sub (.var 1) (.num 20)) (.c2 .take (.num 20) (.fn 33 xPkOn12 xPkOff0 .nil)))⟩), (0, some ⟨true, .cells [.b (.bol true), .s 1 1 0 (.num 0) (.c1 .len (.var 0)), .i .i64 (.c2 .sub (.var 1) (.num 20)), .i .i64 (.var 2), .i .i64 (.c2 .add (.var 3) (.num 1))]⟩)], 83, 77, []⟩)))))))))
 (.ret (.w (.c (.i .i64 (.fn 43 xPkOn12 xPkOff0 .nil))), ⟨[], [], 83, 77, []⟩))))))))))))))))))))))))))))))
 (.split (.c2 .eq (.var 4) (.num 4))
 (.split (.c1 .not (.c2 .and (.c2 .eq (.num 0) (.var 5)) (.c2 .and (.c2 .eq (.num 0) (.var 6)) (.c2 .and (.c2 .eq (.num 0) (.var 7)) (.c2 .and (.c2 .eq (.num 0) (.var 8)) (.c2 .and (.c2 .eq (.num 0) (.var 9)) (.c2 .and (.c2 .eq (.num 0) (.var 10)) (.c2 .and (.c2 .eq (.num 0) (.var 11)) (.c2 .and (.c2 .eq (.num 0) (.var 12)) (.c2 .and (.c2 .eq (.num 0) (.var 13)) (.c2 .and (.c2 .eq (.num 0) (.var 14)) (.c2 .and (.c2 .eq (.num 0) (.var 15)) (.c2 .and (.c2 .eq (.num 0) (.var 16)) (.c2 .and (.c2 .eq (.num 0) (.var 17)) (.c2 .and (.c2 .eq (.num 0) (.var 18)) (.c2 .and (.c2 .eq (.num 0) (.var 19)) (.c2 .and (.c2 .eq (.num 0) (.var 20)) (.c2 .and (.c2 .eq (.num 0) (.var 21)) (.c2 .and (.c2 .eq (.num 0) (.var 22)) (.c2 .and (.c2 .eq (.num 0) (.var 23)) (.c2 .and (.c2 .eq (.num 0) (.var 24)) (.c2 .and (.c2 .eq (.num 0) (.var 25)) (.c2 .and (.c2 .eq (.num 0) (.var 26)) (.c2 .and (.c2 .eq (.num 0) (.var 27)) (.c2 .and (.c2 .eq (.num 0) (.var 28)) (.c2 .and (.c2 .eq (.num 0) (.var 29)) (.c2 .and (.c2 .eq (.num 0) (.var 30)) (.c2 .and (.c2 .eq (.num 0) (.var 31)) (.c2 .and (.c2 .eq (.num 0) (.var 32)) xPkOn1)))))))))))))))))))))))))))))
 (.ret (.w (.c (.i .i64 (.num 120))), ⟨[], [], 20, 77, []⟩))
 (.split (.c2 .le (.num 1048576) (.var 34))
 (.ret (.w (.c (.i .i64 (.num 80))), ⟨[], [], 22, 77, []⟩))
 (.chk (.c2 .eq (.c2 .sub (.var 2) (.var 1)) (.c1 .len xPkOff0))
 (.chk (.c2 .le (.num 0) (.var 33))
 (.chk (.c2 .le (.var 33) (.num 255))
 (.chk (.c2 .le (.num 0) (.var 34))
 (.chk (.c2 .le (.num 0) (.var 35))
 (.chk (.c2 .le (.var 35) (.num 255))
 (.chk (.c2 .le (.num 0) (.var 36))
 (.chk (.c2 .le (.var 36) (.num 255))
 (.chk (.c2 .le (.num 0) (.var 37))
 (.chk (.c2 .le (.var 37) (.num 255))
 (.chk (.c2 .le (.num 0) (.var 38))
 (.chk (.c2 .le (.var 38) (.num 255))
 (.chk (.c2 .le (.num 0) (.var 39))
 (.chk (.c2 .le (.var 39) (.num 255))
 (.chk (.c2 .le (.num 0) (.var 40))
 (.chk (.c2 .le (.var 40) (.num 255))
 (.chk (.c2 .le (.num 0) (.var 41))
 (.chk (.c2 .le (.var 41) (.num 255))
 (.chk (.c2 .le (.num 0) (.var 42))
 (.chk (.c2 .le (.var 42) (.num 255))
 (.chk (.c2 .le (.num 0) (.var 43))
 (.chk (.c2 .le (.var 43) (.num 255))
 (.chk (.c2 .le (.num 0) (.var 44))
 (.chk (.c2 .le (.var 44) (.num 255))
 (.chk (.c2 .le (.num 0) (.var 45))
 (.chk (.c2 .le (.var 45) (.num 255))
 (.chk (.c2 .le (.num 0) (.var 46))
 (.chk (.c2 .le (.var 46) (.num 255))
 (.chk (.c2 .le (.num 0) (.var 47))
 (.chk (.c2 .le (.var 47) (.num 255))
 (.chk (.c2 .le (.num 0) (.var 48))
 (.chk (.c2 .le (.var 48) (.num 255))
 (.chk (.c2 .le (.num 0) (.var 49))
 (.chk (.c2 .le (.var 49) (.num 255))
 (.chk (.c2 .le (.num 0) (.var 50))
 (.chk (.c2 .le (.var 50) (.num 255))
 (.chk (.c2 .le (.num 0) (.var 51))
 (.chk (.c2 .le (.var 51) (.num 255))
 (.chk (.c2 .le (.num 0) (.var 52))
 (.chk (.c2 .le (.var 52) (.num 255))
 (.chk (.c2 .le (.num 0) (.var 53))
 (.chk (.c2 .le (.var 53) (.num 255))
 (.chk (.c2 .le (.num 0) (.var 54))
 (.chk (.c2 .le (.var 54) (.num 255))
 (.chk (.c2 .le (.num 0) (.var 55))
 (.chk (.c2 .le (.var 55) (.num 255))
 (.chk (.c2 .le (.num 0) (.var 56))
 (.chk (.c2 .le (.var 56) (.num 255))
 (.chk (.c2 .le (.num 0) (.var 57))
 (.chk (.c2 .le (.var 57) (.num 255))
 (.chk (.c2 .le (.num 0) (.var 58))
 (.chk (.c2 .le (.var 58) (.num 255))
 (.chk (.c2 .le (.num 0) (.var 59))
 (.chk (.c2 .le (.var 59) (.num 255))
 (.chk (.c2 .le (.num 0) (.var 60))
 (.chk (.c2 .le (.var 60) (.num 255))
 (.chk (.c2 .le (.num 0) (.var 61))
 (.chk (.c2 .le (.var 61) (.num 255))
 (.chk (.c2 .le (.num 0) (.var 62))
 (.chk (.c2 .le (.var 62) (.num 255))
 (.chk (.c2 .le (.num 0) (.var 63))
 (.chk (.c2 .le (.var 63) (.num 255))
 (.chk (.c2 .le (.num 0) (.var 64))
 (.chk (.c2 .le (.var 64) (.num 255))
 (.chk (.c2 .le (.num 0) (.var 65))
 (.chk (.c2 .le (.var 65) (.num 255))
 (.chk (.c2 .le (.num 0) (.var 66))
 (.chk (.c2 .le (.var 66) (.num 255))
 (.chk (.c2 .le (.num 0) (.var 67))
 (.chk (.c2 .le (.var 67) (.num 255))
 (.chk (.c2 .le (.num 0) (.var 68))
 (.chk (.c2 .le (.var 68) (.num 255))
 (.chk (.c1 (.kin [.u8]) xPkOff0)
 (.split (.c2 .eq (.fn 44 xPkOn19 xPkOff0 .nil) (.num 0))
 (.chk (.c1 (.kin [.u8]) (.fn 34 xPkOn19 xPkOff0 .nil))
 (.chk (.c2 .eq (.c1 .len (.fn 34 xPkOn19 xPkOff0 .nil)) (.num 40))
 (.split (.c2 .lt (.c2 .sub (.num 2048) (.c2 .sub (.var 2) (.var 1))) (.num 40))
 (.ret (.w (.c (.i .i64 (.num 5))), ⟨[], [], 83, 77, []⟩))
 (.split (.c2 .lt (.var 1) (.num 40))
 (.ret (.w (.c (.i .i64 (.num 0))), ⟨[], [(83, some ⟨true, .row [.u8] (.spl (.spl (.c2 .rep xPkOn20 (.cons (.num 0) .nil)) (.num 104) xPkOff0) (.num 64) (.c2 .take (.num 40) (.fn 34 xPkOn19 xPkOff0 .nil)))⟩), (0, some ⟨true, .cells [.b (.bol true), .s 83 1 0 (.num 0) xPkOn20, .i .i64 (.num 64), .i .i64 (.c2 .sub xPkOn20 (.num 64)), .i .i64 (.c2 .add (.var 3) (.num 1))]⟩)], 84, 77, []⟩))
 (.chk (.c2 .le (.c2 .sub (.var 1) (.num 40)) xPkOn21)
 (.chk (.c2 .le xPkOn21 (.c1 .len (.var 0)))
 (.chk (.c2 .le (.c2 .add (.c2 .sub (.var 1) (.num 40)) (.num 40)) (.c1 .len (.var 0)))
 (.ret (.w (.c (.i .i64 (.num 0))), ⟨[], [(1, some ⟨true, .row [.u8] (.spl (.spl (.var 0) (.c2 .sub (.var 1) (.num 40)) (.c2 .rep (.c2 .sub xPkOn21 (.c2 .sub (.var 1) (.num 40))) (.cons (.num 0) .nil))) (.c2 .sub (.var 1) (.num 40)) (.c2 .take (.num 40) (.fn 34 xPkOn19 xPkOff0 .nil)))⟩), (0, some ⟨true, .cells [.b (.bol true), .s 1 1 0 (.num 0) (.c1 .len (.var 0)), .i .i64 (.c2 .sub (.var 1) (.num 40)), .i .i64 (.var 2), .i .i64 (.c2 .add (.var 3) (.num 1))]⟩)], 83, 77, []⟩)))))))))
 (.ret (.w (.c (.i .i64 (.fn 44 xPkOn19 xPkOff0 .nil))), ⟨[], [], 83, 77, []⟩))))))))))))))))))))))))))))))))))))))))))))))))))))))))))))))))))))))))))))))
 (.split (.c2 .eq (.var 4) (.num 5))
 (.split (.c1 .not (.c2 .and (.c2 .eq (.num 0) (.var 5)) (.c2 .and (.c2 .eq (.num 0) (.var 6)) (.c2 .and (.c2 .eq (.num 0) (.var 7)) (.c2 .and (.c2 .eq (.num 0) (.var 8)) (.c2 .and (.c2 .eq (.num 0) (.var 9)) (.c2 .and (.c2 .eq (.num 0) (.var 10)) (.c2 .and (.c2 .eq (.num 0) (.var 11)) (.c2 .and (.c2 .eq (.num 0) (.var 12)) (.c2 .and (.c2 .eq (.num 0) (.var 13)) (.c2 .and (.c2 .eq (.num 0) (.var 14)) (.c2 .and (.c2 .eq (.num 0) (.var 15)) (.c2 .and (.c2 .eq (.num 0) (.var 16)) (.c2 .and (.c2 .eq (.num 0) (.var 17)) (.c2 .and (.c2 .eq (.num 0) (.var 18)) (.c2 .and (.c2 .eq (.num 0) (.var 19)) (.c2 .and (.c2 .eq (.num 0) (.var 20)) (.c2 .and (.c2 .eq (.num 0) (.var 21)) (.c2 .and (.c2 .eq (.num 0) (.var 22)) (.c2 .and (.c2 .eq (.num 0) (.var 23)) (.c2 .and (.c2 .eq (.num 0) (.var 24)) (.c2 .and (.c2 .eq (.num 0) (.var 25)) (.c2 .and (.c2 .eq (.num 0) (.var 26)) (.c2 .and (.c2 .eq (.num 0) (.var 27)) (.c2 .and (.c2 .eq (.num 0) (.var 28)) (.c2 .and (.c2 .eq (.num 0) (.var 29)) (.c2 .and (.c2 .eq (.num 0) (.var 30)) (.c2 .and (.c2 .eq (.num 0) (.var 31)) (.c2 .and (.c2 .eq (.num 0) (.var 32)) (.c2 .and (.c2 .eq (.num 0) (.var 33)) (.c2 .and (.c2 .eq (.num 0) (.var 34)) (.c2 .and (.c2 .eq (.num 0) (.var 35)) (.c2 .and (.c2 .eq (.num 0) (.var 36)) (.c2 .and (.c2 .eq (.num 0) (.var 37)) (.c2 .and (.c2 .eq (.num 0) (.var 38)) (.c2 .and (.c2 .eq (.num 0) (.var 39)) (.c2 .and (.c2 .eq (.num 0) (.var 40)) (.c2 .and (.c2 .eq (.num 0) (.var 41)) (.c2 .and (.c2 .eq (.num 0) (.var 42)) (.c2 .and (.c2 .eq (.num 0) (.var 43)) (.c2 .and (.c2 .eq (.num 0) (.var 44)) (.c2 .and (.c2 .eq (.num 0) (.var 45)) (.c2 .and (.c2 .eq (.num 0) (.var 46)) (.c2 .and (.c2 .eq (.num 0) (.var 47)) (.c2 .and (.c2 .eq (.num 0) (.var 48)) (.c2 .and (.c2 .eq (.num 0) (.var 49)) (.c2 .and (.c2 .eq (.num 0) (.var 50)) (.c2 .and (.c2 .eq (.num 0) (.var 51)) (.c2 .and (.c2 .eq (.num 0) (.var 52)) (.c2 .and (.c2 .eq (.num 0) (.var 53)) (.c2 .and (.c2 .eq (.num 0) (.var 54)) (.c2 .and (.c2 .eq (.num 0) (.var 55)) (.c2 .and (.c2 .eq (.num 0) (.var 56)) (.c2 .and (.c2 .eq (.num 0) (.var 57)) (.c2 .and (.c2 .eq (.num 0) (.var 58)) (.c2 .and (.c2 .eq (.num 0) (.var 59)) (.c2 .and (.c2 .eq (.num 0) (.var 60)) (.c2 .and (.c2 .eq (.num 0) (.var 61)) (.c2 .and (.c2 .eq (.num 0) (.var 62)) (.c2 .and (.c2 .eq (.num 0) (.var 63)) (.c2 .and (.c2 .eq (.num 0) (.var 64)) (.c2 .and (.c2 .eq (.num 0) (.var 65)) (.c2 .and (.c2 .eq (.num 0) (.var 66)) (.c2 .and (.c2 .eq (.num 0) (.var 67)) (.c2 .and (.c2 .eq (.num 0) (.var 68)) xPkOn0)))))))))))))))))))))))))))))))))))))))))))))))))))))))))))))))))
 (.ret (.w (.c (.i .i64 (.num 120))), ⟨[], [], 20, 77, []⟩))
 (.split (.c2 .le (.num 64) (.var 73))
 (.ret (.w (.c (.i .i64 (.num 90))), ⟨[], [], 22, 77, []⟩))
 (.chk (.c2 .eq (.c2 .sub (.var 2) (.var 1)) (.c1 .len xPkOff0))
 (.chk (.c2 .le (.num 0) (.var 69))
 (.chk (.c2 .le (.var 69) (.num 65535))
 (.chk (.c2 .le (.num 0) (.var 70))
 (.chk (.c2 .le (.var 70) (.num 65535))
 (.chk (.c2 .le (.num 0) (.var 71))
 (.chk (.c2 .le (.var 71) (.num 4294967295))
 (.chk (.c2 .le (.num 0) (.var 72))
 (.chk (.c2 .le (.var 72) (.num 4294967295))
 (.chk (.c2 .le (.num 0) (.var 73))
 (.chk (.c2 .le (.num 0) (.var 74))
 (.chk (.c2 .le (.var 74) (.num 65535))
 (.chk (.c1 (.kin [.u8]) xPkOff0)
 (.split (.c2 .eq (.fn 45 xPkOn22 xPkOff0 .nil) (.num 0))
 (.chk (.c1 (.kin [.u8]) (.fn 35 xPkOn22 xPkOff0 .nil))
 (.chk (.c2 .eq (.c1 .len (.fn 35 xPkOn22 xPkOff0 .nil)) (.num 20))
 (.split xPkOn13
 (.ret (.w (.c (.i .i64 (.num 5))), ⟨[], [], 83, 77, []⟩))
 (.split (.c2 .lt (.var 1) (.num 20))
 (.ret (.w (.c (.i .i64 (.num 0))), ⟨[], [(83, some ⟨true, .row [.u8] (.spl xPkOn15 (.num 64) (.c2 .take (.num 20) (.fn 35 xPkOn22 xPkOff0 .nil)))⟩), (0, some ⟨true, .cells [.b (.bol true), .s 83 1 0 (.num 0) xPkOn14, .i .i64 (.num 64), .i .i64 (.c2 .sub xPkOn14 (.num 64)), .i .i64 (.c2 .add (.var 3) (.num 1))]⟩)], 84, 77, []⟩))
 (.chk (.c2 .le (.c2 .sub (.var 1) (.num 20)) xPkOn16)
 (.chk (.c2 .le xPkOn16 (.c1 .len (.var 0)))
 (.chk xPkOn17
 (.ret (.w (.c (.i .i64 (.num 0))), ⟨[], [(1, some ⟨true, .row [.u8] (.spl xPkOn18 (.c2 .sub (.var 1) (.num 20)) (.c2 .take (.num 20) (.fn 35 xPkOn22 xPkOff0 .nil)))⟩), (0, some ⟨true, .cells [.b (.bol true), .s 1 1 0 (.num 0) (.c1 .len (.var 0)), .i .i64 (.c2 .sub (.var 1) (.num 20)), .i .i64 (.var 2), .i .i64 (.c2 .add (.var 3) (.num 1))]⟩)], 83, 77, []⟩)))))))))
 (.ret (.w (.c (.i .i64 (.fn 45 xPkOn22 xPkOff0 .nil))), ⟨[], [], 83, 77, []⟩))))))))))))))))))
 (.split (.c2 .eq (.var 4) (.num 6))
 (.split (.c1 .not (.c2 .and (.c2 .eq (.num 0) (.var 5)) (.c2 .and (.c2 .eq (.num 0) (.var 6)) (.c2 .and (.c2 .eq (.num 0) (.var 7)) (.c2 .and (.c2 .eq (.num 0) (.var 8)) (.c2 .and (.c2 .eq (.num 0) (.var 9)) (.c2 .and (.c2 .eq (.num 0) (.var 10)) (.c2 .and (.c2 .eq (.num 0) (.var 11)) (.c2 .and (.c2 .eq (.num 0) (.var 12)) (.c2 .and (.c2 .eq (.num 0) (.var 13)) (.c2 .and (.c2 .eq (.num 0) (.var 14)) (.c2 .and (.c2 .eq (.num 0) (.var 15)) (.c2 .and (.c2 .eq (.num 0) (.var 16)) (.c2 .and (.c2 .eq (.num 0) (.var 17)) (.c2 .and (.c2 .eq (.num 0) (.var 18)) (.c2 .and (.c2 .eq (.num 0) (.var 19)) (.c2 .and (.c2 .eq (.num 0) (.var 20)) (.c2 .and (.c2 .eq (.num 0) (.var 21)) (.c2 .and (.c2 .eq (.num 0) (.var 22)) (.c2 .and (.c2 .eq (.num 0) (.var 23)) (.c2 .and (.c2 .eq (.num 0) (.var 24)) (.c2 .and (.c2 .eq (.num 0) (.var 25)) (.c2 .and (.c2 .eq (.num 0) (.var 26)) (.c2 .and (.c2 .eq (.num 0) (.var 27)) (.c2 .and (.c2 .eq (.num 0) (.var 28)) (.c2 .and (.c2 .eq (.num 0) (.var 29)) (.c2 .and (.c2 .eq (.num 0) (.var 30)) (.c2 .and (.c2 .eq (.num 0) (.var 31)) (.c2 .and (.c2 .eq (.num 0) (.var 32)) (.c2 .and (.c2 .eq (.num 0) (.var 33)) (.c2 .and (.c2 .eq (.num 0) (.var 34)) (.c2 .and (.c2 .eq (.num 0) (.var 35)) (.c2 .and (.c2 .eq (.num 0) (.var 36)) (.c2 .and (.c2 .eq (.num 0) (.var 37)) (.c2 .and (.c2 .eq (.num 0) (.var 38)) (.c2 .and (.c2 .eq (.num 0) (.var 39)) (.c2 .and (.c2 .eq (.num 0) (.var 40)) (.c2 .and (.c2 .eq (.num 0) (.var 41)) (.c2 .and (.c2 .eq (.num 0) (.var 42)) (.c2 .and (.c2 .eq (.num 0) (.var 43)) (.c2 .and (.c2 .eq (.num 0) (.var 44)) (.c2 .and (.c2 .eq (.num 0) (.var 45)) (.c2 .and (.c2 .eq (.num 0) (.var 46)) (.c2 .and (.c2 .eq (.num 0) (.var 47)) (.c2 .and (.c2 .eq (.num 0) (.var 48)) (.c2 .and (.c2 .eq (.num 0) (.var 49)) (.c2 .and (.c2 .eq (.num 0) (.var 50)) (.c2 .and (.c2 .eq (.num 0) (.var 51)) (.c2 .and (.c2 .eq (.num 0) (.var 52)) (.c2 .and (.c2 .eq (.num 0) (.var 53)) (.c2 .and (.c2 .eq (.num 0) (.var 54)) (.c2 .and (.c2 .eq (.num 0) (.var 55)) (.c2 .and (.c2 .eq (.num 0) (.var 56)) (.c2 .and (.c2 .eq (.num 0) (.var 57)) (.c2 .and (.c2 .eq (.num 0) (.var 58)) (.c2 .and (.c2 .eq (.num 0) (.var 59)) (.c2 .and (.c2 .eq (.num 0) (.var 60)) (.c2 .and (.c2 .eq (.num 0) (.var 61)) (.c2 .and (.c2 .eq (.num 0) (.var 62)) (.c2 .and (.c2 .eq (.num 0) (.var 63)) (.c2 .and (.c2 .eq (.num 0) (.var 64)) (.c2 .and (.c2 .eq (.num 0) (.var 65)) (.c2 .and (.c2 .eq (.num 0) (.var 66)) (.c2 .and (.c2 .eq (.num 0) (.var 67)) (.c2 .and (.c2 .eq (.num 0) (.var 68)) (.c2 .and (.c2 .eq (.num 0) (.var 69)) (.c2 .and (.c2 .eq (.num 0) (.var 70)) (.c2 .and (.c2 .eq (.num 0) (.var 71)) (.c2 .and (.c2 .eq (.num 0) (.var 72)) (.c2 .and (.c2 .eq (.num 0) (.var 73)) (.c2 .eq (.num 0) (.var 74))))))))))))))))))))))))))))))))))))))))))))))))))))))))))))))))))))))))
 (.ret (.w (.c (.i .i64 (.num 120))), ⟨[], [], 20, 77, []⟩))
 (.chk (.c2 .eq (.c2 .sub (.var 2) (.var 1)) (.c1 .len xPkOff0))
 (.chk (.c2 .le (.num 0) (.var 75))
 (.chk (.c2 .le (.var 75) (.num 65535))
 (.chk (.c2 .le (.num 0) (.var 76))
 (.chk (.c2 .le (.var 76) (.num 65535))
 (.chk (.c1 (.kin [.u8]) xPkOff0)
 (.split (.c2 .eq xPkOn23 (.num 0))
 (.chk (.c1 (.kin [.u8]) xPkOn24)
 (.chk (.c2 .eq (.c1 .len xPkOn24) (.num 8))
 (.split (.c2 .lt (.c2 .sub (.num 2048) (.c2 .sub (.var 2) (.var 1))) (.num 8))
 (.ret (.w (.c (.i .i64 (.num 5))), ⟨[], [], 83, 77, []⟩))
 (.split (.c2 .lt (.var 1) (.num 8))
 (.ret (.w (.c (.i .i64 (.num 0))), ⟨[], [(83, some ⟨true, .row [.u8] (.spl (.spl (.c2 .rep xPkOn25 (.cons (.num 0) .nil)) (.num 72) xPkOff0) (.num 64) (.c2 .take (.num 8) xPkOn24))⟩), (0, some ⟨true, .cells [.b (.bol true), .s 83 1 0 (.num 0) xPkOn25, .i .i64 (.num 64), .i .i64 (.c2 .sub xPkOn25 (.num 64)), .i .i64 (.c2 .add (.var 3) (.num 1))]⟩)], 84, 77, []⟩))
 (.chk (.c2 .le (.c2 .sub (.var 1) (.num 8)) xPkOn26)
 (.chk (.c2 .le xPkOn26 (.c1 .len (.var 0)))
 (.chk (.c2 .le (.c2 .add (.c2 .sub (.var 1) (.num 8)) (.num 8)) (.c1 .len (.var 0)))
 (.ret (.w (.c (.i .i64 (.num 0))), ⟨[], [(1, some ⟨true, .row [.u8] (.spl (.spl (.var 0) (.c2 .sub (.var 1) (.num 8)) (.c2 .rep (.c2 .sub xPkOn26 (.c2 .sub (.var 1) (.num 8))) (.cons (.num 0) .nil))) (.c2 .sub (.var 1) (.num 8)) (.c2 .take (.num 8) xPkOn24))⟩), (0, some ⟨true, .cells [.b (.bol true), .s 1 1 0 (.num 0) (.c1 .len (.var 0)), .i .i64 (.c2 .sub (.var 1) (.num 8)), .i .i64 (.var 2), .i .i64 (.c2 .add (.var 3) (.num 1))]⟩)], 83, 77, []⟩)))))))))
 (.ret (.w (.c (.i .i64 xPkOn23)), ⟨[], [], 83, 77, []⟩))))))))))
 (.fail 11)))))))))
theorem treePkOn_is : funTree (ctxN Go.Proofs.Tryz.prog annsPk consOn 8) annsPk 13 (tOn 83).vs (tOn 83).bs (tOn 83).n (preF (tOn 83).res) = treePkOn := by kernel_rfl
end Go.Proofs.YtfhjlimdakphcaaGreat.Sx
