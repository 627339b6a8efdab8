/- Words of this repo's own beside the print's: '==' of arrays of whole numbers, told as one Bool. -/
import Derived.Laws.StructEq
import Derived.ChangeKeysEq
import Derived.WalkKit
import Derived.Laws.CopyOwn
import Derived.Laws.IdiomCopy
import Derived.Test.YtipdajgcepefgaaWWords
set_option linter.unusedVariables false
namespace Go.Proofs.YtipdajgcepefgaaW.Own
open Go Go.RowKit
section
variable {P : Program} {d c i : Nat} {is : List Nat} {e : TypeId} {xs ys : Array Value} {a b : Value} {r s : Bool} {w : World}
theorem eqi_last (ha : (part e xs (i * c)).run P w = .ok a w) (hb : (part e ys (i * c)).run P w = .ok b w) (he : (Op.equalIn d e a b).run P w = .ok r w) : (Op.eqItems d e c xs ys [i]).run P w = .ok r w := by
  simp only [Op.eqItems, Sem.run_bind, ha, hb, he, Result.andThen_ok]
  cases r <;> simp
theorem eqi_cons (ha : (part e xs (i * c)).run P w = .ok a w) (hb : (part e ys (i * c)).run P w = .ok b w) (he : (Op.equalIn d e a b).run P w = .ok r w) (hr : (Op.eqItems d e c xs ys is).run P w = .ok s w) : (Op.eqItems d e c xs ys (i :: is)).run P w = .ok (r && s) w := by
  rw [Op.eqItems]
  simp only [Sem.run_bind, ha, hb, he, Result.andThen_ok]
  cases r
  · simp
  · simpa using hr
theorem eqi_of {t : TypeId} {n : Nat} (hu : P.underlying t = some (.array n e)) (hi : (P.info? e).isSome = true) {l : List Nat} (hl : List.range n = l) (hc : P.cellsOf e = c) (h : (Op.eqItems d e c xs ys l).run P w = .ok r w) : (Op.equalIn (d + 1) t (.agg xs) (.agg ys)).run P w = .ok r w := by
  obtain ⟨inf, hi⟩ := Option.isSome_iff_exists.mp hi
  rw [run_equalIn_array w d xs ys hu hi, hl, hc]
  exact h
end

/-! A block of whole numbers that the call made: told as a row of the call's own -/
section
open Go.Proofs.YtipdajgcepefgaaW.PrintWords
theorem row_own {k : IntKind} {e g base : Nat} {w : World} {xs : List Int} {cs : Array Value} (hb : w.heap[g]? = some (.cells cs e (0, 0))) (hcs : cs.toList = xs.map (Value.int k)) (hg : base ≤ g) (hm : xs.length ≤ maxLen) :
    Kd.R (Kd.int k) e w base (fun _ => True) (.slice (some ⟨g, 0, none⟩) xs.length xs.length) xs := by
  have hsz : cs.size = xs.length := by rw [← Array.length_toList, hcs, List.length_map]
  refine Kd.R_of_own ⟨by simp [encs], .inr ⟨g, xs.length, cs, rfl, hg, hb, Nat.le_refl _, hm, by rw [hsz, Nat.mul_one], ?_⟩⟩ (fun _ _ => trivial)
  rw [Nat.mul_one, hcs, List.take_of_length_le (by simp)]
  rfl
theorem grown_set {w : World} {g o : Nat} (v : Value) : w.grownBy (w.setCell ⟨g, o, none⟩ v) (some g) :=
  ⟨rfl, rfl, rfl, by simp [World.setCell], fun k _ hne => Below.heap_setCell w ⟨g, o, none⟩ v k (fun e => hne (by rw [e]))⟩
theorem grown_trans {w w1 w2 : World} {row : Option Nat} (h : w.grownBy w1 row) (k : w1.grownBy w2 row) : w.grownBy w2 row :=
  ⟨k.os.trans h.os, k.tape.trans h.tape, k.output.trans h.output, Nat.le_trans h.size k.size, fun i hi hne => (k.block i (Nat.lt_of_lt_of_le hi h.size) hne).trans (h.block i hi hne)⟩
def lay : Array Value → Nat → List Value → Array Value
  | cs, _, [] => cs
  | cs, o, v :: vs => lay (cs.setIfInBounds o v) (o + 1) vs
theorem setCells_blk {g e : Nat} : ∀ (vs : List Value) (o : Nat) {w : World} {cs : Array Value}, w.heap[g]? = some (.cells cs e (0, 0)) → (w.setCells g o vs).heap[g]? = some (.cells (lay cs o vs) e (0, 0))
  | [], _, _, _, h => h
  | v :: vs, o, _, _, h => setCells_blk vs (o + 1) (blk_set h o v)
theorem setCells_blk' {g e : Nat} {vs : List Value} {o : Nat} {w : World} {cs cs' : Array Value} (hl : lay cs o vs = cs') (h : w.heap[g]? = some (.cells cs e (0, 0))) : (w.setCells g o vs).heap[g]? = some (.cells cs' e (0, 0)) := hl ▸ setCells_blk vs o h
theorem below_setCells {w0 : World} {g : Nat} : ∀ (vs : List Value) (o : Nat) {w : World}, Below w0.heap.size w0 w → w0.heap.size ≤ g → Below w0.heap.size w0 (w.setCells g o vs)
  | [], _, _, h, _ => h
  | _ :: vs, o, _, h, hg => below_setCells vs (o + 1) (below_set h hg) hg
theorem setCells_grown {g : Nat} : ∀ (vs : List Value) (o : Nat) (w : World), w.grownBy (w.setCells g o vs) (some g)
  | [], _, w => ⟨rfl, rfl, rfl, Nat.le_refl _, fun _ _ _ => rfl⟩
  | v :: vs, o, w => grown_trans (grown_set v) (setCells_grown vs (o + 1) _)
/-- copy of n cells (n = the shorter length) from a known block into a block of the call's own. -/
theorem copy_run {P : Program} {w : World} {dT sT ty elem : TypeId} {b o dLen dCap sb so sLen sCap : Nat} (cs : List Value) {dcs scs : Array Value} {de se : TypeId}
    (hu : P.underlying dT = some (.slice elem)) (hs : (P.info? elem).map (·.size) = some 1) (hn : cs.length = Nat.min sLen dLen)
    (hd : w.heap[b]? = some (.cells dcs de (0, 0))) (hsb : w.heap[sb]? = some (.cells scs se (0, 0))) (hfit : o + cs.length ≤ dcs.size) (hsrc : ∀ j v, cs[j]? = some v → scs[so + j]? = some v) (h1 : ∀ v ∈ cs, v.oneCell' = true) :
    (Builtin.copy_ #[dT, sT] ty #[.slice (some ⟨b, o, none⟩) dLen dCap, .slice (some ⟨sb, so, none⟩) sLen sCap]).run P w = .ok (goInt cs.length) (w.setCells b o cs) := by
  refine run_copy_cells w dT sT ty elem b o dLen dCap ⟨sb, so, none⟩ sLen sCap cs hu hs hn (fun j v hj => ?_) (fun j hj => ?_) (fun j _ => blk_frozen hd _) h1
  · have e : (⟨sb, so, none⟩ : Addr).add j = ⟨sb, so + j, none⟩ := by simp [Addr.add]
    rw [e]; exact (blk_cell hsb (so + j)).trans (hsrc j v hj)
  · rw [blk_cell hd (o + j), Array.getElem?_eq_getElem (by omega)]; rfl
/-- A row of bytes that came in, from place j on. -/
structure Part (P : Program) (T : TypeId) (w : World) (A : Option Addr) (c : Nat) (l : List Int) (j : Nat) (aj : Addr) (dj : List Int) (cj : Nat) : Prop where
  cut : ∀ W : World, (Instr.slice T (.slice A l.length c) (some (.int .i64 j)) none none).run P W = .ok (.slice (some aj) dj.length cj) W
  drop : dj = l.drop j
  len : dj.length + j = l.length
  cap : dj.length ≤ cj
  rd : ∀ i : Nat, rd dj (i : Int) = rd l ((j + i : Nat) : Int)
  cells : ∀ i : Nat, i < dj.length → w.cell? (aj.add i) = some (.int .u8 (PrintWords.rd l ((j + i : Nat) : Int)))
  C : Kd.C (Kd.int .u8) w (some aj) dj.length dj
theorem part_of {P : Program} {T e : TypeId} {i : TypeInfo} (ht : P.underlying T = some (.slice e)) (hi : P.info? e = some i) (hsz : i.size = 1) {w : World} {A : Option Addr} {c : Nat} {l : List Int} (hr : Kd.C (Kd.int .u8) w A l.length l) (hc : l.length ≤ c) (j : Nat) (hj : j < l.length) :
    ∃ aj dj cj, Part P T w A c l j aj dj cj := by
  obtain ⟨A', hcut, hA, hC⟩ := print_drop_of (P := P) (Value.int .u8) 0 T e .i64 ht hi hsz A c l (j : Int) (by omega) (by omega) hc
  rw [Int.toNat_natCast] at hcut hA hC
  have hl : (l.drop j).length + j = l.length := by rw [List.length_drop]; omega
  have hR := hA w (Kd.reads_of_C hr)
  obtain ⟨ad, rfl, hcell⟩ := hR.2.2 (by omega)
  have hrd : ∀ i : Nat, PrintWords.rd (l.drop j) (i : Int) = PrintWords.rd l ((j + i : Nat) : Int) := fun i => by
    unfold PrintWords.rd
    simp only [Int.toNat_natCast, List.getD_eq_getElem?_getD, List.getElem?_drop]
  refine ⟨ad, l.drop j, c - j, hcut, rfl, hl, hC, hrd, fun i hi => ?_, Kd.C_of_reads (h1 := fun _ => rfl) hR⟩
  rw [hcell i hi, ← hrd i]
  rfl
theorem Part.at0 {P : Program} {T : TypeId} {w : World} {A : Option Addr} {c : Nat} {l : List Int} {j : Nat} {aj : Addr} {dj : List Int} {cj : Nat} (q : Part P T w A c l j aj dj cj) (h : 0 < dj.length) : w.cell? aj = some (.int .u8 (PrintWords.rd l (j : Int))) := by
  have := q.cells 0 h
  rwa [Addr.add_zero', Nat.add_zero] at this
theorem Part.atS {P : Program} {T : TypeId} {w : World} {A : Option Addr} {c : Nat} {l : List Int} {j : Nat} {aj : Addr} {dj : List Int} {cj : Nat} (q : Part P T w A c l j aj dj cj) (i : Nat) (h0 : 0 < i) (h : i < dj.length) : w.cell? ⟨aj.block, aj.off + i, none⟩ = some (.int .u8 (PrintWords.rd l ((j + i : Nat) : Int))) := by
  have := q.cells i h
  have e := add_field aj 0 i h0
  rw [Nat.zero_add, Addr.add_zero'] at e
  rwa [e] at this
/-- The same of the whole row. -/
theorem whole_of {w : World} {A : Option Addr} {l : List Int} (hr : Kd.C (Kd.int .u8) w A l.length l) (h : 0 < l.length) :
    ∃ ad, A = some ad ∧ w.cell? ad = some (.int .u8 (PrintWords.rd l 0)) ∧ ∀ i : Nat, 0 < i → i < l.length → w.cell? ⟨ad.block, ad.off + i, none⟩ = some (.int .u8 (PrintWords.rd l (i : Int))) := by
  obtain ⟨ad, rfl, hcell⟩ := (Kd.reads_of_C (enc := Value.int .u8) (d := (0 : Int)) (h1 := fun _ => rfl) hr).2.2 h
  refine ⟨ad, rfl, ?_, fun i h0 hi => ?_⟩
  · have := hcell 0 h
    rwa [Addr.add_zero'] at this
  · have := hcell i hi
    have e := add_field ad 0 i h0
    rw [Nat.zero_add, Addr.add_zero'] at e
    rwa [e] at this
theorem array_at {P : Program} {arr e : TypeId} {n len cap : Nat} {a : Option Addr} (hu : P.underlying arr = some (.array n e)) (h : n ≤ len) (W : World) : (Instr.arrayAt arr (.slice a len cap)).run P W = .ok (.pointer a) W := by
  simp only [Instr.arrayAt, Sem.run_bind, run_underlying hu, Result.andThen_ok]
  rw [if_neg (by omega)]
  rfl
theorem C_blk {k : IntKind} {e g o : Nat} {W : World} {xs : List Int} {cs : Array Value} (h : W.heap[g]? = some (.cells cs e (0, 0))) (hx : ∀ i, i < xs.length → cs[o + i]? = some (.int k (xs.getD i 0))) (hm : xs.length ≤ 9223372036854775807) : Kd.C (Kd.int k) W (some ⟨g, o, none⟩) xs.length xs := by
  refine Kd.C_of_reads (enc := Value.int k) (d := (0 : Int)) (h1 := fun _ => rfl) ⟨rfl, hm, fun _ => ⟨_, rfl, fun j hj => ?_⟩⟩
  have e1 : (⟨g, o, none⟩ : Addr).add j = ⟨g, o + j, none⟩ := by simp [Addr.add]
  rw [e1, blk_cell h, hx j hj]
/-- Where a call stands that has put its parameter into a box (block b) and made a row of bytes (block g). -/
structure St (w W : World) (b : Nat) (bx : Array Value) (tb : TypeId) (g : Nat) (cs : Array Value) (te : TypeId) : Prop where
  below : Below w.heap.size w W
  box : W.heap[b]? = some (.cells bx tb (0, 0))
  row : W.heap[g]? = some (.cells cs te (0, 0))
  geb : w.heap.size ≤ b
  ge : w.heap.size ≤ g
  ne : b ≠ g
variable {w W W' : World} {b g : Nat} {bx cs cs' : Array Value} {tb te : TypeId}
theorem St.grown (h : St w W b bx tb g cs te) (k : W.grownBy W' (some g)) (hr : W'.heap[g]? = some (.cells cs' te (0, 0))) : St w W' b bx tb g cs' te :=
  ⟨pw_below_grown h.below (some g) h.below.size k (fun q hq => by cases hq; exact h.ge), blk_grown h.box k (fun e => h.ne (by cases e; rfl)), hr, h.geb, h.ge, h.ne⟩
theorem St.later (h : St w W b bx tb g cs te) (k : Below W.heap.size W W') : St w W' b bx tb g cs te :=
  ⟨below_step h.below k, blk_below h.box k, blk_below h.row k, h.geb, h.ge, h.ne⟩
theorem St.drew (h : St w W b bx tb g cs te) : St w W.drew b bx tb g cs te := ⟨below_drew h.below, h.box, h.row, h.geb, h.ge, h.ne⟩
theorem St.drewN (h : St w W b bx tb g cs te) (n : Nat) : St w (W.drewN n) b bx tb g cs te := ⟨pw_below_drewN h.below n, h.box, h.row, h.geb, h.ge, h.ne⟩
theorem St.made (hb : Below w.heap.size w W) (hbx : W.heap[b]? = some (.cells bx tb (0, 0))) (hg : w.heap.size ≤ b) : St w (W.alloc (.cells cs te)) b bx tb W.heap.size cs te :=
  ⟨below_alloc hb _, blk_alloc hbx _, blk_new _ _, hg, hb.size, fun e => by have := blk_lt hbx; omega⟩
end
theorem u16_all : (if IntKind.u16.signed = true then (-1 : Int) else IntKind.u16.max) = 65535 := rfl
end Go.Proofs.YtipdajgcepefgaaW.Own
