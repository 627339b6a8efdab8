/- Words of this repo's own beside the print's: '==' of arrays of whole numbers, told as one Bool. -/
import Derived.Laws.StructEq
import Derived.ChangeKeysEq
import Derived.WalkKit
import Derived.Laws.CopyOwn
import Derived.Test.YtlgiibchnnaceaaWWords
namespace Go.Proofs.YtlgiibchnnaceaaW.Own
open Go Go.RowKit
section
variable {P : Program} {d c i : Nat} {is : List Nat} {e : TypeId} {xs ys : Array Value} {a b : Value} {r s : Bool} {w : World}
theorem eqi_last (ha : (part e xs (i * c)).run P w = .ok a w) (hb : (part e ys (i * c)).run P w = .ok b w) (he : (Op.equalIn d e a b).run P w = .ok r w) : (Op.eqItems d e c xs ys [i]).run P w = .ok r w := by
  simp only [Op.eqItems, Sem.run_bind, ha, hb, he, Result.andThen_ok]
  cases r <;> simp
theorem eqi_cons (ha : (part e xs (i * c)).run P w = .ok a w) (hb : (part e ys (i * c)).run P w = .ok b w) (he : (Op.equalIn d e a b).run P w = .ok r w) (hr : (Op.eqItems d e c xs ys is).run P w = .ok s w) : (Op.eqItems d e c xs ys (i :: is)).run P w = .ok (r && s) w := by
  rw [Op.eqItems]
  simp only [Sem.run_bind, ha, hb, he, Result.andThen_ok]
  cases r
  · simp
  · simpa using hr
theorem eqi_of {t : TypeId} {n : Nat} (hu : P.underlying t = some (.array n e)) (hi : (P.info? e).isSome = true) {l : List Nat} (hl : List.range n = l) (hc : P.cellsOf e = c) (h : (Op.eqItems d e c xs ys l).run P w = .ok r w) : (Op.equalIn (d + 1) t (.agg xs) (.agg ys)).run P w = .ok r w := by
  obtain ⟨inf, hi⟩ := Option.isSome_iff_exists.mp hi
  rw [run_equalIn_array w d xs ys hu hi, hl, hc]
  exact h
end

/-! A block of whole numbers that the call made: told as a row of the call's own -/
section
open Go.Proofs.YtlgiibchnnaceaaW.PrintWords
theorem row_own {k : IntKind} {e g base : Nat} {w : World} {xs : List Int} {cs : Array Value} (hb : w.heap[g]? = some (.cells cs e (0, 0))) (hcs : cs.toList = xs.map (Value.int k)) (hg : base ≤ g) (hm : xs.length ≤ maxLen) :
    Kd.R (Kd.int k) e w base (fun _ => True) (.slice (some ⟨g, 0, none⟩) xs.length xs.length) xs := by
  have hsz : cs.size = xs.length := by rw [← Array.length_toList, hcs, List.length_map]
  refine Kd.R_of_own ⟨by simp [encs], .inr ⟨g, xs.length, cs, rfl, hg, hb, Nat.le_refl _, hm, by rw [hsz, Nat.mul_one], ?_⟩⟩ (fun _ _ => trivial)
  rw [Nat.mul_one, hcs, List.take_of_length_le (by simp)]
  rfl
theorem grown_set {w : World} {g o : Nat} (v : Value) : w.grownBy (w.setCell ⟨g, o, none⟩ v) (some g) :=
  ⟨rfl, rfl, rfl, by simp [World.setCell], fun k _ hne => Below.heap_setCell w ⟨g, o, none⟩ v k (fun e => hne (by rw [e]))⟩
theorem grown_trans {w w1 w2 : World} {row : Option Nat} (h : w.grownBy w1 row) (k : w1.grownBy w2 row) : w.grownBy w2 row :=
  ⟨k.os.trans h.os, k.tape.trans h.tape, k.output.trans h.output, Nat.le_trans h.size k.size, fun i hi hne => (k.block i (Nat.lt_of_lt_of_le hi h.size) hne).trans (h.block i hi hne)⟩
/-- Where a call stands that has put its parameter into a box (block b) and made a row of bytes (block g). -/
structure St (w W : World) (b : Nat) (bx : Array Value) (tb : TypeId) (g : Nat) (cs : Array Value) (te : TypeId) : Prop where
  below : Below w.heap.size w W
  box : W.heap[b]? = some (.cells bx tb (0, 0))
  row : W.heap[g]? = some (.cells cs te (0, 0))
  geb : w.heap.size ≤ b
  ge : w.heap.size ≤ g
  ne : b ≠ g
variable {w W W' : World} {b g : Nat} {bx cs cs' : Array Value} {tb te : TypeId}
theorem St.grown (h : St w W b bx tb g cs te) (k : W.grownBy W' (some g)) (hr : W'.heap[g]? = some (.cells cs' te (0, 0))) : St w W' b bx tb g cs' te :=
  ⟨pw_below_grown h.below (some g) h.below.size k (fun q hq => by cases hq; exact h.ge), blk_grown h.box k (fun e => h.ne (by cases e; rfl)), hr, h.geb, h.ge, h.ne⟩
theorem St.later (h : St w W b bx tb g cs te) (k : Below W.heap.size W W') : St w W' b bx tb g cs te :=
  ⟨below_step h.below k, blk_below h.box k, blk_below h.row k, h.geb, h.ge, h.ne⟩
theorem St.drew (h : St w W b bx tb g cs te) : St w W.drew b bx tb g cs te := ⟨below_drew h.below, h.box, h.row, h.geb, h.ge, h.ne⟩
theorem St.drewN (h : St w W b bx tb g cs te) (n : Nat) : St w (W.drewN n) b bx tb g cs te := ⟨pw_below_drewN h.below n, h.box, h.row, h.geb, h.ge, h.ne⟩
theorem St.made (hb : Below w.heap.size w W) (hbx : W.heap[b]? = some (.cells bx tb (0, 0))) (hg : w.heap.size ≤ b) : St w (W.alloc (.cells cs te)) b bx tb W.heap.size cs te :=
  ⟨below_alloc hb _, blk_alloc hbx _, blk_new _ _, hg, hb.size, fun e => by have := blk_lt hbx; omega⟩
end
end Go.Proofs.YtlgiibchnnaceaaW.Own
