/- Sx, part 7: equality of aggregates of whole numbers. Conditions: none. -/
import Derived.Test.YtlgiibchnnaceaaSxP
set_option linter.unusedVariables false
set_option linter.unusedSimpArgs false
namespace Go.Proofs.Ytlgiibchnnaceaa.Sx
open Go Go.RowKit
section
variable {Φ : Sig} {ρ : Env} {β : Map} {w : World} {P : Program}

def ints : List IntKind → List Int → List Value
  | k :: ks, x :: xs => .int k x :: ints ks xs
  | _, _ => []
theorem ints_length : ∀ (ks : List IntKind) (xs : List Int), ks.length = xs.length → (ints ks xs).length = xs.length
  | [], [], _ => rfl
  | [], _ :: _, h => by simp at h
  | _ :: _, [], h => by simp at h
  | k :: ks, x :: xs, h => by simp [ints, ints_length ks xs (by simpa using h)]
theorem ints_append : ∀ (a : List IntKind) (x : List Int) (b : List IntKind) (y : List Int), a.length = x.length → ints (a ++ b) (x ++ y) = ints a x ++ ints b y
  | [], [], _, _, _ => rfl
  | [], _ :: _, _, _, h => by simp at h
  | _ :: _, [], _, _, h => by simp at h
  | k :: a, z :: x, b, y, h => by simp [ints, ints_append a x b y (by simpa using h)]
/-- A flat type's value: its cells as one value. -/
def FlatV (P : Program) (t : TypeId) (cs : List Value) (v : Value) : Prop :=
  (aggT P t = some true ∧ v = .agg cs.toArray) ∨ (aggT P t = some false ∧ cs = [v])
theorem flat_part {t : TypeId} {pre cs post : List Value} (ha : ∃ b, aggT P t = some b ∧ (b = false → cs.length = 1)) (hs : sizeT P t = some cs.length) {A : Array Value} (hA : A.toList = pre ++ (cs ++ post)) :
    ∃ v, (part t A pre.length).run P w = .ok v w ∧ FlatV P t cs v := by
  obtain ⟨b, hb, h1⟩ := ha
  have hag := aggT_ok hb w
  cases b with
  | true =>
    refine ⟨.agg cs.toArray, ?_, .inl ⟨hb, rfl⟩⟩
    simp only [part, Sem.run_bind, hag, Result.andThen_ok, if_true, sizeT_ok hs w, Sem.run_pure]
    congr 2
    apply Array.ext'
    rw [Array.toList_extract, hA]
    simp [List.extract]
  | false =>
    obtain ⟨v, rfl⟩ : ∃ v, cs = [v] := by
      match cs, h1 rfl with
      | [v], _ => exact ⟨v, rfl⟩
    refine ⟨v, ?_, .inr ⟨hb, rfl⟩⟩
    have : A[pre.length]? = some v := by
      rw [← Array.getElem?_toList, hA]; simp
    simp only [part, Sem.run_bind, hag, Result.andThen_ok, Bool.false_eq_true, if_false, this, Sem.run_pure]
theorem flat_agg {d : Nat} {t : TypeId} {ks : List IntKind} (h : flatK P d t = some ks) : ∃ b, aggT P t = some b ∧ (b = false → ks.length = 1) := by
  cases d with
  | zero => cases h
  | succ d =>
    unfold flatK at h
    unfold aggT
    split at h
    · rename_i hu; injection h with h; subst h; rw [hu]; exact ⟨false, rfl, fun _ => rfl⟩
    · rename_i hu; rw [hu]; exact ⟨true, rfl, fun h => by cases h⟩
    · rename_i hu; rw [hu]; exact ⟨true, rfl, fun h => by cases h⟩
    · cases h
theorem decide_append {x y x' y' : List Int} (hl : x.length = y.length) : decide (x ++ x' = y ++ y') = (decide (x = y) && decide (x' = y')) := by
  rw [← Bool.decide_and]
  apply decide_eq_decide.mpr
  exact ⟨fun h => List.append_inj h hl, fun h => by rw [h.1, h.2]⟩
def FlatEq (P : Program) (d : Nat) : Prop := ∀ (m : Nat) (t : TypeId) (ks : List IntKind), flatK P d t = some ks → ∀ (xs ys : List Int) (v u : Value) (w : World), ks.length = xs.length → ks.length = ys.length → FlatV P t (ints ks xs) v → FlatV P t (ints ks ys) u →
  (Op.equalIn (m + d) t v u).run P w = .ok (decide (xs = ys)) w
theorem eqFields_flat {d : Nat} (ih : FlatEq P d) (m : Nat) : ∀ (fs : List Field) (off : Nat) (ks : List IntKind), flatFs P (flatK P d) fs off = some ks → ∀ (pk : List IntKind) (px py xs ys : List Int) (A B : Array Value) (w : World), pk.length = px.length → pk.length = py.length → pk.length = off → ks.length = xs.length → ks.length = ys.length →
    A.toList = ints (pk ++ ks) (px ++ xs) → B.toList = ints (pk ++ ks) (py ++ ys) → (Op.eqFields (m + d) A B fs).run P w = .ok (decide (xs = ys)) w
  | [], off, ks, h, pk, px, py, xs, ys, A, B, w, _, _, _, hx, hy, _, _ => by
    simp only [flatFs] at h
    injection h with h
    subst h
    have : xs = [] := List.length_eq_zero_iff.mp hx.symm
    have : ys = [] := List.length_eq_zero_iff.mp hy.symm
    subst xs ys
    simp [Op.eqFields]
  | f :: fs, off, ks, h, pk, px, py, xs, ys, A, B, w, hpx, hpy, hoff, hx, hy, hA, hB => by
    simp only [flatFs] at h
    split at h
    · cases h
    · rename_i hname
      split at h
      · rename_i ho
        have ho := Nat.eq_of_beq_eq_true ho
        split at h
        · rename_i kf hkf
          split at h
          · rename_i hsz
            split at h
            · rename_i kr hkr
              injection h with h
              subst h
              simp only [List.length_append] at hx hy
              obtain ⟨x1, x2, rfl, hx1⟩ : ∃ x1 x2, xs = x1 ++ x2 ∧ x1.length = kf.length := ⟨xs.take kf.length, xs.drop kf.length, by simp, by simp; omega⟩
              obtain ⟨y1, y2, rfl, hy1⟩ : ∃ y1 y2, ys = y1 ++ y2 ∧ y1.length = kf.length := ⟨ys.take kf.length, ys.drop kf.length, by simp, by simp; omega⟩
              simp only [List.length_append] at hx hy
              have hA' : A.toList = ints pk px ++ (ints kf x1 ++ ints kr x2) := by rw [hA, ints_append _ _ _ _ hpx, ints_append _ _ _ _ hx1.symm]
              have hB' : B.toList = ints pk py ++ (ints kf y1 ++ ints kr y2) := by rw [hB, ints_append _ _ _ _ hpy, ints_append _ _ _ _ hy1.symm]
              have lx1 := ints_length kf x1 hx1.symm
              have ly1 := ints_length kf y1 hy1.symm
              obtain ⟨bb, hbb, hb1⟩ := flat_agg hkf
              obtain ⟨v, hv, hfv⟩ := flat_part (w := w) ⟨bb, hbb, fun e => by rw [lx1, hx1]; exact hb1 e⟩ (by rw [lx1, hx1]; exact hsz) hA'
              obtain ⟨u, hu, hfu⟩ := flat_part (w := w) ⟨bb, hbb, fun e => by rw [ly1, hy1]; exact hb1 e⟩ (by rw [ly1, hy1]; exact hsz) hB'
              rw [ints_length pk px hpx, ← hpx, hoff, ← ho] at hv
              rw [ints_length pk py hpy, ← hpy, hoff, ← ho] at hu
              have he := ih m f.type kf hkf x1 y1 v u w hx1.symm hy1.symm hfv hfu
              have hrest := eqFields_flat ih m fs (off + kf.length) kr hkr (pk ++ kf) (px ++ x1) (py ++ y1) x2 y2 A B w (by simp; omega) (by simp; omega) (by simp; omega) (by omega) (by omega)
                (by rw [hA]; simp) (by rw [hB]; simp)
              simp only [Op.eqFields, ne_eq, hname, not_false_eq_true, if_true, Sem.run_bind, hv, hu, he, Result.andThen_ok]
              rw [decide_append (by omega)]
              by_cases e : x1 = y1
              · simp only [e, decide_true, Bool.not_true, Bool.false_eq_true, if_false, Bool.true_and]
                exact hrest
              · simp [e]
            · cases h
          · cases h
        · cases h
      · cases h
theorem copies_length {α : Type} (l : List α) : ∀ n, (copies l n).length = n * l.length
  | 0 => by simp [copies]
  | n + 1 => by simp [copies, copies_length l n, Nat.succ_mul]; omega
theorem eqItems_flat {d : Nat} (ih : FlatEq P d) (m : Nat) {e : TypeId} {kf : List IntKind} (hkf : flatK P d e = some kf) (hsz : sizeT P e = some kf.length) : ∀ (n i : Nat) (pk : List IntKind) (px py xs ys : List Int) (A B : Array Value) (w : World), pk.length = px.length → pk.length = py.length → pk.length = i * kf.length → n * kf.length = xs.length → n * kf.length = ys.length →
    A.toList = ints (pk ++ copies kf n) (px ++ xs) → B.toList = ints (pk ++ copies kf n) (py ++ ys) → (Op.eqItems (m + d) e kf.length A B (List.range' i n)).run P w = .ok (decide (xs = ys)) w
  | 0, i, pk, px, py, xs, ys, A, B, w, _, _, _, hx, hy, _, _ => by
    simp only [Nat.zero_mul] at hx hy
    have : xs = [] := List.length_eq_zero_iff.mp hx.symm
    have : ys = [] := List.length_eq_zero_iff.mp hy.symm
    subst xs ys
    simp [Op.eqItems]
  | n + 1, i, pk, px, py, xs, ys, A, B, w, hpx, hpy, hoff, hx, hy, hA, hB => by
    have hm : (n + 1) * kf.length = kf.length + n * kf.length := by rw [Nat.succ_mul]; omega
    rw [hm] at hx hy
    obtain ⟨x1, x2, rfl, hx1⟩ : ∃ x1 x2, xs = x1 ++ x2 ∧ x1.length = kf.length := ⟨xs.take kf.length, xs.drop kf.length, by simp, by simp; omega⟩
    obtain ⟨y1, y2, rfl, hy1⟩ : ∃ y1 y2, ys = y1 ++ y2 ∧ y1.length = kf.length := ⟨ys.take kf.length, ys.drop kf.length, by simp, by simp; omega⟩
    simp only [List.length_append] at hx hy
    simp only [copies] at hA hB
    have hA' : A.toList = ints pk px ++ (ints kf x1 ++ ints (copies kf n) x2) := by rw [hA, ints_append _ _ _ _ hpx, ints_append _ _ _ _ hx1.symm]
    have hB' : B.toList = ints pk py ++ (ints kf y1 ++ ints (copies kf n) y2) := by rw [hB, ints_append _ _ _ _ hpy, ints_append _ _ _ _ hy1.symm]
    have lx1 := ints_length kf x1 hx1.symm
    have ly1 := ints_length kf y1 hy1.symm
    obtain ⟨bb, hbb, hb1⟩ := flat_agg hkf
    obtain ⟨v, hv, hfv⟩ := flat_part (w := w) ⟨bb, hbb, fun e => by rw [lx1, hx1]; exact hb1 e⟩ (by rw [lx1, hx1]; exact hsz) hA'
    obtain ⟨u, hu, hfu⟩ := flat_part (w := w) ⟨bb, hbb, fun e => by rw [ly1, hy1]; exact hb1 e⟩ (by rw [ly1, hy1]; exact hsz) hB'
    rw [ints_length pk px hpx, ← hpx, hoff] at hv
    rw [ints_length pk py hpy, ← hpy, hoff] at hu
    have he := ih m e kf hkf x1 y1 v u w hx1.symm hy1.symm hfv hfu
    have hrest := eqItems_flat ih m hkf hsz n (i + 1) (pk ++ kf) (px ++ x1) (py ++ y1) x2 y2 A B w (by simp; omega) (by simp; omega) (by simp [Nat.succ_mul]; omega) (by omega) (by omega)
      (by rw [hA]; simp) (by rw [hB]; simp)
    simp only [List.range'_succ, Op.eqItems, Sem.run_bind, hv, hu, he, Result.andThen_ok]
    rw [decide_append (by omega)]
    by_cases e : x1 = y1
    · simp only [e, decide_true, Bool.not_true, Bool.false_eq_true, if_false, Bool.true_and]
      exact hrest
    · simp [e]
theorem flat_eq : ∀ d, FlatEq P d
  | 0 => fun m t ks h => by cases h
  | d + 1 => fun m t ks h xs ys v u w hx hy hv hu => by
    have ih := flat_eq d
    rw [show m + (d + 1) = m + d + 1 by omega]
    unfold flatK at h
    split at h
    · rename_i k hu'
      injection h with h
      subst h
      match xs, hx with
      | [x], _ =>
        match ys, hy with
        | [y], _ =>
          have hag : aggT P t = some false := by unfold aggT; rw [hu']
          rcases hv with ⟨e, _⟩ | ⟨_, hv⟩
          · rw [hag] at e; cases e
          · rcases hu with ⟨e, _⟩ | ⟨_, hu⟩
            · rw [hag] at e; cases e
            · simp only [ints] at hv hu
              injection hv with hv _
              injection hu with hu _
              subst hv hu
              rw [run_equalIn_int w _ t k k x y hu']
              congr 1
              rw [show (x == y) = decide (x = y) from rfl]
              simp
    · rename_i fs hu'
      split at h
      · cases h
      · rename_i hst
        have hag : aggT P t = some true := by unfold aggT; rw [hu']
        rcases hv with ⟨_, rfl⟩ | ⟨e, _⟩
        · rcases hu with ⟨_, rfl⟩ | ⟨e, _⟩
          · have hf : P.fieldsOf t = fs := by unfold Program.fieldsOf; rw [hu']
            rw [run_equalIn_struct w _ t _ _ (by rw [hf]; exact hu') (by simpa using hst), hf]
            exact eqFields_flat ih m fs.toList 0 ks h [] [] [] xs ys _ _ w rfl rfl rfl hx hy (by simp) (by simp)
          · rw [hag] at e; cases e
        · rw [hag] at e; cases e
    · rename_i n e hu'
      split at h
      · rename_i kf hkf
        split at h
        · rename_i hsz
          injection h with h
          subst h
          rw [copies_length] at hx hy
          have hag : aggT P t = some true := by unfold aggT; rw [hu']
          rcases hv with ⟨_, rfl⟩ | ⟨e, _⟩
          · rcases hu with ⟨_, rfl⟩ | ⟨e, _⟩
            · obtain ⟨i, hi, his⟩ := Option.map_eq_some_iff.mp hsz
              rw [run_equalIn_array w _ _ _ hu' hi, show P.cellsOf e = kf.length by simp [Program.cellsOf, hi, his], List.range_eq_range']
              exact eqItems_flat ih m hkf hsz n 0 [] [] [] xs ys _ _ w rfl rfl (by simp) hx hy (by simp) (by simp)
            · rw [hag] at e; cases e
          · rw [hag] at e; cases e
        · cases h
      · cases h
    · cases h
end
end Go.Proofs.Ytlgiibchnnaceaa.Sx
