/- Structs and arrays of whole numbers that come in as arguments, opened for a row; no condition but the row's own. -/
import Derived.ProofKit
import Derived.WideShapes
namespace Go.Proofs.YtipdajgcepefgaaW.Own
open Go Go.WideShapes
def OpenTo : List IntKind → (List Value → Prop) → Prop
  | [], R => R []
  | k :: ks, R => ∃ x : Int, (Lit.int k x).wf = true ∧ OpenTo ks (fun l => R (.int k x :: l))
theorem openTo_of : ∀ {R : List Value → Prop} (ks : List IntKind) (cs : List Value), ks.length = cs.length → (∀ (i : Nat) k c, ks[i]? = some k → cs[i]? = some c → ∃ x : Int, c = .int k x ∧ (Lit.int k x).wf = true) → R cs → OpenTo ks R
  | _, [], [], _, _, h => h
  | _, [], c :: cs, hl, _, _ => by simp at hl
  | _, k :: ks, [], hl, _, _ => by simp at hl
  | R, k :: ks, c :: cs, hl, hc, h => by
    obtain ⟨x, rfl, hw⟩ := hc 0 k c rfl rfl
    exact ⟨x, hw, openTo_of (R := fun l => R (.int k x :: l)) ks cs (by simpa using hl) (fun i k' c' h1 h2 => hc (i + 1) k' c' (by simpa using h1) (by simpa using h2)) h⟩
theorem open_agg {P : Program} {w : World} {r : Reach} {base t : Nat} {v : Value} {ts : List TypeId} (ks : List IntKind) (hagg : (match P.underlying t with | some (.struct _) | some (.array _ _) => true | _ => false) = true)
    (hts : P.cellTypes P.depth t = some ts) (hn : P.cellsOf t = ts.length) (hks : ts.map (fun u => P.underlying u) = ks.map (fun k => some (TypeDesc.int k))) (h : Value.okWide P w r base t v) : OpenTo ks (fun l => v = .agg l.toArray) := by
  have hl : ks.length = ts.length := by simpa using (congrArg List.length hks).symm
  have key : ∃ cs, v = .agg cs ∧ cs.size = P.cellsOf t ∧ Row.okWide P w r base t cs := by
    unfold Value.okWide at h
    split at h
    · exact h
    · exact h
    · rename_i h1 h2
      split at hagg
      · rename_i fs hu; exact absurd hu (h1 fs)
      · rename_i a b hu; exact absurd hu (h2 a b)
      · cases hagg
  obtain ⟨cs, rfl, hsz, ts', hts', _, hall⟩ := key
  rw [hts] at hts'
  obtain rfl := Option.some.inj hts'
  refine openTo_of ks cs.toList (by rw [hl, ← hn, ← hsz]; rfl) ?_ (by simp)
  intro i k c hk hc
  have hi : i < ts.length := by rw [← hl]; exact (List.getElem?_eq_some_iff.1 hk).1
  obtain ⟨u, hu, hok⟩ := hall i c (by rw [← Array.getElem?_toList]; exact hc)
  rw [Nat.mod_eq_of_lt hi] at hu
  have hun : P.underlying u = some (.int k) := by
    have := congrArg (fun l => l[i]?) hks
    simp only [List.getElem?_map, hu, hk, Option.map_some, Option.some.injEq] at this
    exact this
  have hv : Value.okWide P w r base u c := by
    unfold Value.okWide
    rw [hun]
    exact hok
  obtain ⟨x, rfl⟩ := okWide_int hun hv
  have hx : k.has x := by
    simp only [Value.okWide, hun, Cell.okWide, Cell.ok] at hv
    simpa using hv
  exact ⟨x, rfl, by simpa [Lit.wf, IntKind.has] using hx⟩
end Go.Proofs.YtipdajgcepefgaaW.Own
