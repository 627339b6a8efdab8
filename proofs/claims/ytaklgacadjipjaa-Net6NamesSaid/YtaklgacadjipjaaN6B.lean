/- Sx laws of layer 8: writing: the tree's leaves are true. Conditions: none. -/
import Derived.Test.YtaklgacadjipjaaN6R
import Derived.Test.YtaklgacadjipjaaTN6Bytes
set_option linter.unusedVariables false
set_option linter.unusedSimpArgs false
namespace Go.Proofs.Ytaklgacadjipjaa.Sx
open Go
theorem set_bytes {l : List Int} {i : Nat} {x : Int} (h : Bytes l) (hx : 0 ≤ x ∧ x < 256) : Bytes (l.set i x) := by
  intro z hz
  rcases List.mem_or_eq_of_mem_set hz with h1 | h1
  · exact h z h1
  · rw [h1]; exact hx
/-- A loop over a slice of the run's own: its length stays, its cells are bytes. -/
def turnJ (n : Env → Nat) : Inv := ⟨fun _ ρ ds => ∃ (i : Nat) (l : List Int), ds = [.i i, .l l] ∧ l.length = n ρ ∧ Bytes l ∧ i ≤ n ρ, fun _ ρ ds => n ρ - (nthD ds 0).int.toNat⟩
theorem n6bytes_ok : TmplOk Go.Proofs.Try.prog (fun _ _ _ _ => .i 0) 8 tN6Bytes := by
  refine tmpl_of cons6_ok treeN6Bytes_is (fun ρ res hres => ⟨turnJ (fun _ => 40), ?_⟩)
  obtain ⟨hk, hres⟩ := inKs_some hres
  obtain ⟨h0, hres⟩ := short_some hres
  obtain ⟨hb, hres⟩ := bytes_some hres
  obtain rfl := ret_some hres
  have v0 := hk 0 .u8 rfl
  have v1 := hk 1 .u32 rfl
  simp only [kmin, kmax, Nat.zero_add] at v0 v1
  refine ⟨fun c1 => leaf_true rfl (by decide), fun c1 => ⟨fun c2 => leaf_true rfl (by decide), fun c2 => ⟨fun c3 => ?_, fun c3 => ?_⟩⟩⟩
  · exfalso
    simp at c1 c3
    omega
  · refine ⟨⟨0, _, rfl, rfl, ?_, Nat.zero_le _⟩, ?_⟩
    · simp at c1 c2
      have hkk : ∀ i, 2 ≤ i → i < 36 → 0 ≤ (ρ i).int ∧ (ρ i).int ≤ 255 := by
        intro i h2 h3
        have := hk i .u8 (by
          have : ∀ j : Fin 36, 2 ≤ j.val → k6[j.val]? = some .u8 := by decide
          exact this ⟨i, h3⟩ h2)
        simpa [kmin, kmax] using this
      intro z hz
      simp only [list_cons, list_nil, int_add, int_sub, int_mul, int_fdiv, int_len, den_num, den_var, D.int_i, fdiv_lit, List.mem_cons, List.not_mem_nil, or_false] at hz
      rcases hz with rfl | rfl | rfl | rfl | rfl | rfl | hz
      · omega
      · omega
      · omega
      · omega
      · omega
      · omega
      · have : ∃ i, 2 ≤ i ∧ i < 36 ∧ z = (ρ i).int := by
          rcases hz with h | h | h | h | h | h | h | h | h | h | h | h | h | h | h | h | h | h | h | h | h | h | h | h | h | h | h | h | h | h | h | h | h | h <;> exact ⟨_, by decide, by decide, h⟩
        obtain ⟨i, h2, h3, rfl⟩ := this
        have := hkk i h2 h3
        omega
    · rintro ds hn ⟨i, l, rfl, hl, hbl, hi⟩
      replace hl : l.length = 40 := hl
      replace hi : i ≤ 40 := hi
      have e0 : upd ρ 37 [D.i (i : Int), D.l l] 37 = .i i := rfl
      have e1 : upd ρ 37 [D.i (i : Int), D.l l] 38 = .l l := rfl
      refine ⟨?_, fun c4 => ?_, fun c4 => leaf_true rfl (by decide)⟩
      · intro t p hm
        simp only [List.mem_cons, Prod.mk.injEq, List.not_mem_nil, or_false] at hm
        rcases hm with ⟨rfl, rfl⟩ | ⟨rfl, rfl⟩ | ⟨rfl, rfl⟩
        · simp [e0]
        · simp [e1, hl]
        · simp [e1]; exact hbl
      · simp [e0] at c4
        show BK.at_ _ 37 _ 37 _
        simp only [BK.at_, if_true]
        refine ⟨⟨i + 1, _, ?_, ?_, set_bytes (i := i) hbl (x := Go.bits .xor .u8 (l[i]?.getD 0) 90) ?_, (show i + 1 ≤ 40 by omega)⟩, ?_⟩
        · simp [T.den, O2.den, e0, e1, setL, Bo.op]
        · simpa using hl
        · have := bits_range .xor .u8 (l[i]?.getD 0) 90
          simp [kmin, kmax, Bo.op] at this
          omega
        · simp [turnJ, nthD, e0]; omega
end Go.Proofs.Ytaklgacadjipjaa.Sx
