/- Sx laws, part 1: patterns of what is handed in, and what is asked of it. Conditions: none. -/
import Derived.Test.YtlgiibchnnaceaaSxU
set_option linter.unusedVariables false
set_option linter.unusedSimpArgs false
namespace Go.Proofs.Ytlgiibchnnaceaa.Sx
open Go

/-- A slice that is a whole row of bytes. -/
def slc (j v : Nat) : V := .c (.s j 1 0 (.num 0) (.c1 .len (.var v)))
def rowB (v : Nat) : MB := ⟨false, .row [.u8] (.var v)⟩
/-- A row is no longer than memory allows. -/
def short (v : Nat) (x : O Res) : O Res := .chk (.c2 .le (.c1 .len (.var v)) (.num 140737488351232)) x
def kinds (ks : List IntKind) (v : Nat) (x : O Res) : O Res := .chk (.c1 (.kin ks) (.var v)) x
def bytes (v : Nat) (x : O Res) : O Res := kinds [.u8] v x
def inR (v : Nat) (lo hi : Int) (x : O Res) : O Res := .chk (.c2 .le (.num lo) (.var v)) (.chk (.c2 .le (.var v) (.num hi)) x)
def truth (nb : Nat) : O Res := .ret ⟨.c (.b (.bol true)), [], nb⟩
/-- '==' of two slices of bytes. -/
def tEq : Tmpl := ⟨[slc 0 0, slc 1 1], [(0, rowB 0), (1, rowB 1)], 2, short 0 (short 1 (.ret ⟨.c (.b (.c2 .leq (.var 0) (.var 1))), [], 2⟩))⟩
/-- Kinds of whole numbers as cells over variables b, b + 1, .. -/
def cellsV (b : Nat) : List IntKind → List C
  | [] => []
  | k :: ks => .i k (.var b) :: cellsV (b + 1) ks
def inKs (b : Nat) : List IntKind → O Res → O Res
  | [], x => x
  | k :: ks, x => inR b (kmin k) (kmax k) (inKs (b + 1) ks x)
def copiesK (n : Nat) (k : IntKind) : List IntKind := List.replicate n k
/-- A loop that turns each byte of a slice: what is left of it does not matter. -/
def turnAll (id ti ta : Nat) (S : St) : Ann := match look S.tm ta with
  | some (.w (.c (.s j 1 0 (.num 0) n))) => .inv id ⟨[(ti, .c (.i .i64 (.var S.nv)))], [(j, some ⟨true, .row [.u8] (.var (S.nv + 1))⟩)], [], 2, [(.c2 .le (.num 0) (.var S.nv), true), (.c2 .eq (.c1 .len (.var (S.nv + 1))) n, true), (.c1 (.kin [.u8]) (.var (S.nv + 1)), true)]⟩
  | _ => .unroll 1

section
variable {Φ : Sig} {ρ : Env}
theorem chk_some {α : Type} {E : Ev} {t : T} {x : O α} {a : α} (h : (O.chk t x).val E = some a) : (E t).bool = true ∧ x.val E = some a := by
  simp only [O.val] at h
  split at h
  · exact ⟨by assumption, h⟩
  · cases h
theorem ret_some {α : Type} {E : Ev} {x a : α} (h : (O.ret x).val E = some a) : x = a := by
  simp only [O.val] at h; injection h
theorem noCons {P : Program} : ConsOk P Φ [] := fun f c h => by cases h
theorem moreCons {P : Program} {f : FuncId} {c : Con} {cons : List (Nat × Con)} (h : ConOk P Φ f c) (hc : ConsOk P Φ cons) : ConsOk P Φ ((f, c) :: cons) := by
  intro g d hd
  simp only [findCon] at hd
  split at hd
  · rename_i e
    injection hd with hd
    subst hd
    rw [← Nat.eq_of_beq_eq_true e]; exact h
  · exact hc g d hd
def Bytes (l : List Int) : Prop := ∀ z ∈ l, 0 ≤ z ∧ z < 256
theorem bytes_iff {l : List Int} : inKinds [.u8] 0 l = true ↔ Bytes l := by
  rw [inKinds_iff]
  constructor
  · intro h z hz
    obtain ⟨j, hj, e⟩ := List.getElem_of_mem hz
    have := h j z (by rw [List.getElem?_eq_getElem hj, e])
    simp [kAt, Nat.mod_one, kmin, kmax] at this
    omega
  · intro h j z hj
    have := h z (List.mem_of_getElem? hj)
    simp [kAt, Nat.mod_one, kmin, kmax]
    omega
theorem short_some {v : Nat} {x : O Res} {res : Res} (h : (short v x).val (T.den Φ ρ) = some res) : (ρ v).list.length ≤ 140737488351232 ∧ x.val (T.den Φ ρ) = some res := by
  replace h := chk_some h
  obtain ⟨h1, h⟩ := h
  simp [T.den, O2.den, U1.den] at h1
  exact ⟨by omega, h⟩
theorem bytes_some {v : Nat} {x : O Res} {res : Res} (h : (bytes v x).val (T.den Φ ρ) = some res) : Bytes (ρ v).list ∧ x.val (T.den Φ ρ) = some res := by
  replace h := chk_some h
  obtain ⟨h1, h⟩ := h
  refine ⟨bytes_iff.mp h1, h⟩
theorem inR_some {v : Nat} {lo hi : Int} {x : O Res} {res : Res} (h : (inR v lo hi x).val (T.den Φ ρ) = some res) : lo ≤ (ρ v).int ∧ (ρ v).int ≤ hi ∧ x.val (T.den Φ ρ) = some res := by
  replace h := chk_some h
  obtain ⟨h1, h⟩ := h
  replace h := chk_some h
  obtain ⟨h2, h⟩ := h
  simp [T.den, O2.den] at h1 h2
  exact ⟨h1, h2, h⟩
theorem inKs_some {x : O Res} {res : Res} : ∀ {ks : List IntKind} {b : Nat}, (inKs b ks x).val (T.den Φ ρ) = some res → (∀ i k, ks[i]? = some k → kmin k ≤ (ρ (b + i)).int ∧ (ρ (b + i)).int ≤ kmax k) ∧ x.val (T.den Φ ρ) = some res
  | [], b, h => ⟨fun i k h => by simp at h, h⟩
  | k :: ks, b, h => by
    obtain ⟨h1, h2, h⟩ := inR_some h
    obtain ⟨h3, h4⟩ := inKs_some h
    refine ⟨fun i k' hk => ?_, h4⟩
    cases i with
    | zero => simp only [List.getElem?_cons_zero, Option.some.injEq] at hk; subst hk; exact ⟨h1, h2⟩
    | succ i =>
      simp only [List.getElem?_cons_succ] at hk
      have := h3 i k' hk
      rw [show b + (i + 1) = b + 1 + i from by omega]; exact this
end
end Go.Proofs.Ytlgiibchnnaceaa.Sx
