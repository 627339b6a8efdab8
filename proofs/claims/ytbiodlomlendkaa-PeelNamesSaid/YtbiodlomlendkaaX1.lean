/- Sx: texts of this claim put together: PnA, TPnNames, PnK. Conditions: none. -/
import Derived.Test.YtbiodlomlendkaaY5
import Derived.Test.YtbiodlomlendkaaProg
import Derived.KernelRfl
/- Sx laws of peeling, the closed one: contracts of the others. Conditions: none. -/
set_option linter.unusedVariables false
namespace Go.Proofs.Ytbiodlomlendkaa.Sx
open Go
def annsPn : Anns := fun f i S => match f, i with
  | 7, 10 => .inv 0 ⟨[(7, .c (.i .i64 (.var S.nv)))], [], [], 1, [(.c2 .le (.num 0) (.var S.nv), true)]⟩
  | _, _ => .unroll 40
def consPn : List (Nat × Con) := (3, tPeels.con) :: (4, tWheres.con) :: (15, tTrue.con) :: consAw
def tPnames : Tmpl := ⟨[], [], 0, truth 1000000000⟩
end Go.Proofs.Ytbiodlomlendkaa.Sx
/- Sx: what Go function 7 does, as a tree of conditions (printed by a tool of this claim, proved by the kernel). Conditions: none. -/
set_option maxRecDepth 100000
namespace Go.Proofs.Ytbiodlomlendkaa.Sx
open Go
def treePnNames : M (V × St) :=
(.loop 0 0 1 [(.num 0)] [((.c2 .le (.num 0) (.var 0)), true)]
 (.split (.c2 .lt (.var 0) (.num 256))
  (.split (.c2 .eq (.var 0) (.num 6))
   (.back 0 0 [(.c2 .add (.var 0) (.num 1))])
   (.split (.c2 .eq (.var 0) (.num 17))
    (.back 0 0 [(.c2 .add (.var 0) (.num 1))])
    (.back 0 0 [(.c2 .add (.var 0) (.num 1))])))
  (.ret (.w (.c (.b (.bol true))), ⟨[], [], 405218, 1, []⟩))))
theorem treePnNames_is : funTree (ctxN Go.Proofs.Try.prog annsPn consPn 8) annsPn 7 tPnames.vs tPnames.bs tPnames.n (preF tPnames.res) = treePnNames := by kernel_rfl
end Go.Proofs.Ytbiodlomlendkaa.Sx
/- Sx laws of peeling, the closed one: the tree's leaf is true. Conditions: none. -/
set_option linter.unusedVariables false
namespace Go.Proofs.Ytbiodlomlendkaa.Sx
open Go
def namesJ : Inv := ⟨fun _ ρ ds => 0 ≤ (nthD ds 0).int ∧ (nthD ds 0).int ≤ 256, fun _ ρ ds => 256 - (nthD ds 0).int.toNat⟩
theorem plNames_ok : TmplOk Go.Proofs.Try.prog ΦP 7 tPnames := by
  refine tmpl_of (moreCons (con_ok plPeels_ok) (moreCons (con_ok wheres_ok) (moreCons (con_ok plAwake_ok) (moreCons (con_ok (eq_ok treePlEq_is)) (moreCons (con_ok clone_ok) noCons))))) treePnNames_is (fun ρ res hres => ⟨namesJ, ?_⟩)
  obtain rfl := ret_some hres
  refine ⟨⟨Int.le_refl _, (by decide : (0 : Int) ≤ 256)⟩, ?_⟩
  rintro ds hds ⟨i0, i1⟩
  have e0 : upd ρ 0 ds 0 = nthD ds 0 := upd_at (b := 0) (i := 0) (by omega)
  generalize upd ρ 0 ds = ρ1 at *
  have back : ∀ B : BK, (ρ1 0).int < 256 → M.ok (α := V × St) ΦP namesJ (.back 0 0 [(.c2 .add (.var 0) (.num 1))]) (BK.at_ B 0 fun ds' => namesJ.I 0 ρ ds' ∧ namesJ.μ 0 ρ ds' < namesJ.μ 0 ρ ds) ρ1 (fun _ ρ' r => Leaf ΦP ρ ρ' ⟨.c (.b (.bol true)), [], 1000000000⟩ r) := by
    intro B h
    have w : (T.den ΦP ρ1 (.c2 .add (.var 0) (.num 1))).int = (nthD ds 0).int + 1 := by rw [int_add, den_var, e0]; rfl
    rw [e0] at h
    refine ok_back ⟨⟨?_, ?_⟩, ?_⟩
    · show 0 ≤ (T.den ΦP ρ1 (.c2 .add (.var 0) (.num 1))).int; rw [w]; omega
    · show (T.den ΦP ρ1 (.c2 .add (.var 0) (.num 1))).int ≤ 256; rw [w]; omega
    · show 256 - (T.den ΦP ρ1 (.c2 .add (.var 0) (.num 1))).int.toNat < 256 - (nthD ds 0).int.toNat; rw [w]; omega
  refine ⟨?_, fun d => ⟨fun _ => back _ (lt_t _ _ _ _ |>.mp d), fun _ => ⟨fun _ => back _ (lt_t _ _ _ _ |>.mp d), fun _ => back _ (lt_t _ _ _ _ |>.mp d)⟩⟩, fun _ => leaf_true rfl (by decide)⟩
  intro t p hm
  simp only [List.mem_cons, Prod.mk.injEq, List.not_mem_nil, or_false] at hm
  obtain ⟨rfl, rfl⟩ := hm
  rw [le_t, den_var, e0]; exact i0
end Go.Proofs.Ytbiodlomlendkaa.Sx
