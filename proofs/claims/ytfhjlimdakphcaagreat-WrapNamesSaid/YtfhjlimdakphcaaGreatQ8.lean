/- Sx: texts of this claim put together: PkK, RmA, TPbBring, BrK, RmM, TRmPacksA, TRmPacksB, RpK, TWlPops, TWlPushes, WlK, TWlBack, WbK, NmA, TNm, NmK, Lm. Conditions: none. -/
import Derived.Test.YtfhjlimdakphcaaGreatQ7
import Derived.Test.YtfhjlimdakphcaaGreatProg
import Derived.KernelRfl
import Derived.ChangeArms
import Derived.OpenShut
import Derived.DataReads
set_option linter.unusedVariables false
set_option linter.unusedSimpArgs false
set_option maxRecDepth 100000
namespace Go.Proofs.YtfhjlimdakphcaaGreat.Sx
open Go
theorem there_ok : TmplOk Go.Proofs.Tryz.prog ΦP 30 tThere := by
 refine tmpl_of noCons treePkThere_is (fun ρ res hres => ⟨eqJ, ?_⟩)
 obtain ⟨hp, hres⟩ := pk_some hres
 obtain rfl := ret_some hres
 refine ⟨fun c => ⟨⟨rfl, rfl⟩, trivial, by decide⟩, fun c => ⟨?_, ⟨rfl, rfl⟩, trivial, by decide⟩⟩
 have f0 : 0 ≤ (ρ 1).int := hp.f0
 have tm : (ρ 2).int ≤ (ρ 0).list.length := hp.tm
 rw [lt_f, int_sub, den_var, den_var, den_num] at c
 replace c : (1 : Int) ≤ (ρ 2).int - (ρ 1).int := c
 rw [le_t, int_add, int_len, den_var, den_var, den_num]
 show (ρ 1).int + 1 ≤ _
 omega
theorem consOn_ok : ConsOk Go.Proofs.Tryz.prog ΦP consOn := moreCons (con_ok there_ok) (consRdApp (consWd_ok' sigW.toHdSig) (consRd_ok sigW.toHdSig))
theorem new_ok : TmplOk Go.Proofs.Tryz.prog ΦP 7 (tNew 1 2) := by
 refine tmpl_of noCons treePkNew_is (fun ρ res hres => ⟨eqJ, ?_⟩)
 obtain ⟨hl, hres⟩ := chk_some hres
 obtain ⟨hb, hres⟩ := bytes_some hres
 obtain ⟨h1, h2, hres⟩ := inR_some hres
 obtain ⟨h3, h4, hres⟩ := inR_some hres
 obtain ⟨_, hres⟩ := chk_some hres
 obtain ⟨_, hres⟩ := chk_some hres
 obtain rfl := ret_some hres
 rw [le_t, int_len, den_var, den_num] at hl
 replace hl : ((ρ 0).list.length : Int) ≤ 2048 := hl
 obtain ⟨a, ha⟩ := Int.eq_ofNat_of_zero_le h1
 obtain ⟨b, hb'⟩ := Int.eq_ofNat_of_zero_le h3
 have hrow : (T.den ΦP ρ newT).list = List.replicate a 0 ++ ((ρ 0).list ++ List.replicate b 0) := by
   show newMem (ρ 0).list (ρ 1).int (ρ 2).int = _
   rw [newMem, ha, hb', Int.toNat_natCast, Int.toNat_natCast]
 have hll : (T.den ΦP ρ (.c2 .add (.c2 .add (.var 1) (.c1 .len (.var 0))) (.var 2))).int = ((a + (ρ 0).list.length + b : Nat) : Int) := by rw [int_add, int_add, int_len, den_var, den_var, den_var, ha, hb']; omega
 refine ⟨⟨⟨rfl, rfl, rfl, rfl⟩, ⟨rfl, rfl⟩, trivial⟩, ⟨rfl, rfl, ⟨rfl, ⟨rfl, rfl, rfl, rfl, ?_⟩, ⟨rfl, rfl⟩, ⟨rfl, ?_⟩, ⟨rfl, rfl⟩, trivial⟩, rfl, rfl, ⟨rfl, ?_⟩, trivial⟩, by decide⟩
 · rw [int_len, hrow, hll]; simp only [List.length_append, List.length_replicate]; omega
 · rw [int_sub, hll, int_add, int_len, den_var, den_var, den_var, ha, hb']; omega
 · rw [hrow]
   show splL (List.replicate (T.den ΦP ρ (.c2 .add (.c2 .add (.var 1) (.c1 .len (.var 0))) (.var 2))).int.toNat [(0 : Int)]).flatten (ρ 1).int (ρ 0).list = _
   rw [rep0, hll, Int.toNat_natCast, ha, spl_at, List.take_replicate, List.drop_replicate, show min a (a + (ρ 0).list.length + b) = a from by omega, show a + (ρ 0).list.length + b - (a + (ρ 0).list.length) = b from by omega]
theorem on_ok : TmplOk Go.Proofs.Tryz.prog ΦP 13 (tOn 83) := by
 refine tmpl_gv 1 consOn_ok treePkOn_is (fun ρ res hres => ⟨eqJ, ?_⟩)
 obtain ⟨hp, hres⟩ := pk_some hres
 obtain ⟨hlo, hhi, hres⟩ := inR_some hres
 obtain ⟨hh, hres⟩ := kinH4_some hres
 have hr := on_res hp hres
 refine ⟨fun c1 => ?_, fun c1 => ?_⟩
 · rw [lt_t, den_var, den_num] at c1
   replace c1 : (ρ 4).int < 1 := c1
   exact leaf_on_err (e := 120) hp hr (by rw [pushErr, if_neg (not_head4 (by omega))]) (by decide) rfl (by decide)
 refine ⟨fun c2 => ?_, fun c2 => ?_⟩
 · rw [lt_t, den_var, den_num] at c2
   replace c2 : 6 < (ρ 4).int := c2
   exact leaf_on_err (e := 120) hp hr (by rw [pushErr, if_neg (not_head4 (by omega))]) (by decide) rfl (by decide)
 rw [lt_f, den_var, den_num] at c1 c2
 replace c1 : 1 ≤ (ρ 4).int := c1
 replace c2 : (ρ 4).int ≤ 6 := c2
 refine ⟨fun q => ?_, fun m1 => ?_⟩
 · rw [eq_t, den_var] at q
   have hk0 : (ρ 4).int = (1 : Nat) := q
   exact on_kind (B := fun _ _ => False) (F := varsT 5 13) hp hr (k := 1) (n2 := 1) (by decide) hk0 hh (fields4 (k := 1) (by decide)).symm (by decide) (bl := [(1, false), (1, true), (2, false), (2, true), (3, false), (3, true), (4, false), (4, true), (5, false), (5, true), (6, false), (6, true), (7, false), (7, true), (8, false), (8, true), (9, false), (9, true), (10, false), (10, true), (11, false), (11, true), (12, false), (12, true), (13, false), (13, true)]) (by decide)
 refine ⟨fun q => ?_, fun m2 => ?_⟩
 · rw [eq_t, den_var] at q
   have hk0 : (ρ 4).int = (2 : Nat) := q
   exact on_kind (B := fun _ _ => False) (F := varsT 18 3) hp hr (k := 2) (by decide) hk0 hh (fields4 (k := 2) (by decide)).symm (by decide) (bl := [(14, false), (15, false), (16, false), (16, true)]) (by decide)
 refine ⟨fun q => ?_, fun m3 => ?_⟩
 · rw [eq_t, den_var] at q
   have hk0 : (ρ 4).int = (3 : Nat) := q
   exact on_kind (B := fun _ _ => False) (F := varsT 21 12) hp hr (k := 3) (n2 := 1) (by decide) hk0 hh (fields4 (k := 3) (by decide)).symm (by decide) (bl := [(17, false), (17, true), (18, false), (18, true), (19, false), (19, true), (20, false), (20, true), (21, false), (21, true), (22, false), (22, true), (23, false), (23, true), (24, false), (24, true), (25, false), (25, true), (26, false), (26, true), (27, false), (27, true), (28, false), (28, true)]) (by decide)
 refine ⟨fun q => ?_, fun m4 => ?_⟩
 · rw [eq_t, den_var] at q
   have hk0 : (ρ 4).int = (4 : Nat) := q
   exact on_kind (B := fun _ _ => False) (F := varsT 33 36) hp hr (k := 4) (by decide) hk0 hh (fields4 (k := 4) (by decide)).symm (by decide) (bl := [(29, false), (29, true), (30, false), (31, false), (31, true), (32, false), (32, true), (33, false), (33, true), (34, false), (34, true), (35, false), (35, true), (36, false), (36, true), (37, false), (37, true), (38, false), (38, true), (39, false), (39, true), (40, false), (40, true), (41, false), (41, true), (42, false), (42, true), (43, false), (43, true), (44, false), (44, true), (45, false), (45, true), (46, false), (46, true), (47, false), (47, true), (48, false), (48, true), (49, false), (49, true), (50, false), (50, true), (51, false), (51, true), (52, false), (52, true), (53, false), (53, true), (54, false), (54, true), (55, false), (55, true), (56, false), (56, true), (57, false), (57, true), (58, false), (58, true), (59, false), (59, true), (60, false), (60, true), (61, false), (61, true), (62, false), (62, true), (63, false), (63, true), (64, false), (64, true)]) (by decide)
 refine ⟨fun q => ?_, fun m5 => ?_⟩
 · rw [eq_t, den_var] at q
   have hk0 : (ρ 4).int = (5 : Nat) := q
   exact on_kind (B := fun _ _ => False) (F := varsT 69 6) hp hr (k := 5) (by decide) hk0 hh (fields4 (k := 5) (by decide)).symm (by decide) (bl := [(65, false), (65, true), (66, false), (66, true), (67, false), (67, true), (68, false), (68, true), (69, false), (70, false), (70, true)]) (by decide)
 refine ⟨fun q => ?_, fun m6 => ?_⟩
 · rw [eq_t, den_var] at q
   have hk0 : (ρ 4).int = (6 : Nat) := q
   exact on_kind (B := fun _ _ => False) (F := varsT 75 2) hp hr (k := 6) (n2 := 1) (by decide) hk0 hh (fields4 (k := 6) (by decide)).symm (by decide) (bl := [(71, false), (71, true), (72, false), (72, true)]) (by decide)
 exfalso
 rw [eq_f, den_var] at m1
 rw [eq_f, den_var] at m2
 rw [eq_f, den_var] at m3
 rw [eq_f, den_var] at m4
 rw [eq_f, den_var] at m5
 rw [eq_f, den_var] at m6
 have h6 : ¬ (ρ 4).int = 1 ∧ ¬ (ρ 4).int = 2 ∧ ¬ (ρ 4).int = 3 ∧ ¬ (ρ 4).int = 4 ∧ ¬ (ρ 4).int = 5 ∧ ¬ (ρ 4).int = 6 := ⟨m1, m2, m3, m4, m5, m6⟩
 omega
theorem off_ok : TmplOk Go.Proofs.Tryz.prog ΦP 10 tOff := by
 refine tmpl_of consOn_ok treePkOff_is (fun ρ res hres => ⟨eqJ, ?_⟩)
 obtain ⟨hp, hres⟩ := pk_some hres
 obtain ⟨hlo, hhi, hres⟩ := inR_some hres
 have hr := off_res hp hres
 refine ⟨fun c1 => ?_, fun c1 => ?_⟩
 · rw [lt_t, den_var, den_num] at c1
   replace c1 : (ρ 4).int < 1 := c1
   exact leaf_off_err (e := 120) hp hr (by rw [popErr, if_neg (by omega)]) (by decide) rfl (by decide)
 refine ⟨fun c2 => ?_, fun c2 => ?_⟩
 · rw [lt_t, den_var, den_num] at c2
   replace c2 : 6 < (ρ 4).int := c2
   exact leaf_off_err (e := 120) hp hr (by rw [popErr, if_neg (by omega)]) (by decide) rfl (by decide)
 rw [lt_f, den_var, den_num] at c1 c2
 replace c1 : 1 ≤ (ρ 4).int := c1
 replace c2 : (ρ 4).int ≤ 6 := c2
 refine ⟨fun q => ?_, fun m1 => ?_⟩
 · rw [eq_t, den_var] at q
   have hk0 : (ρ 4).int = (1 : Nat) := q
   exact offK_ok (B := fun _ _ => False) hp hr (k := 1) (z := -14) (by decide) hk0 (by decide) (by decide)
 refine ⟨fun q => ?_, fun m2 => ?_⟩
 · rw [eq_t, den_var] at q
   have hk0 : (ρ 4).int = (2 : Nat) := q
   exact offK_ok (B := fun _ _ => False) hp hr (k := 2) (z := -4) (by decide) hk0 (by decide) (by decide)
 refine ⟨fun q => ?_, fun m3 => ?_⟩
 · rw [eq_t, den_var] at q
   have hk0 : (ρ 4).int = (3 : Nat) := q
   exact offK_ok (B := fun _ _ => False) hp hr (k := 3) (z := -20) (by decide) hk0 (by decide) (by decide)
 refine ⟨fun q => ?_, fun m4 => ?_⟩
 · rw [eq_t, den_var] at q
   have hk0 : (ρ 4).int = (4 : Nat) := q
   exact offK_ok (B := fun _ _ => False) hp hr (k := 4) (z := -40) (by decide) hk0 (by decide) (by decide)
 refine ⟨fun q => ?_, fun m5 => ?_⟩
 · rw [eq_t, den_var] at q
   have hk0 : (ρ 4).int = (5 : Nat) := q
   exact offK_ok (B := fun _ _ => False) hp hr (k := 5) (z := -20) (by decide) hk0 (by decide) (by decide)
 refine ⟨fun q => ?_, fun m6 => ?_⟩
 · rw [eq_t, den_var] at q
   have hk0 : (ρ 4).int = (6 : Nat) := q
   exact offK_ok (B := fun _ _ => False) hp hr (k := 6) (z := -8) (by decide) hk0 (by decide) (by decide)
 exfalso
 rw [eq_f, den_var] at m1
 rw [eq_f, den_var] at m2
 rw [eq_f, den_var] at m3
 rw [eq_f, den_var] at m4
 rw [eq_f, den_var] at m5
 rw [eq_f, den_var] at m6
 have h6 : ¬ (ρ 4).int = 1 ∧ ¬ (ρ 4).int = 2 ∧ ¬ (ρ 4).int = 3 ∧ ¬ (ρ 4).int = 4 ∧ ¬ (ρ 4).int = 5 ∧ ¬ (ρ 4).int = 6 := ⟨m1, m2, m3, m4, m5, m6⟩
 omega
end Go.Proofs.YtfhjlimdakphcaaGreat.Sx
set_option linter.unusedVariables false
namespace Go.Proofs.YtfhjlimdakphcaaGreat.Sx
open Go
def kDo : List IntKind := .u8 :: .u8 :: kHead
def k4 : List IntKind := [.i64, .i64, .i64, .i64]
def k2 : List IntKind := [.i64, .i64]
def pkFs (v : Nat) : Facts := [(.c2 .le (.num 0) (.var (v + 1)), true), (.c2 .le (.var (v + 1)) (.var (v + 2)), true), (.c2 .le (.var (v + 2)) (.c1 .len (.var v)), true), (.c2 .le (.c2 .sub (.var (v + 2)) (.var (v + 1))) (.num 2048), true), (.c2 .le (.c1 .len (.var v)) (.num 2560), true),
 (.c2 .le (.var (v + 1)) (.num 2560), true), (.c2 .le (.num 0) (.var (v + 2)), true), (.c2 .le (.var (v + 2)) (.num 2560), true), (.c2 .le (.num 0) (.var (v + 3)), true), (.c2 .le (.var (v + 3)) (.num 1000), true), (.c1 (.kin [.u8]) (.var v), true)]
def memOf (me : List (Nat × Option MB)) (j : Nat) : Nat := match lookM me j with
 | some ⟨_, .cells (_ :: .s jm _ _ _ _ :: _)⟩ => jm
 | _ => 0
def annsRm : Anns := fun f i S => match f, i with
 | 132533, 10 => match look S.tm 7, look S.tm 9 with
   | some (.w (.c (.p jp _ _ _))), some (.w (.c (.p jq _ _ _))) => .inv 0 ⟨[(11, .c (.i .i64 (.var S.nv)))],
     [(jp, some ⟨true, .cells (pkC S.nb (S.nv + 1))⟩), (jq, some ⟨true, .cells (pkC (S.nb + 1) (S.nv + 5))⟩), (memOf S.me jp, none), (memOf S.me jq, none)],
     [⟨true, .row [.u8] (.var (S.nv + 1))⟩, ⟨true, .row [.u8] (.var (S.nv + 5))⟩], 9, (.c2 .le (.num 0) (.var S.nv), true) :: (pkFs (S.nv + 1) ++ pkFs (S.nv + 5))⟩
   | _, _ => .unroll 1
 | 3, 9 => match look S.tm 7, look S.tm 9 with
   | some (.w (.c (.p jp _ _ _))), some (.w (.c (.s jn _ _ _ _))) => .inv 0 ⟨[(11, .c (.i .i64 (.var S.nv))), (10, .c (.i .i64 (.var (S.nv + 5)))), (9, .c (.s (S.nb + 1) 1 0 (.num 0) (.var (S.nv + 6))))],
     [(jp, some ⟨true, .cells (pkC S.nb (S.nv + 1))⟩), (memOf S.me jp, none), (jn, none)],
     [⟨true, .row [.u8] (.var (S.nv + 1))⟩, ⟨true, .row [.u8] (.var (S.nv + 7))⟩], 8, (.c2 .le (.num 0) (.var S.nv), true) :: (.c2 .le (.num 0) (.var (S.nv + 5)), true) :: (.c2 .le (.var (S.nv + 5)) (.num 1000), true) :: (.c2 .le (.num 0) (.var (S.nv + 6)), true) :: (.c2 .le (.var (S.nv + 6)) (.num 2048), true) :: (.c2 .eq (.c1 .len (.var (S.nv + 7))) (.var (S.nv + 6)), true) :: (.c1 (.kin [.u8]) (.var (S.nv + 7)), true) :: pkFs (S.nv + 1)⟩
   | _, _ => .unroll 1
 | _, _ => .unroll 40
def consRm : List (Nat × Con) := (17, tTrue.con) :: (14, tEq.con) :: (39, tClone.con) :: (8, tBring.con) :: (7, (tNew 1 2).con) :: (13, (tOn 83).con) :: (10, tOff.con) ::
 (12, (tPush 68).con) :: (11, (tPop 68).con) :: []
def slcDo (j n : Nat) : V := .c (.s j 75 0 (.num 0) (.var n))
def cutA (x : O Res) : O Res := .chk (.c2 .le (.c1 .len (.var 0)) (.num 2048)) x
def cutB (x : O Res) : O Res := .chk (.c2 .lt (.num 2048) (.c1 .len (.var 0))) x
def tPacks : Tmpl := ⟨[slc 0 0, .w (.g (cellsV 1 k2)), slcDo 1 3], [(0, rowB 0), (1, ⟨false, .mix kDo (.var 4)⟩)], 5, short 0 (bytes 0 (inKs 1 k2 (.chk (.c2 .le (.num 0) (.var 3)) (.chk (.c2 .le (.var 3) (.num 140737488351232)) (.chk (.c2 .eq (.c1 .len (.var 4)) (.c2 .mul (.var 3) (.num 75))) (.chk (.c1 (.kin kDo) (.var 4)) (truth 100000)))))))⟩
def tPacksB : Tmpl := ⟨[slc 0 0, .w (.g (cellsV 1 k2)), slcDo 1 3], [(0, rowB 0), (1, ⟨false, .mix kDo (.var 4)⟩)], 5, cutB (short 0 (bytes 0 (inKs 1 k2 (.chk (.c2 .le (.num 0) (.var 3)) (.chk (.c2 .le (.var 3) (.num 140737488351232)) (.chk (.c2 .eq (.c1 .len (.var 4)) (.c2 .mul (.var 3) (.num 75))) (.chk (.c1 (.kin kDo) (.var 4)) (truth 100000))))))))⟩
def tPacksA : Tmpl := ⟨[slc 0 0, .w (.g (cellsV 1 k2)), slcDo 1 3], [(0, rowB 0), (1, ⟨false, .mix kDo (.var 4)⟩)], 5, cutA (short 0 (bytes 0 (inKs 1 k2 (.chk (.c2 .le (.num 0) (.var 3)) (.chk (.c2 .le (.var 3) (.num 140737488351232)) (.chk (.c2 .eq (.c1 .len (.var 4)) (.c2 .mul (.var 3) (.num 75))) (.chk (.c1 (.kin kDo) (.var 4)) (truth 100000))))))))⟩
end Go.Proofs.YtfhjlimdakphcaaGreat.Sx
set_option maxRecDepth 100000
namespace Go.Proofs.YtfhjlimdakphcaaGreat.Sx
open Go
def treePbBring : M (V × St) :=
(.split (.c2 .lt (.c2 .rem (.var 0) (.var 1)) (.num 0))
 (.ret (.w (.c (.i .i64 (.wr .i64 (.c2 .add (.c2 .rem (.var 0) (.var 1)) (.var 1))))), ⟨[], [], 0, 2, []⟩))
 (.ret (.w (.c (.i .i64 (.c2 .rem (.var 0) (.var 1)))), ⟨[], [], 0, 2, []⟩)))
theorem treePbBring_is : funTree (ctxN Go.Proofs.Tryz.prog annsPb [] 8) annsPb 8 tBring.vs tBring.bs tBring.n (preF tBring.res) = treePbBring := by kernel_rfl
end Go.Proofs.YtfhjlimdakphcaaGreat.Sx
set_option linter.unusedVariables false
set_option linter.unusedSimpArgs false
namespace Go.Proofs.YtfhjlimdakphcaaGreat.Sx
open Go
theorem bring_ok : TmplOk Go.Proofs.Tryz.prog ΦP 8 tBring := by
 refine tmpl_of noCons treePbBring_is (fun ρ res hres => ⟨eqJ, ?_⟩)
 obtain ⟨h1, h2, hres⟩ := inR_some hres
 obtain ⟨h3, h4, hres⟩ := inR_some hres
 obtain ⟨_, hres⟩ := chk_some hres
 obtain ⟨_, hres⟩ := chk_some hres
 obtain rfl := ret_some hres
 have hr := bring_range (ρ 0).int (n := (ρ 1).int) h3
 refine ⟨fun c => ?_, fun c => ?_⟩
 · rw [lt_t, int_rem, den_var, den_var, den_num] at c
   have c : (ρ 0).int.tmod (ρ 1).int < 0 := c
   refine ⟨⟨rfl, ?_⟩, trivial, by decide⟩
   rw [int_wr, int_add, int_rem, den_var, den_var]
   show _ = bringI (ρ 0).int (ρ 1).int
   rw [bringI, if_pos c] at hr ⊢
   exact wrap_is (by simp only [kmin]; omega) (by simp only [kmax]; omega)
 · rw [lt_f, int_rem, den_var, den_var, den_num] at c
   have c : 0 ≤ (ρ 0).int.tmod (ρ 1).int := c
   refine ⟨⟨rfl, ?_⟩, trivial, by decide⟩
   rw [int_rem, den_var, den_var]
   show _ = bringI (ρ 0).int (ρ 1).int
   rw [bringI, if_neg (by omega)]
end Go.Proofs.YtfhjlimdakphcaaGreat.Sx
set_option linter.unusedVariables false
namespace Go.Proofs.YtfhjlimdakphcaaGreat.Sx
open Go
structure PkL (m : List Int) (f t : Int) : Prop where
 f0 : 0 ≤ f
 ft : f ≤ t
 tm : t ≤ m.length
 d : t - f ≤ 2048
 ml : m.length ≤ 2560
 bytes : Bytes m
section
variable {m H : List Int} {f t : Int}
theorem PkL.len (h : PkL m f t) : ((dataOf m f t).length : Int) = t - f := by
 have h1 := h.f0
 have h2 := h.ft
 have h3 := h.tm
 rw [dataOf, List.length_take, List.length_drop]; omega
theorem PkL.dbytes (h : PkL m f t) : Bytes (dataOf m f t) := bytes_take (bytes_drop h.bytes _) _
theorem bytes_app {a b : List Int} (ha : Bytes a) (hb : Bytes b) : Bytes (a ++ b) := by
 intro z hz
 rcases List.mem_append.mp hz with hz | hz
 · exact ha z hz
 · exact hb z hz
theorem bytes_rep (n : Nat) : Bytes (List.replicate n 0) := by
 intro z hz
 rw [List.eq_of_mem_replicate hz]; decide
structure OnL (m H : List Int) (f t n : Int) : Prop where
 pk : PkL (onMem m [f, t] H) (onFrom f n) (onFrom f n + (n + (t - f)))
 data : dataOf (onMem m [f, t] H) (onFrom f n) (onFrom f n + (n + (t - f))) = pushRow H (dataOf m f t)
 n4 : 4 ≤ n
 n40 : n ≤ 40
 short : n + (t - f) ≤ 2048
theorem size4 {k : Nat} (hk : 1 ≤ k ∧ k ≤ 6) : 4 ≤ hdSize k ∧ hdSize k ≤ 40 := by
 have : k = 1 ∨ k = 2 ∨ k = 3 ∨ k = 4 ∨ k = 5 ∨ k = 6 := by omega
 rcases this with rfl | rfl | rfl | rfl | rfl | rfl <;> decide
theorem on_l (hp : PkL m f t) (hH : GoodInts kHead H) (h : pushErr H (dataOf m f t) = 0) : OnL m H f t (hdSize (g H 0).toNat) := by
 obtain ⟨k, P⟩ := pushed hH hp.dbytes h
 have hd := hp.len
 have h1 := hp.f0
 have h2 := hp.ft
 have h3 := hp.tm
 have h4 := hp.d
 have h5 := hp.ml
 have s4 := size4 P.kind
 rw [P.at0, Int.toNat_natCast]
 have hl := P.len
 have hs := P.short
 have hhl : (headRow H (dataOf m f t)).length = hdSize k := by
   rw [pushRow, List.length_append] at hl; omega
 have hhb : Bytes (headRow H (dataOf m f t)) := fun z hz => P.bytes z (List.mem_append_left _ hz)
 by_cases c : f < hdSize k
 · have hm : onMem m [f, t] H = List.replicate 64 0 ++ (pushRow H (dataOf m f t) ++ List.replicate 64 0) := by
     rw [onMem, P.at0, Int.toNat_natCast, if_pos (show g [f, t] 0 < hdSize k from c)]; rfl
   have hf : onFrom f (hdSize k) = 64 := by rw [onFrom, if_pos c]
   have hml : (onMem m [f, t] H).length = 64 + (hdSize k + (dataOf m f t).length + 64) := by
     rw [hm, List.length_append, List.length_append, List.length_replicate, hl]
   have hby : Bytes (onMem m [f, t] H) := by
     rw [hm]; exact bytes_app (bytes_rep _) (bytes_app P.bytes (bytes_rep _))
   refine ⟨by rw [hf]; exact ⟨by omega, by omega, by omega, by omega, by omega, hby⟩, ?_, by omega, by omega, by omega⟩
   · rw [hf, hm, dataOf, show (64 : Int).toNat = 64 from rfl, List.drop_append_of_le_length (by simp), List.drop_of_length_le (by simp), List.nil_append,
       show ((64 : Int) + ((hdSize k : Int) + (t - f))).toNat - 64 = (pushRow H (dataOf m f t)).length from by omega,
       List.take_append_of_le_length (Nat.le_refl _), List.take_of_length_le (Nat.le_refl _)]
 · have hm : onMem m [f, t] H = m.take (f.toNat - hdSize k) ++ (headRow H (dataOf m f t) ++ m.drop f.toNat) := by
     rw [onMem, P.at0, Int.toNat_natCast, if_neg (show ¬ g [f, t] 0 < hdSize k from c)]; rfl
   have hf : onFrom f (hdSize k) = f - hdSize k := by rw [onFrom, if_neg c]
   have hml : (onMem m [f, t] H).length = m.length := by
     rw [hm, List.length_append, List.length_append, List.length_take, List.length_drop, hhl]; omega
   have hby : Bytes (onMem m [f, t] H) := by
     rw [hm]; exact bytes_app (bytes_take hp.bytes _) (bytes_app hhb (bytes_drop hp.bytes _))
   refine ⟨by rw [hf]; exact ⟨by omega, by omega, by omega, by omega, by omega, hby⟩, ?_, by omega, by omega, by omega⟩
   · have ht : (m.take (f.toNat - hdSize k)).length = (f - hdSize k).toNat := by rw [List.length_take]; omega
     rw [hf, hm, dataOf, ← ht, List.drop_left, ht, List.take_append, hhl, List.take_of_length_le (by rw [hhl]; omega), pushRow, dataOf,
       show (f - (hdSize k : Int) + ((hdSize k : Int) + (t - f))).toNat - (f - (hdSize k : Int)).toNat - hdSize k = t.toNat - f.toNat from by omega]
structure OffL (m : List Int) (f t n : Int) (k : Int) : Prop where
 pk : PkL m (f + n) t
 data : dataOf m (f + n) t = popRest (dataOf m f t) k
 n4 : 4 ≤ n
 le : n ≤ t - f
 bytes : Bytes (popRest (dataOf m f t) k)
theorem off_l {k : Int} (hp : PkL m f t) (h : popErr (dataOf m f t) k = 0) : OffL m f t (hdSize k.toNat) k := by
 rw [popErr] at h
 split at h
 case isFalse => cases h
 rename_i hk
 have hz := rd_size h
 have hd := hp.len
 have h1 := hp.f0
 have h2 := hp.ft
 have h3 := hp.tm
 have h4 := hp.d
 have h5 := hp.ml
 have s4 := size4 (k := k.toNat) (by omega)
 refine ⟨⟨by omega, by omega, h3, by omega, h5, hp.bytes⟩, ?_, by omega, by omega, bytes_drop hp.dbytes _⟩
 rw [popRest, dataOf, dataOf, List.drop_take, List.drop_drop, show (f + (hdSize k.toNat : Int)).toNat = f.toNat + hdSize k.toNat from by omega,
   show t.toNat - (f.toNat + hdSize k.toNat) = t.toNat - f.toNat - hdSize k.toNat from by omega]
theorem new_l {b : List Int} {h e : Int} (hb : Bytes b) (hl : b.length ≤ 2048) (h0 : 0 ≤ h) (h1 : h < 257) (e0 : 0 ≤ e) (e1 : e < 257) :
   PkL (newMem b h e) h (h + b.length) ∧ dataOf (newMem b h e) h (h + b.length) = b := by
 have hlen : (newMem b h e).length = h.toNat + (b.length + e.toNat) := by simp [newMem]
 refine ⟨⟨h0, by omega, by omega, by omega, by omega, bytes_app (bytes_rep _) (bytes_app hb (bytes_rep _))⟩, ?_⟩
 rw [newMem, dataOf, List.drop_append_of_le_length (by simp), List.drop_of_length_le (by simp), List.nil_append, show (h + (b.length : Int)).toNat - h.toNat = b.length from by omega,
   List.take_append_of_le_length (Nat.le_refl _), List.take_of_length_le (Nat.le_refl _)]
end
end Go.Proofs.YtfhjlimdakphcaaGreat.Sx
set_option maxRecDepth 100000
namespace Go.Proofs.YtfhjlimdakphcaaGreat.Sx
open Go
def xRmPacksA0 : T := (.fn 75 (.c2 .take (.c2 .sub (.var 8) (.var 7)) (.c2 .drop (.var 7) (.var 6))) (.c2 .rd (.var 4) (.c2 .add (.c2 .mul (.var 5) (.num 75)) (.num 1))) .nil)
def xRmPacksA1 : T := (.fn 76 (.c2 .take (.c2 .sub (.var 8) (.var 7)) (.c2 .drop (.var 7) (.var 6))) (.c2 .rd (.var 4) (.c2 .add (.c2 .mul (.var 5) (.num 75)) (.num 1))) .nil)
def xRmPacksA2 : T := (.cons (.wr .u8 (.c2 .rd xRmPacksA1 (.num 0))) (.cons (.wr .u8 (.c2 .rd xRmPacksA1 (.num 1))) (.cons (.wr .u8 (.c2 .rd xRmPacksA1 (.num 2))) (.cons (.wr .u8 (.c2 .rd xRmPacksA1 (.num 3))) (.cons (.wr .u8 (.c2 .rd xRmPacksA1 (.num 4))) (.cons (.wr .u8 (.c2 .rd xRmPacksA1 (.num 5))) (.cons (.wr .u8 (.c2 .rd xRmPacksA1 (.num 6))) (.cons (.wr .u8 (.c2 .rd xRmPacksA1 (.num 7))) (.cons (.wr .u8 (.c2 .rd xRmPacksA1 (.num 8))) (.cons (.wr .u8 (.c2 .rd xRmPacksA1 (.num 9))) (.cons (.wr .u8 (.c2 .rd xRmPacksA1 (.num 10))) (.cons (.wr .u8 (.c2 .rd xRmPacksA1 (.num 11))) (.cons (.wr .u8 (.c2 .rd xRmPacksA1 (.num 12))) (.cons (.wr .u16 (.c2 .rd xRmPacksA1 (.num 13))) (.cons (.wr .u8 (.c2 .rd xRmPacksA1 (.num 14))) (.cons (.wr .u16 (.c2 .rd xRmPacksA1 (.num 15))) (.cons (.wr .u16 (.c2 .rd xRmPacksA1 (.num 16))) (.cons (.wr .u8 (.c2 .rd xRmPacksA1 (.num 17))) (.cons (.wr .u8 (.c2 .rd xRmPacksA1 (.num 18))) (.cons (.wr .u8 (.c2 .rd xRmPacksA1 (.num 19))) (.cons (.wr .u16 (.c2 .rd xRmPacksA1 (.num 20))) (.cons (.wr .u8 (.c2 .rd xRmPacksA1 (.num 21))) (.cons (.wr .u8 (.c2 .rd xRmPacksA1 (.num 22))) (.cons (.wr .u8 (.c2 .rd xRmPacksA1 (.num 23))) (.cons (.wr .u8 (.c2 .rd xRmPacksA1 (.num 24))) (.cons (.wr .u8 (.c2 .rd xRmPacksA1 (.num 25))) (.cons (.wr .u8 (.c2 .rd xRmPacksA1 (.num 26))) (.cons (.wr .u8 (.c2 .rd xRmPacksA1 (.num 27))) (.cons (.wr .u8 (.c2 .rd xRmPacksA1 (.num 28))) (.cons (.wr .u8 (.c2 .rd xRmPacksA1 (.num 29))) (.cons (.wr .u32 (.c2 .rd xRmPacksA1 (.num 30))) (.cons (.wr .u8 (.c2 .rd xRmPacksA1 (.num 31))) (.cons (.wr .u8 (.c2 .rd xRmPacksA1 (.num 32))) (.cons (.wr .u8 (.c2 .rd xRmPacksA1 (.num 33))) (.cons (.wr .u8 (.c2 .rd xRmPacksA1 (.num 34))) (.cons (.wr .u8 (.c2 .rd xRmPacksA1 (.num 35))) (.cons (.wr .u8 (.c2 .rd xRmPacksA1 (.num 36))) (.cons (.wr .u8 (.c2 .rd xRmPacksA1 (.num 37))) (.cons (.wr .u8 (.c2 .rd xRmPacksA1 (.num 38))) (.cons (.wr .u8 (.c2 .rd xRmPacksA1 (.num 39))) (.cons (.wr .u8 (.c2 .rd xRmPacksA1 (.num 40))) (.cons (.wr .u8 (.c2 .rd xRmPacksA1 (.num 41))) (.cons (.wr .u8 (.c2 .rd xRmPacksA1 (.num 42))) (.cons (.wr .u8 (.c2 .rd xRmPacksA1 (.num 43))) (.cons (.wr .u8 (.c2 .rd xRmPacksA1 (.num 44))) (.cons (.wr .u8 (.c2 .rd xRmPacksA1 (.num 45))) (.cons (.wr .u8 (.c2 .rd xRmPacksA1 (.num 46))) (.cons (.wr .u8 (.c2 .rd xRmPacksA1 (.num 47))) (.cons (.wr .u8 (.c2 .rd xRmPacksA1 (.num 48))) (.cons (.wr .u8 (.c2 .rd xRmPacksA1 (.num 49))) (.cons (.wr .u8 (.c2 .rd xRmPacksA1 (.num 50))) (.cons (.wr .u8 (.c2 .rd xRmPacksA1 (.num 51))) (.cons (.wr .u8 (.c2 .rd xRmPacksA1 (.num 52))) (.cons (.wr .u8 (.c2 .rd xRmPacksA1 (.num 53))) (.cons (.wr .u8 (.c2 .rd xRmPacksA1 (.num 54))) (.cons (.wr .u8 (.c2 .rd xRmPacksA1 (.num 55))) (.cons (.wr .u8 (.c2 .rd xRmPacksA1 (.num 56))) (.cons (.wr .u8 (.c2 .rd xRmPacksA1 (.num 57))) (.cons (.wr .u8 (.c2 .rd xRmPacksA1 (.num 58))) (.cons (.wr .u8 (.c2 .rd xRmPacksA1 (.num 59))) (.cons (.wr .u8 (.c2 .rd xRmPacksA1 (.num 60))) (.cons (.wr .u8 (.c2 .rd xRmPacksA1 (.num 61))) (.cons (.wr .u8 (.c2 .rd xRmPacksA1 (.num 62))) (.cons (.wr .u8 (.c2 .rd xRmPacksA1 (.num 63))) (.cons (.wr .u8 (.c2 .rd xRmPacksA1 (.num 64))) (.cons (.wr .u16 (.c2 .rd xRmPacksA1 (.num 65))) (.cons (.wr .u16 (.c2 .rd xRmPacksA1 (.num 66))) (.cons (.wr .u32 (.c2 .rd xRmPacksA1 (.num 67))) (.cons (.wr .u32 (.c2 .rd xRmPacksA1 (.num 68))) (.cons (.wr .u8 (.c2 .rd xRmPacksA1 (.num 69))) (.cons (.wr .u16 (.c2 .rd xRmPacksA1 (.num 70))) (.cons (.wr .u16 (.c2 .rd xRmPacksA1 (.num 71))) (.cons (.wr .u16 (.c2 .rd xRmPacksA1 (.num 72))) .nil)))))))))))))))))))))))))))))))))))))))))))))))))))))))))))))))))))))))))
def xRmPacksA3 : T := (.cons (.wr .u8 (.c2 .rd (.fn 76 (.var 12) (.c2 .rd (.var 4) (.c2 .add (.c2 .mul (.var 5) (.num 75)) (.num 1))) .nil) (.num 0))) (.cons (.wr .u8 (.c2 .rd (.fn 76 (.var 12) (.c2 .rd (.var 4) (.c2 .add (.c2 .mul (.var 5) (.num 75)) (.num 1))) .nil) (.num 1))) (.cons (.wr .u8 (.c2 .rd (.fn 76 (.var 12) (.c2 .rd (.var 4) (.c2 .add (.c2 .mul (.var 5) (.num 75)) (.num 1))) .nil) (.num 2))) (.cons (.wr .u8 (.c2 .rd (.fn 76 (.var 12) (.c2 .rd (.var 4) (.c2 .add (.c2 .mul (.var 5) (.num 75)) (.num 1))) .nil) (.num 3))) (.cons (.wr .u8 (.c2 .rd (.fn 76 (.var 12) (.c2 .rd (.var 4) (.c2 .add (.c2 .mul (.var 5) (.num 75)) (.num 1))) .nil) (.num 4))) (.cons (.wr .u8 (.c2 .rd (.fn 76 (.var 12) (.c2 .rd (.var 4) (.c2 .add (.c2 .mul (.var 5) (.num 75)) (.num 1))) .nil) (.num 5))) (.cons (.wr .u8 (.c2 .rd (.fn 76 (.var 12) (.c2 .rd (.var 4) (.c2 .add (.c2 .mul (.var 5) (.num 75)) (.num 1))) .nil) (.num 6))) (.cons (.wr .u8 (.c2 .rd (.fn 76 (.var 12) (.c2 .rd (.var 4) (.c2 .add (.c2 .mul (.var 5) (.num 75)) (.num 1))) .nil) (.num 7))) (.cons (.wr .u8 (.c2 .rd (.fn 76 (.var 12) (.c2 .rd (.var 4) (.c2 .add (.c2 .mul (.var 5) (.num 75)) (.num 1))) .nil) (.num 8))) (.cons (.wr .u8 (.c2 .rd (.fn 76 (.var 12) (.c2 .rd (.var 4) (.c2 .add (.c2 .mul (.var 5) (.num 75)) (.num 1))) .nil) (.num 9))) (.cons (.wr .u8 (.c2 .rd (.fn 76 (.var 12) (.c2 .rd (.var 4) (.c2 .add (.c2 .mul (.var 5) (.num 75)) (.num 1))) .nil) (.num 10))) (.cons (.wr .u8 (.c2 .rd (.fn 76 (.var 12) (.c2 .rd (.var 4) (.c2 .add (.c2 .mul (.var 5) (.num 75)) (.num 1))) .nil) (.num 11))) (.cons (.wr .u8 (.c2 .rd (.fn 76 (.var 12) (.c2 .rd (.var 4) (.c2 .add (.c2 .mul (.var 5) (.num 75)) (.num 1))) .nil) (.num 12))) (.cons (.wr .u16 (.c2 .rd (.fn 76 (.var 12) (.c2 .rd (.var 4) (.c2 .add (.c2 .mul (.var 5) (.num 75)) (.num 1))) .nil) (.num 13))) (.cons (.wr .u8 (.c2 .rd (.fn 76 (.var 12) (.c2 .rd (.var 4) (.c2 .add (.c2 .mul (.var 5) (.num 75)) (.num 1))) .nil) (.num 14))) (.cons (.wr .u16 (.c2 .rd (.fn 76 (.var 12) (.c2 .rd (.var 4) (.c2 .add (.c2 .mul (.var 5) (.num 75)) (.num 1))) .nil) (.num 15))) (.cons (.wr .u16 (.c2 .rd (.fn 76 (.var 12) (.c2 .rd (.var 4) (.c2 .add (.c2 .mul (.var 5) (.num 75)) (.num 1))) .nil) (.num 16))) (.cons (.wr .u8 (.c2 .rd (.fn 76 (.var 12) (.c2 .rd (.var 4) (.c2 .add (.c2 .mul (.var 5) (.num 75)) (.num 1))) .nil) (.num 17))) (.cons (.wr .u8 (.c2 .rd (.fn 76 (.var 12) (.c2 .rd (.var 4) (.c2 .add (.c2 .mul (.var 5) (.num 75)) (.num 1))) .nil) (.num 18))) (.cons (.wr .u8 (.c2 .rd (.fn 76 (.var 12) (.c2 .rd (.var 4) (.c2 .add (.c2 .mul (.var 5) (.num 75)) (.num 1))) .nil) (.num 19))) (.cons (.wr .u16 (.c2 .rd (.fn 76 (.var 12) (.c2 .rd (.var 4) (.c2 .add (.c2 .mul (.var 5) (.num 75)) (.num 1))) .nil) (.num 20))) (.cons (.wr .u8 (.c2 .rd (.fn 76 (.var 12) (.c2 .rd (.var 4) (.c2 .add (.c2 .mul (.var 5) (.num 75)) (.num 1))) .nil) (.num 21))) (.cons (.wr .u8 (.c2 .rd (.fn 76 (.var 12) (.c2 .rd (.var 4) (.c2 .add (.c2 .mul (.var 5) (.num 75)) (.num 1))) .nil) (.num 22))) (.cons (.wr .u8 (.c2 .rd (.fn 76 (.var 12) (.c2 .rd (.var 4) (.c2 .add (.c2 .mul (.var 5) (.num 75)) (.num 1))) .nil) (.num 23))) (.cons (.wr .u8 (.c2 .rd (.fn 76 (.var 12) (.c2 .rd (.var 4) (.c2 .add (.c2 .mul (.var 5) (.num 75)) (.num 1))) .nil) (.num 24))) (.cons (.wr .u8 (.c2 .rd (.fn 76 (.var 12) (.c2 .rd (.var 4) (.c2 .add (.c2 .mul (.var 5) (.num 75)) (.num 1))) .nil) (.num 25))) (.cons (.wr .u8 (.c2 .rd (.fn 76 (.var 12) (.c2 .rd (.var 4) (.c2 .add (.c2 .mul (.var 5) (.num 75)) (.num 1))) .nil) (.num 26))) (.cons (.wr .u8 (.c2 .rd (.fn 76 (.var 12) (.c2 .rd (.var 4) (.c2 .add (.c2 .mul (.var 5) (.num 75)) (.num 1))) .nil) (.num 27))) (.cons (.wr .u8 (.c2 .rd (.fn 76 (.var 12) (.c2 .rd (.var 4) (.c2 .add (.c2 .mul (.var 5) (.num 75)) (.num 1))) .nil) (.num 28))) (.cons (.wr .u8 (.c2 .rd (.fn 76 (.var 12) (.c2 .rd (.var 4) (.c2 .add (.c2 .mul (.var 5) (.num 75)) (.num 1))) .nil) (.num 29))) (.cons (.wr .u32 (.c2 .rd (.fn 76 (.var 12) (.c2 .rd (.var 4) (.c2 .add (.c2 .mul (.var 5) (.num 75)) (.num 1))) .nil) (.num 30))) (.cons (.wr .u8 (.c2 .rd (.fn 76 (.var 12) (.c2 .rd (.var 4) (.c2 .add (.c2 .mul (.var 5) (.num 75)) (.num 1))) .nil) (.num 31))) (.cons (.wr .u8 (.c2 .rd (.fn 76 (.var 12) (.c2 .rd (.var 4) (.c2 .add (.c2 .mul (.var 5) (.num 75)) (.num 1))) .nil) (.num 32))) (.cons (.wr .u8 (.c2 .rd (.fn 76 (.var 12) (.c2 .rd (.var 4) (.c2 .add (.c2 .mul (.var 5) (.num 75)) (.num 1))) .nil) (.num 33))) (.cons (.wr .u8 (.c2 .rd (.fn 76 (.var 12) (.c2 .rd (.var 4) (.c2 .add (.c2 .mul (.var 5) (.num 75)) (.num 1))) .nil) (.num 34))) (.cons (.wr .u8 (.c2 .rd (.fn 76 (.var 12) (.c2 .rd (.var 4) (.c2 .add (.c2 .mul (.var 5) (.num 75)) (.num 1))) .nil) (.num 35))) (.cons (.wr .u8 (.c2 .rd (.fn 76 (.var 12) (.c2 .rd (.var 4) (.c2 .add (.c2 .mul (.var 5) (.num 75)) (.num 1))) .nil) (.num 36))) (.cons (.wr .u8 (.c2 .rd (.fn 76 (.var 12) (.c2 .rd (.var 4) (.c2 .add (.c2 .mul (.var 5) (.num 75)) (.num 1))) .nil) (.num 37))) (.cons (.wr .u8 (.c2 .rd (.fn 76 (.var 12) (.c2 .rd (.var 4) (.c2 .add (.c2 .mul (.var 5) (.num 75)) (.num 1))) .nil) (.num 38))) (.cons (.wr .u8 (.c2 .rd (.fn 76 (.var 12) (.c2 .rd (.var 4) (.c2 .add (.c2 .mul (.var 5) (.num 75)) (.num 1))) .nil) (.num 39))) (.cons (.wr .u8 (.c2 .rd (.fn 76 (.var 12) (.c2 .rd (.var 4) (.c2 .add (.c2 .mul (.var 5) (.num 75)) (.num 1))) .nil) (.num 40))) (.cons (.wr .u8 (.c2 .rd (.fn 76 (.var 12) (.c2 .rd (.var 4) (.c2 .add (.c2 .mul (.var 5) (.num 75)) (.num 1))) .nil) (.num 41))) (.cons (.wr .u8 (.c2 .rd (.fn 76 (.var 12) (.c2 .rd (.var 4) (.c2 .add (.c2 .mul (.var 5) (.num 75)) (.num 1))) .nil) (.num 42))) (.cons (.wr .u8 (.c2 .rd (.fn 76 (.var 12) (.c2 .rd (.var 4) (.c2 .add (.c2 .mul (.var 5) (.num 75)) (.num 1))) .nil) (.num 43))) (.cons (.wr .u8 (.c2 .rd (.fn 76 (.var 12) (.c2 .rd (.var 4) (.c2 .add (.c2 .mul (.var 5) (.num 75)) (.num 1))) .nil) (.num 44))) (.cons (.wr .u8 (.c2 .rd (.fn 76 (.var 12) (.c2 .rd (.var 4) (.c2 .add (.c2 .mul (.var 5) (.num 75)) (.num 1))) .nil) (.num 45))) (.cons (.wr .u8 (.c2 .rd (.fn 76 (.var 12) (.c2 .rd (.var 4) (.c2 .add (.c2 .mul (.var 5) (.num 75)) (.num 1))) .nil) (.num 46))) (.cons (.wr .u8 (.c2 .rd (.fn 76 (.var 12) (.c2 .rd (.var 4) (.c2 .add (.c2 .mul (.var 5) (.num 75)) (.num 1))) .nil) (.num 47))) (.cons (.wr .u8 (.c2 .rd (.fn 76 (.var 12) (.c2 .rd (.var 4) (.c2 .add (.c2 .mul (.var 5) (.num 75)) (.num 1))) .nil) (.num 48))) (.cons (.wr .u8 (.c2 .rd (.fn 76 (.var 12) (.c2 .rd (.var 4) (.c2 .add (.c2 .mul (.var 5) (.num 75)) (.num 1))) .nil) (.num 49))) (.cons (.wr .u8 (.c2 .rd (.fn 76 (.var 12) (.c2 .rd (.var 4) (.c2 .add (.c2 .mul (.var 5) (.num 75)) (.num 1))) .nil) (.num 50))) (.cons (.wr .u8 (.c2 .rd (.fn 76 (.var 12) (.c2 .rd (.var 4) (.c2 .add (.c2 .mul (.var 5) (.num 75)) (.num 1))) .nil) (.num 51))) (.cons (.wr .u8 (.c2 .rd (.fn 76 (.var 12) (.c2 .rd (.var 4) (.c2 .add (.c2 .mul (.var 5) (.num 75)) (.num 1))) .nil) (.num 52))) (.cons (.wr .u8 (.c2 .rd (.fn 76 (.var 12) (.c2 .rd (.var 4) (.c2 .add (.c2 .mul (.var 5) (.num 75)) (.num 1))) .nil) (.num 53))) (.cons (.wr .u8 (.c2 .rd (.fn 76 (.var 12) (.c2 .rd (.var 4) (.c2 .add (.c2 .mul (.var 5) (.num 75)) (.num 1))) .nil) (.num 54))) (.cons (.wr .u8 (.c2 .rd (.fn 76 (.var 12) (.c2 .rd (.var 4) (.c2 .add (.c2 .mul (.var 5) (.num 75)) (.num 1))) .nil) (.num 55))) (.cons (.wr .u8 (.c2 .rd (.fn 76 (.var 12) (.c2 .rd (.var 4) (.c2 .add (.c2 .mul (.var 5) (.num 75)) (.num 1))) .nil) (.num 56))) (.cons (.wr .u8 (.c2 .rd (.fn 76 (.var 12) (.c2 .rd (.var 4) (.c2 .add (.c2 .mul (.var 5) (.num 75)) (.num 1))) .nil) (.num 57))) (.cons (.wr .u8 (.c2 .rd (.fn 76 (.var 12) (.c2 .rd (.var 4) (.c2 .add (.c2 .mul (.var 5) (.num 75)) (.num 1))) .nil) (.num 58))) (.cons (.wr .u8 (.c2 .rd (.fn 76 (.var 12) (.c2 .rd (.var 4) (.c2 .add (.c2 .mul (.var 5) (.num 75)) (.num 1))) .nil) (.num 59))) (.cons (.wr .u8 (.c2 .rd (.fn 76 (.var 12) (.c2 .rd (.var 4) (.c2 .add (.c2 .mul (.var 5) (.num 75)) (.num 1))) .nil) (.num 60))) (.cons (.wr .u8 (.c2 .rd (.fn 76 (.var 12) (.c2 .rd (.var 4) (.c2 .add (.c2 .mul (.var 5) (.num 75)) (.num 1))) .nil) (.num 61))) (.cons (.wr .u8 (.c2 .rd (.fn 76 (.var 12) (.c2 .rd (.var 4) (.c2 .add (.c2 .mul (.var 5) (.num 75)) (.num 1))) .nil) (.num 62))) (.cons (.wr .u8 (.c2 .rd (.fn 76 (.var 12) (.c2 .rd (.var 4) (.c2 .add (.c2 .mul (.var 5) (.num 75)) (.num 1))) .nil) (.num 63))) (.cons (.wr .u8 (.c2 .rd (.fn 76 (.var 12) (.c2 .rd (.var 4) (.c2 .add (.c2 .mul (.var 5) (.num 75)) (.num 1))) .nil) (.num 64))) (.cons (.wr .u16 (.c2 .rd (.fn 76 (.var 12) (.c2 .rd (.var 4) (.c2 .add (.c2 .mul (.var 5) (.num 75)) (.num 1))) .nil) (.num 65))) (.cons (.wr .u16 (.c2 .rd (.fn 76 (.var 12) (.c2 .rd (.var 4) (.c2 .add (.c2 .mul (.var 5) (.num 75)) (.num 1))) .nil) (.num 66))) (.cons (.wr .u32 (.c2 .rd (.fn 76 (.var 12) (.c2 .rd (.var 4) (.c2 .add (.c2 .mul (.var 5) (.num 75)) (.num 1))) .nil) (.num 67))) (.cons (.wr .u32 (.c2 .rd (.fn 76 (.var 12) (.c2 .rd (.var 4) (.c2 .add (.c2 .mul (.var 5) (.num 75)) (.num 1))) .nil) (.num 68))) (.cons (.wr .u8 (.c2 .rd (.fn 76 (.var 12) (.c2 .rd (.var 4) (.c2 .add (.c2 .mul (.var 5) (.num 75)) (.num 1))) .nil) (.num 69))) (.cons (.wr .u16 (.c2 .rd (.fn 76 (.var 12) (.c2 .rd (.var 4) (.c2 .add (.c2 .mul (.var 5) (.num 75)) (.num 1))) .nil) (.num 70))) (.cons (.wr .u16 (.c2 .rd (.fn 76 (.var 12) (.c2 .rd (.var 4) (.c2 .add (.c2 .mul (.var 5) (.num 75)) (.num 1))) .nil) (.num 71))) (.cons (.wr .u16 (.c2 .rd (.fn 76 (.var 12) (.c2 .rd (.var 4) (.c2 .add (.c2 .mul (.var 5) (.num 75)) (.num 1))) .nil) (.num 72))) .nil)))))))))))))))))))))))))))))))))))))))))))))))))))))))))))))))))))))))))
def xRmPacksA4 : T := (.c2 .take (.c2 .sub (.var 8) (.c2 .add (.var 7) (.fn 73 (.c2 .rd (.var 4) (.c2 .add (.c2 .mul (.var 5) (.num 75)) (.num 1))) .nil .nil))) (.c2 .drop (.c2 .add (.var 7) (.fn 73 (.c2 .rd (.var 4) (.c2 .add (.c2 .mul (.var 5) (.num 75)) (.num 1))) .nil .nil)) (.var 6)))
def xRmPacksA5 : T := (.c2 .eq (.c2 .sub (.var 8) (.c2 .add (.var 7) (.fn 73 (.c2 .rd (.var 4) (.c2 .add (.c2 .mul (.var 5) (.num 75)) (.num 1))) .nil .nil))) (.c1 .len xRmPacksA4))
def xRmPacksA6 : T := (.cons (.num 0) (.cons (.num 0) (.cons (.num 0) (.cons (.num 0) (.cons (.num 0) (.cons (.num 0) (.cons (.num 0) (.cons (.num 0) (.cons (.num 0) (.cons (.num 0) (.cons (.num 0) (.cons (.num 0) (.cons (.num 0) (.cons (.num 0) (.cons (.num 0) (.cons (.num 0) (.cons (.num 0) (.cons (.num 0) (.cons (.num 0) (.cons (.num 0) (.cons (.num 0) (.cons (.num 0) (.cons (.num 0) (.cons (.num 0) (.cons (.num 0) (.cons (.num 0) (.cons (.num 0) (.cons (.num 0) (.cons (.num 0) (.cons (.num 0) (.cons (.num 0) (.cons (.num 0) (.cons (.num 0) (.cons (.num 0) (.cons (.num 0) (.cons (.num 0) (.cons (.num 0) (.cons (.num 0) (.cons (.num 0) (.cons (.num 0) (.cons (.num 0) (.cons (.num 0) (.cons (.num 0) (.cons (.num 0) (.cons (.num 0) (.cons (.num 0) (.cons (.num 0) (.cons (.num 0) (.cons (.num 0) (.cons (.num 0) (.cons (.num 0) (.cons (.num 0) (.cons (.num 0) (.cons (.num 0) (.cons (.num 0) (.cons (.num 0) (.cons (.num 0) (.cons (.num 0) (.cons (.num 0) (.cons (.num 0) (.cons (.num 0) (.cons (.num 0) (.cons (.num 0) (.cons (.num 0) (.cons (.num 0) (.cons (.num 0) (.cons (.num 0) (.cons (.num 0) (.cons (.num 0) (.cons (.num 0) (.cons (.num 0) (.cons (.num 0) (.cons (.num 0) .nil)))))))))))))))))))))))))))))))))))))))))))))))))))))))))))))))))))))))))
def xRmPacksA7 : T := (.cons (.c2 .rd (.var 4) (.c2 .add (.c2 .mul (.var 5) (.num 75)) (.num 2))) (.cons (.c2 .rd (.var 4) (.c2 .add (.c2 .mul (.var 5) (.num 75)) (.num 3))) (.cons (.c2 .rd (.var 4) (.c2 .add (.c2 .mul (.var 5) (.num 75)) (.num 4))) (.cons (.c2 .rd (.var 4) (.c2 .add (.c2 .mul (.var 5) (.num 75)) (.num 5))) (.cons (.c2 .rd (.var 4) (.c2 .add (.c2 .mul (.var 5) (.num 75)) (.num 6))) (.cons (.c2 .rd (.var 4) (.c2 .add (.c2 .mul (.var 5) (.num 75)) (.num 7))) (.cons (.c2 .rd (.var 4) (.c2 .add (.c2 .mul (.var 5) (.num 75)) (.num 8))) (.cons (.c2 .rd (.var 4) (.c2 .add (.c2 .mul (.var 5) (.num 75)) (.num 9))) (.cons (.c2 .rd (.var 4) (.c2 .add (.c2 .mul (.var 5) (.num 75)) (.num 10))) (.cons (.c2 .rd (.var 4) (.c2 .add (.c2 .mul (.var 5) (.num 75)) (.num 11))) (.cons (.c2 .rd (.var 4) (.c2 .add (.c2 .mul (.var 5) (.num 75)) (.num 12))) (.cons (.c2 .rd (.var 4) (.c2 .add (.c2 .mul (.var 5) (.num 75)) (.num 13))) (.cons (.c2 .rd (.var 4) (.c2 .add (.c2 .mul (.var 5) (.num 75)) (.num 14))) (.cons (.c2 .rd (.var 4) (.c2 .add (.c2 .mul (.var 5) (.num 75)) (.num 15))) (.cons (.c2 .rd (.var 4) (.c2 .add (.c2 .mul (.var 5) (.num 75)) (.num 16))) (.cons (.c2 .rd (.var 4) (.c2 .add (.c2 .mul (.var 5) (.num 75)) (.num 17))) (.cons (.c2 .rd (.var 4) (.c2 .add (.c2 .mul (.var 5) (.num 75)) (.num 18))) (.cons (.c2 .rd (.var 4) (.c2 .add (.c2 .mul (.var 5) (.num 75)) (.num 19))) (.cons (.c2 .rd (.var 4) (.c2 .add (.c2 .mul (.var 5) (.num 75)) (.num 20))) (.cons (.c2 .rd (.var 4) (.c2 .add (.c2 .mul (.var 5) (.num 75)) (.num 21))) (.cons (.c2 .rd (.var 4) (.c2 .add (.c2 .mul (.var 5) (.num 75)) (.num 22))) (.cons (.c2 .rd (.var 4) (.c2 .add (.c2 .mul (.var 5) (.num 75)) (.num 23))) (.cons (.c2 .rd (.var 4) (.c2 .add (.c2 .mul (.var 5) (.num 75)) (.num 24))) (.cons (.c2 .rd (.var 4) (.c2 .add (.c2 .mul (.var 5) (.num 75)) (.num 25))) (.cons (.c2 .rd (.var 4) (.c2 .add (.c2 .mul (.var 5) (.num 75)) (.num 26))) (.cons (.c2 .rd (.var 4) (.c2 .add (.c2 .mul (.var 5) (.num 75)) (.num 27))) (.cons (.c2 .rd (.var 4) (.c2 .add (.c2 .mul (.var 5) (.num 75)) (.num 28))) (.cons (.c2 .rd (.var 4) (.c2 .add (.c2 .mul (.var 5) (.num 75)) (.num 29))) (.cons (.c2 .rd (.var 4) (.c2 .add (.c2 .mul (.var 5) (.num 75)) (.num 30))) (.cons (.c2 .rd (.var 4) (.c2 .add (.c2 .mul (.var 5) (.num 75)) (.num 31))) (.cons (.c2 .rd (.var 4) (.c2 .add (.c2 .mul (.var 5) (.num 75)) (.num 32))) (.cons (.c2 .rd (.var 4) (.c2 .add (.c2 .mul (.var 5) (.num 75)) (.num 33))) (.cons (.c2 .rd (.var 4) (.c2 .add (.c2 .mul (.var 5) (.num 75)) (.num 34))) (.cons (.c2 .rd (.var 4) (.c2 .add (.c2 .mul (.var 5) (.num 75)) (.num 35))) (.cons (.c2 .rd (.var 4) (.c2 .add (.c2 .mul (.var 5) (.num 75)) (.num 36))) (.cons (.c2 .rd (.var 4) (.c2 .add (.c2 .mul (.var 5) (.num 75)) (.num 37))) (.cons (.c2 .rd (.var 4) (.c2 .add (.c2 .mul (.var 5) (.num 75)) (.num 38))) (.cons (.c2 .rd (.var 4) (.c2 .add (.c2 .mul (.var 5) (.num 75)) (.num 39))) (.cons (.c2 .rd (.var 4) (.c2 .add (.c2 .mul (.var 5) (.num 75)) (.num 40))) (.cons (.c2 .rd (.var 4) (.c2 .add (.c2 .mul (.var 5) (.num 75)) (.num 41))) (.cons (.c2 .rd (.var 4) (.c2 .add (.c2 .mul (.var 5) (.num 75)) (.num 42))) (.cons (.c2 .rd (.var 4) (.c2 .add (.c2 .mul (.var 5) (.num 75)) (.num 43))) (.cons (.c2 .rd (.var 4) (.c2 .add (.c2 .mul (.var 5) (.num 75)) (.num 44))) (.cons (.c2 .rd (.var 4) (.c2 .add (.c2 .mul (.var 5) (.num 75)) (.num 45))) (.cons (.c2 .rd (.var 4) (.c2 .add (.c2 .mul (.var 5) (.num 75)) (.num 46))) (.cons (.c2 .rd (.var 4) (.c2 .add (.c2 .mul (.var 5) (.num 75)) (.num 47))) (.cons (.c2 .rd (.var 4) (.c2 .add (.c2 .mul (.var 5) (.num 75)) (.num 48))) (.cons (.c2 .rd (.var 4) (.c2 .add (.c2 .mul (.var 5) (.num 75)) (.num 49))) (.cons (.c2 .rd (.var 4) (.c2 .add (.c2 .mul (.var 5) (.num 75)) (.num 50))) (.cons (.c2 .rd (.var 4) (.c2 .add (.c2 .mul (.var 5) (.num 75)) (.num 51))) (.cons (.c2 .rd (.var 4) (.c2 .add (.c2 .mul (.var 5) (.num 75)) (.num 52))) (.cons (.c2 .rd (.var 4) (.c2 .add (.c2 .mul (.var 5) (.num 75)) (.num 53))) (.cons (.c2 .rd (.var 4) (.c2 .add (.c2 .mul (.var 5) (.num 75)) (.num 54))) (.cons (.c2 .rd (.var 4) (.c2 .add (.c2 .mul (.var 5) (.num 75)) (.num 55))) (.cons (.c2 .rd (.var 4) (.c2 .add (.c2 .mul (.var 5) (.num 75)) (.num 56))) (.cons (.c2 .rd (.var 4) (.c2 .add (.c2 .mul (.var 5) (.num 75)) (.num 57))) (.cons (.c2 .rd (.var 4) (.c2 .add (.c2 .mul (.var 5) (.num 75)) (.num 58))) (.cons (.c2 .rd (.var 4) (.c2 .add (.c2 .mul (.var 5) (.num 75)) (.num 59))) (.cons (.c2 .rd (.var 4) (.c2 .add (.c2 .mul (.var 5) (.num 75)) (.num 60))) (.cons (.c2 .rd (.var 4) (.c2 .add (.c2 .mul (.var 5) (.num 75)) (.num 61))) (.cons (.c2 .rd (.var 4) (.c2 .add (.c2 .mul (.var 5) (.num 75)) (.num 62))) (.cons (.c2 .rd (.var 4) (.c2 .add (.c2 .mul (.var 5) (.num 75)) (.num 63))) (.cons (.c2 .rd (.var 4) (.c2 .add (.c2 .mul (.var 5) (.num 75)) (.num 64))) (.cons (.c2 .rd (.var 4) (.c2 .add (.c2 .mul (.var 5) (.num 75)) (.num 65))) (.cons (.c2 .rd (.var 4) (.c2 .add (.c2 .mul (.var 5) (.num 75)) (.num 66))) (.cons (.c2 .rd (.var 4) (.c2 .add (.c2 .mul (.var 5) (.num 75)) (.num 67))) (.cons (.c2 .rd (.var 4) (.c2 .add (.c2 .mul (.var 5) (.num 75)) (.num 68))) (.cons (.c2 .rd (.var 4) (.c2 .add (.c2 .mul (.var 5) (.num 75)) (.num 69))) (.cons (.c2 .rd (.var 4) (.c2 .add (.c2 .mul (.var 5) (.num 75)) (.num 70))) (.cons (.c2 .rd (.var 4) (.c2 .add (.c2 .mul (.var 5) (.num 75)) (.num 71))) (.cons (.c2 .rd (.var 4) (.c2 .add (.c2 .mul (.var 5) (.num 75)) (.num 72))) (.cons (.c2 .rd (.var 4) (.c2 .add (.c2 .mul (.var 5) (.num 75)) (.num 73))) (.cons (.c2 .rd (.var 4) (.c2 .add (.c2 .mul (.var 5) (.num 75)) (.num 74))) .nil)))))))))))))))))))))))))))))))))))))))))))))))))))))))))))))))))))))))))
def xRmPacksA8 : T := (.c2 .add (.fn 84 (.var 7) (.fn 73 (.c2 .rd (.var 4) (.c2 .add (.c2 .mul (.var 5) (.num 75)) (.num 2))) .nil .nil) .nil) (.c2 .add (.fn 73 (.c2 .rd (.var 4) (.c2 .add (.c2 .mul (.var 5) (.num 75)) (.num 2))) .nil .nil) (.c2 .sub (.var 8) (.var 7))))
def xRmPacksA9 : T := (.c2 .take (.c2 .sub xRmPacksA8 (.fn 84 (.var 7) (.fn 73 (.c2 .rd (.var 4) (.c2 .add (.c2 .mul (.var 5) (.num 75)) (.num 2))) .nil .nil) .nil)) (.c2 .drop (.fn 84 (.var 7) (.fn 73 (.c2 .rd (.var 4) (.c2 .add (.c2 .mul (.var 5) (.num 75)) (.num 2))) .nil .nil) .nil) (.fn 82 (.var 6) (.cons (.var 7) (.cons (.var 8) .nil)) xRmPacksA7)))
def xRmPacksA10 : T := (.c2 .eq (.c2 .sub xRmPacksA8 (.fn 84 (.var 7) (.fn 73 (.c2 .rd (.var 4) (.c2 .add (.c2 .mul (.var 5) (.num 75)) (.num 2))) .nil .nil) .nil)) (.c1 .len xRmPacksA9))
def treeRmPacksA : M (V × St) :=
(.chk (.c2 .le (.num 0) (.fn 66 (.var 1) (.num 257) .nil))
(.chk (.c2 .lt (.fn 66 (.var 1) (.num 257) .nil) (.num 257))
(.chk (.c2 .le (.num 0) (.fn 66 (.var 2) (.num 257) .nil))
(.chk (.c2 .lt (.fn 66 (.var 2) (.num 257) .nil) (.num 257))
(.chk (.c1 (.kin [.u8]) (.fn 83 (.var 0) (.fn 66 (.var 1) (.num 257) .nil) (.fn 66 (.var 2) (.num 257) .nil)))
(.chk (.c2 .eq (.c1 .len (.fn 83 (.var 0) (.fn 66 (.var 1) (.num 257) .nil) (.fn 66 (.var 2) (.num 257) .nil))) (.c2 .add (.c2 .add (.fn 66 (.var 1) (.num 257) .nil) (.c1 .len (.var 0))) (.fn 66 (.var 2) (.num 257) .nil)))
(.loop 0 5 8 [(.num 0), (.fn 83 (.var 0) (.fn 66 (.var 1) (.num 257) .nil) (.fn 66 (.var 2) (.num 257) .nil)), (.fn 66 (.var 1) (.num 257) .nil), (.c2 .add (.fn 66 (.var 1) (.num 257) .nil) (.c1 .len (.var 0))), (.num 0), (.num 0), (.c1 .len (.var 0)), (.var 0)] [((.c2 .le (.num 0) (.var 5)), true), ((.c2 .le (.num 0) (.var 10)), true), ((.c2 .le (.var 10) (.num 1000)), true), ((.c2 .le (.num 0) (.var 11)), true), ((.c2 .le (.var 11) (.num 2048)), true), ((.c2 .eq (.c1 .len (.var 12)) (.var 11)), true), ((.c1 (.kin [.u8]) (.var 12)), true), ((.c2 .le (.num 0) (.var 7)), true), ((.c2 .le (.var 7) (.var 8)), true), ((.c2 .le (.var 8) (.c1 .len (.var 6))), true), ((.c2 .le (.c2 .sub (.var 8) (.var 7)) (.num 2048)), true), ((.c2 .le (.c1 .len (.var 6)) (.num 2560)), true), ((.c2 .le (.var 7) (.num 2560)), true), ((.c2 .le (.num 0) (.var 8)), true), ((.c2 .le (.var 8) (.num 2560)), true), ((.c2 .le (.num 0) (.var 9)), true), ((.c2 .le (.var 9) (.num 1000)), true), ((.c1 (.kin [.u8]) (.var 6)), true)]
 (.split (.c2 .lt (.var 5) (.var 3))
 (.split (.c2 .lt (.var 5) (.num 30))
 (.chk (.c2 .le (.c2 .add (.c2 .mul (.var 5) (.num 75)) (.num 1)) (.c1 .len (.var 4)))
 (.split (.c1 .not (.c2 .eq (.c2 .rd (.var 4) (.c2 .mul (.var 5) (.num 75))) (.num 0)))
 (.chk (.c2 .le (.c2 .add (.c2 .mul (.var 5) (.num 75)) (.num 2)) (.c1 .len (.var 4)))
 (.split (.c2 .eq xRmPacksA0 (.num 0))
 (.chk (.c2 .le (.num 4) (.fn 73 (.c2 .rd (.var 4) (.c2 .add (.c2 .mul (.var 5) (.num 75)) (.num 1))) .nil .nil))
 (.chk (.c2 .le (.fn 73 (.c2 .rd (.var 4) (.c2 .add (.c2 .mul (.var 5) (.num 75)) (.num 1))) .nil .nil) (.c2 .sub (.var 8) (.var 7)))
 (.split (.c2 .eq (.fn 75 (.var 12) (.c2 .rd (.var 4) (.c2 .add (.c2 .mul (.var 5) (.num 75)) (.num 1))) .nil) (.num 0))
 (.chk (.c1 (.kin [.u8]) (.fn 77 (.var 12) (.c2 .rd (.var 4) (.c2 .add (.c2 .mul (.var 5) (.num 75)) (.num 1))) .nil))
 (.chk (.c2 .le (.c1 .len (.fn 77 (.var 12) (.c2 .rd (.var 4) (.c2 .add (.c2 .mul (.var 5) (.num 75)) (.num 1))) .nil)) (.c1 .len (.var 12)))
 (.split (.c1 .not (.c2 .leq xRmPacksA2 xRmPacksA3))
 (.ret (.w (.c (.b (.bol false))), ⟨[], [], 630, 13, []⟩))
 (.chk xRmPacksA5
 (.chk (.c2 .le (.c1 .len (.fn 77 (.var 12) (.c2 .rd (.var 4) (.c2 .add (.c2 .mul (.var 5) (.num 75)) (.num 1))) .nil)) (.num 140737488351232))
 (.split (.c1 .not (.c2 .leq xRmPacksA4 (.fn 77 (.var 12) (.c2 .rd (.var 4) (.c2 .add (.c2 .mul (.var 5) (.num 75)) (.num 1))) .nil)))
 (.ret (.w (.c (.b (.bol false))), ⟨[], [], 634, 13, []⟩))
 (.split (.c1 .not (.c2 .eq (.c2 .add (.var 9) (.num 1)) (.c2 .add (.var 10) (.num 1))))
 (.ret (.w (.c (.b (.bol false))), ⟨[], [], 634, 13, []⟩))
 (.back 0 5 [(.c2 .add (.var 5) (.num 1)), (.var 6), (.c2 .add (.var 7) (.fn 73 (.c2 .rd (.var 4) (.c2 .add (.c2 .mul (.var 5) (.num 75)) (.num 1))) .nil .nil)), (.var 8), (.c2 .add (.var 9) (.num 1)), (.c2 .add (.var 10) (.num 1)), (.c1 .len (.fn 77 (.var 12) (.c2 .rd (.var 4) (.c2 .add (.c2 .mul (.var 5) (.num 75)) (.num 1))) .nil)), (.fn 77 (.var 12) (.c2 .rd (.var 4) (.c2 .add (.c2 .mul (.var 5) (.num 75)) (.num 1))) .nil)]))))))))
 (.split (.c1 .not (.c2 .leq xRmPacksA2 xRmPacksA6))
 (.ret (.w (.c (.b (.bol false))), ⟨[], [], 630, 13, []⟩))
 (.split (.c1 .not (.c2 .eq (.num 0) (.fn 75 (.var 12) (.c2 .rd (.var 4) (.c2 .add (.c2 .mul (.var 5) (.num 75)) (.num 1))) .nil)))
 (.ret (.w (.c (.b (.bol false))), ⟨[], [], 630, 13, []⟩))
 (.chk xRmPacksA5
 (.split (.c1 .not (.c2 .leq xRmPacksA4 (.var 12)))
 (.ret (.w (.c (.b (.bol false))), ⟨[], [], 634, 13, []⟩))
 (.split (.c1 .not (.c2 .eq (.c2 .add (.var 9) (.num 1)) (.var 10)))
 (.ret (.w (.c (.b (.bol false))), ⟨[], [], 634, 13, []⟩))
 (.back 0 5 [(.c2 .add (.var 5) (.num 1)), (.var 6), (.c2 .add (.var 7) (.fn 73 (.c2 .rd (.var 4) (.c2 .add (.c2 .mul (.var 5) (.num 75)) (.num 1))) .nil .nil)), (.var 8), (.c2 .add (.var 9) (.num 1)), (.var 10), (.var 11), (.var 12)])))))))))
 (.split (.c2 .eq (.fn 75 (.var 12) (.c2 .rd (.var 4) (.c2 .add (.c2 .mul (.var 5) (.num 75)) (.num 1))) .nil) (.num 0))
 (.chk (.c1 (.kin [.u8]) (.fn 77 (.var 12) (.c2 .rd (.var 4) (.c2 .add (.c2 .mul (.var 5) (.num 75)) (.num 1))) .nil))
 (.chk (.c2 .le (.c1 .len (.fn 77 (.var 12) (.c2 .rd (.var 4) (.c2 .add (.c2 .mul (.var 5) (.num 75)) (.num 1))) .nil)) (.c1 .len (.var 12)))
 (.split (.c1 .not (.c2 .leq xRmPacksA6 xRmPacksA3))
 (.ret (.w (.c (.b (.bol false))), ⟨[], [], 630, 13, []⟩))
 (.ret (.w (.c (.b (.bol false))), ⟨[], [], 630, 13, []⟩)))))
 (.split (.c1 .not (.c2 .eq xRmPacksA0 (.fn 75 (.var 12) (.c2 .rd (.var 4) (.c2 .add (.c2 .mul (.var 5) (.num 75)) (.num 1))) .nil)))
 (.ret (.w (.c (.b (.bol false))), ⟨[], [], 630, 13, []⟩))
 (.chk (.c2 .eq (.c2 .sub (.var 8) (.var 7)) (.c1 .len (.c2 .take (.c2 .sub (.var 8) (.var 7)) (.c2 .drop (.var 7) (.var 6)))))
 (.split (.c1 .not (.c2 .leq (.c2 .take (.c2 .sub (.var 8) (.var 7)) (.c2 .drop (.var 7) (.var 6))) (.var 12)))
 (.ret (.w (.c (.b (.bol false))), ⟨[], [], 634, 13, []⟩))
 (.split (.c1 .not (.c2 .eq (.var 9) (.var 10)))
 (.ret (.w (.c (.b (.bol false))), ⟨[], [], 634, 13, []⟩))
 (.back 0 5 [(.c2 .add (.var 5) (.num 1)), (.var 6), (.var 7), (.var 8), (.var 9), (.var 10), (.var 11), (.var 12)]))))))))
 (.chk (.c2 .le (.c2 .add (.c2 .mul (.var 5) (.num 75)) (.num 75)) (.c1 .len (.var 4)))
 (.split (.c2 .eq (.fn 70 xRmPacksA7 (.var 12) .nil) (.num 0))
 (.chk (.c1 (.kin [.u8]) (.fn 71 xRmPacksA7 (.var 12) .nil))
 (.chk (.c2 .le (.c1 .len (.fn 71 xRmPacksA7 (.var 12) .nil)) (.num 2048))
 (.split (.c2 .eq (.fn 70 xRmPacksA7 (.c2 .take (.c2 .sub (.var 8) (.var 7)) (.c2 .drop (.var 7) (.var 6))) .nil) (.num 0))
 (.chk (.c1 (.kin [.u8]) (.fn 82 (.var 6) (.cons (.var 7) (.cons (.var 8) .nil)) xRmPacksA7))
 (.chk (.c2 .le (.c1 .len (.fn 82 (.var 6) (.cons (.var 7) (.cons (.var 8) .nil)) xRmPacksA7)) (.num 2560))
 (.chk (.c2 .le (.num 4) (.fn 73 (.c2 .rd (.var 4) (.c2 .add (.c2 .mul (.var 5) (.num 75)) (.num 2))) .nil .nil))
 (.chk (.c2 .le (.fn 73 (.c2 .rd (.var 4) (.c2 .add (.c2 .mul (.var 5) (.num 75)) (.num 2))) .nil .nil) (.num 40))
 (.chk (.c2 .le (.c2 .add (.fn 73 (.c2 .rd (.var 4) (.c2 .add (.c2 .mul (.var 5) (.num 75)) (.num 2))) .nil .nil) (.c2 .sub (.var 8) (.var 7))) (.num 2048))
 (.chk (.c2 .le (.num 0) (.fn 84 (.var 7) (.fn 73 (.c2 .rd (.var 4) (.c2 .add (.c2 .mul (.var 5) (.num 75)) (.num 2))) .nil .nil) .nil))
 (.chk (.c2 .le (.fn 84 (.var 7) (.fn 73 (.c2 .rd (.var 4) (.c2 .add (.c2 .mul (.var 5) (.num 75)) (.num 2))) .nil .nil) .nil) (.num 2560))
 (.chk (.c2 .le xRmPacksA8 (.c1 .len (.fn 82 (.var 6) (.cons (.var 7) (.cons (.var 8) .nil)) xRmPacksA7)))
 (.chk xRmPacksA10
 (.split (.c1 .not (.c2 .leq xRmPacksA9 (.fn 71 xRmPacksA7 (.var 12) .nil)))
 (.ret (.w (.c (.b (.bol false))), ⟨[], [], 632, 13, []⟩))
 (.split (.c1 .not (.c2 .eq (.c2 .add (.var 9) (.num 1)) (.c2 .add (.var 10) (.num 1))))
 (.ret (.w (.c (.b (.bol false))), ⟨[], [], 632, 13, []⟩))
 (.back 0 5 [(.c2 .add (.var 5) (.num 1)), (.fn 82 (.var 6) (.cons (.var 7) (.cons (.var 8) .nil)) xRmPacksA7), (.fn 84 (.var 7) (.fn 73 (.c2 .rd (.var 4) (.c2 .add (.c2 .mul (.var 5) (.num 75)) (.num 2))) .nil .nil) .nil), xRmPacksA8, (.c2 .add (.var 9) (.num 1)), (.c2 .add (.var 10) (.num 1)), (.c1 .len (.fn 71 xRmPacksA7 (.var 12) .nil)), (.fn 71 xRmPacksA7 (.var 12) .nil)]))))))))))))
 (.ret (.w (.c (.b (.bol false))), ⟨[], [], 628, 13, []⟩)))))
 (.split (.c2 .eq (.fn 70 xRmPacksA7 (.c2 .take (.c2 .sub (.var 8) (.var 7)) (.c2 .drop (.var 7) (.var 6))) .nil) (.num 0))
 (.chk (.c1 (.kin [.u8]) (.fn 82 (.var 6) (.cons (.var 7) (.cons (.var 8) .nil)) xRmPacksA7))
 (.chk (.c2 .le (.c1 .len (.fn 82 (.var 6) (.cons (.var 7) (.cons (.var 8) .nil)) xRmPacksA7)) (.num 2560))
 (.chk (.c2 .le (.num 4) (.fn 73 (.c2 .rd (.var 4) (.c2 .add (.c2 .mul (.var 5) (.num 75)) (.num 2))) .nil .nil))
 (.chk (.c2 .le (.fn 73 (.c2 .rd (.var 4) (.c2 .add (.c2 .mul (.var 5) (.num 75)) (.num 2))) .nil .nil) (.num 40))
 (.chk (.c2 .le (.c2 .add (.fn 73 (.c2 .rd (.var 4) (.c2 .add (.c2 .mul (.var 5) (.num 75)) (.num 2))) .nil .nil) (.c2 .sub (.var 8) (.var 7))) (.num 2048))
 (.chk (.c2 .le (.num 0) (.fn 84 (.var 7) (.fn 73 (.c2 .rd (.var 4) (.c2 .add (.c2 .mul (.var 5) (.num 75)) (.num 2))) .nil .nil) .nil))
 (.chk (.c2 .le (.fn 84 (.var 7) (.fn 73 (.c2 .rd (.var 4) (.c2 .add (.c2 .mul (.var 5) (.num 75)) (.num 2))) .nil .nil) .nil) (.num 2560))
 (.chk (.c2 .le xRmPacksA8 (.c1 .len (.fn 82 (.var 6) (.cons (.var 7) (.cons (.var 8) .nil)) xRmPacksA7)))
 (.split (.c1 .not (.c2 .eq (.num 0) (.fn 70 xRmPacksA7 (.var 12) .nil)))
 (.ret (.w (.c (.b (.bol false))), ⟨[], [], 628, 13, []⟩))
 (.chk xRmPacksA10
 (.split (.c1 .not (.c2 .leq xRmPacksA9 (.var 12)))
 (.ret (.w (.c (.b (.bol false))), ⟨[], [], 632, 13, []⟩))
 (.split (.c1 .not (.c2 .eq (.c2 .add (.var 9) (.num 1)) (.var 10)))
 (.ret (.w (.c (.b (.bol false))), ⟨[], [], 632, 13, []⟩))
 (.back 0 5 [(.c2 .add (.var 5) (.num 1)), (.fn 82 (.var 6) (.cons (.var 7) (.cons (.var 8) .nil)) xRmPacksA7), (.fn 84 (.var 7) (.fn 73 (.c2 .rd (.var 4) (.c2 .add (.c2 .mul (.var 5) (.num 75)) (.num 2))) .nil .nil) .nil), xRmPacksA8, (.c2 .add (.var 9) (.num 1)), (.var 10), (.var 11), (.var 12)])))))))))))))
 (.split (.c1 .not (.c2 .eq (.fn 70 xRmPacksA7 (.c2 .take (.c2 .sub (.var 8) (.var 7)) (.c2 .drop (.var 7) (.var 6))) .nil) (.fn 70 xRmPacksA7 (.var 12) .nil)))
 (.ret (.w (.c (.b (.bol false))), ⟨[], [], 628, 13, []⟩))
 (.chk (.c2 .eq (.c2 .sub (.var 8) (.var 7)) (.c1 .len (.c2 .take (.c2 .sub (.var 8) (.var 7)) (.c2 .drop (.var 7) (.var 6)))))
 (.split (.c1 .not (.c2 .leq (.c2 .take (.c2 .sub (.var 8) (.var 7)) (.c2 .drop (.var 7) (.var 6))) (.var 12)))
 (.ret (.w (.c (.b (.bol false))), ⟨[], [], 632, 13, []⟩))
 (.split (.c1 .not (.c2 .eq (.var 9) (.var 10)))
 (.ret (.w (.c (.b (.bol false))), ⟨[], [], 632, 13, []⟩))
 (.back 0 5 [(.c2 .add (.var 5) (.num 1)), (.var 6), (.var 7), (.var 8), (.var 9), (.var 10), (.var 11), (.var 12)]))))))))))
 (.ret (.w (.c (.b (.bol true))), ⟨[], [], 5030, 13, []⟩)))
 (.ret (.w (.c (.b (.bol true))), ⟨[], [], 5030, 13, []⟩))))))))))
theorem treeRmPacksA_is : funTree (ctxN Go.Proofs.Tryz.prog annsRm consRm 8) annsRm 3 tPacksA.vs tPacksA.bs tPacksA.n (preF tPacksA.res) = treeRmPacksA := by kernel_rfl
end Go.Proofs.YtfhjlimdakphcaaGreat.Sx
set_option maxRecDepth 100000
namespace Go.Proofs.YtfhjlimdakphcaaGreat.Sx
open Go
def treeRmPacksB : M (V × St) :=
(.chk (.c2 .le (.num 0) (.fn 66 (.var 1) (.num 257) .nil))
(.chk (.c2 .lt (.fn 66 (.var 1) (.num 257) .nil) (.num 257))
(.chk (.c2 .le (.num 0) (.fn 66 (.var 2) (.num 257) .nil))
(.chk (.c2 .lt (.fn 66 (.var 2) (.num 257) .nil) (.num 257))
(.chk (.c1 (.kin [.u8]) (.fn 83 (.c2 .take (.num 2048) (.var 0)) (.fn 66 (.var 1) (.num 257) .nil) (.fn 66 (.var 2) (.num 257) .nil)))
(.chk (.c2 .eq (.c1 .len (.fn 83 (.c2 .take (.num 2048) (.var 0)) (.fn 66 (.var 1) (.num 257) .nil) (.fn 66 (.var 2) (.num 257) .nil))) (.c2 .add (.c2 .add (.fn 66 (.var 1) (.num 257) .nil) (.num 2048)) (.fn 66 (.var 2) (.num 257) .nil)))
(.loop 0 5 8 [(.num 0), (.fn 83 (.c2 .take (.num 2048) (.var 0)) (.fn 66 (.var 1) (.num 257) .nil) (.fn 66 (.var 2) (.num 257) .nil)), (.fn 66 (.var 1) (.num 257) .nil), (.c2 .add (.fn 66 (.var 1) (.num 257) .nil) (.c1 .len (.c2 .take (.num 2048) (.var 0)))), (.num 0), (.num 0), (.num 2048), (.c2 .take (.num 2048) (.var 0))] [((.c2 .le (.num 0) (.var 5)), true), ((.c2 .le (.num 0) (.var 10)), true), ((.c2 .le (.var 10) (.num 1000)), true), ((.c2 .le (.num 0) (.var 11)), true), ((.c2 .le (.var 11) (.num 2048)), true), ((.c2 .eq (.c1 .len (.var 12)) (.var 11)), true), ((.c1 (.kin [.u8]) (.var 12)), true), ((.c2 .le (.num 0) (.var 7)), true), ((.c2 .le (.var 7) (.var 8)), true), ((.c2 .le (.var 8) (.c1 .len (.var 6))), true), ((.c2 .le (.c2 .sub (.var 8) (.var 7)) (.num 2048)), true), ((.c2 .le (.c1 .len (.var 6)) (.num 2560)), true), ((.c2 .le (.var 7) (.num 2560)), true), ((.c2 .le (.num 0) (.var 8)), true), ((.c2 .le (.var 8) (.num 2560)), true), ((.c2 .le (.num 0) (.var 9)), true), ((.c2 .le (.var 9) (.num 1000)), true), ((.c1 (.kin [.u8]) (.var 6)), true)]
 (.split (.c2 .lt (.var 5) (.var 3))
 (.split (.c2 .lt (.var 5) (.num 30))
 (.chk (.c2 .le (.c2 .add (.c2 .mul (.var 5) (.num 75)) (.num 1)) (.c1 .len (.var 4)))
 (.split (.c1 .not (.c2 .eq (.c2 .rd (.var 4) (.c2 .mul (.var 5) (.num 75))) (.num 0)))
 (.chk (.c2 .le (.c2 .add (.c2 .mul (.var 5) (.num 75)) (.num 2)) (.c1 .len (.var 4)))
 (.split (.c2 .eq xRmPacksA0 (.num 0))
 (.chk (.c2 .le (.num 4) (.fn 73 (.c2 .rd (.var 4) (.c2 .add (.c2 .mul (.var 5) (.num 75)) (.num 1))) .nil .nil))
 (.chk (.c2 .le (.fn 73 (.c2 .rd (.var 4) (.c2 .add (.c2 .mul (.var 5) (.num 75)) (.num 1))) .nil .nil) (.c2 .sub (.var 8) (.var 7)))
 (.split (.c2 .eq (.fn 75 (.var 12) (.c2 .rd (.var 4) (.c2 .add (.c2 .mul (.var 5) (.num 75)) (.num 1))) .nil) (.num 0))
 (.chk (.c1 (.kin [.u8]) (.fn 77 (.var 12) (.c2 .rd (.var 4) (.c2 .add (.c2 .mul (.var 5) (.num 75)) (.num 1))) .nil))
 (.chk (.c2 .le (.c1 .len (.fn 77 (.var 12) (.c2 .rd (.var 4) (.c2 .add (.c2 .mul (.var 5) (.num 75)) (.num 1))) .nil)) (.c1 .len (.var 12)))
 (.split (.c1 .not (.c2 .leq xRmPacksA2 xRmPacksA3))
 (.ret (.w (.c (.b (.bol false))), ⟨[], [], 630, 13, []⟩))
 (.chk xRmPacksA5
 (.chk (.c2 .le (.c1 .len (.fn 77 (.var 12) (.c2 .rd (.var 4) (.c2 .add (.c2 .mul (.var 5) (.num 75)) (.num 1))) .nil)) (.num 140737488351232))
 (.split (.c1 .not (.c2 .leq xRmPacksA4 (.fn 77 (.var 12) (.c2 .rd (.var 4) (.c2 .add (.c2 .mul (.var 5) (.num 75)) (.num 1))) .nil)))
 (.ret (.w (.c (.b (.bol false))), ⟨[], [], 634, 13, []⟩))
 (.split (.c1 .not (.c2 .eq (.c2 .add (.var 9) (.num 1)) (.c2 .add (.var 10) (.num 1))))
 (.ret (.w (.c (.b (.bol false))), ⟨[], [], 634, 13, []⟩))
 (.back 0 5 [(.c2 .add (.var 5) (.num 1)), (.var 6), (.c2 .add (.var 7) (.fn 73 (.c2 .rd (.var 4) (.c2 .add (.c2 .mul (.var 5) (.num 75)) (.num 1))) .nil .nil)), (.var 8), (.c2 .add (.var 9) (.num 1)), (.c2 .add (.var 10) (.num 1)), (.c1 .len (.fn 77 (.var 12) (.c2 .rd (.var 4) (.c2 .add (.c2 .mul (.var 5) (.num 75)) (.num 1))) .nil)), (.fn 77 (.var 12) (.c2 .rd (.var 4) (.c2 .add (.c2 .mul (.var 5) (.num 75)) (.num 1))) .nil)]))))))))
 (.split (.c1 .not (.c2 .leq xRmPacksA2 xRmPacksA6))
 (.ret (.w (.c (.b (.bol false))), ⟨[], [], 630, 13, []⟩))
 (.split (.c1 .not (.c2 .eq (.num 0) (.fn 75 (.var 12) (.c2 .rd (.var 4) (.c2 .add (.c2 .mul (.var 5) (.num 75)) (.num 1))) .nil)))
 (.ret (.w (.c (.b (.bol false))), ⟨[], [], 630, 13, []⟩))
 (.chk xRmPacksA5
 (.split (.c1 .not (.c2 .leq xRmPacksA4 (.var 12)))
 (.ret (.w (.c (.b (.bol false))), ⟨[], [], 634, 13, []⟩))
 (.split (.c1 .not (.c2 .eq (.c2 .add (.var 9) (.num 1)) (.var 10)))
 (.ret (.w (.c (.b (.bol false))), ⟨[], [], 634, 13, []⟩))
 (.back 0 5 [(.c2 .add (.var 5) (.num 1)), (.var 6), (.c2 .add (.var 7) (.fn 73 (.c2 .rd (.var 4) (.c2 .add (.c2 .mul (.var 5) (.num 75)) (.num 1))) .nil .nil)), (.var 8), (.c2 .add (.var 9) (.num 1)), (.var 10), (.var 11), (.var 12)])))))))))
 (.split (.c2 .eq (.fn 75 (.var 12) (.c2 .rd (.var 4) (.c2 .add (.c2 .mul (.var 5) (.num 75)) (.num 1))) .nil) (.num 0))
 (.chk (.c1 (.kin [.u8]) (.fn 77 (.var 12) (.c2 .rd (.var 4) (.c2 .add (.c2 .mul (.var 5) (.num 75)) (.num 1))) .nil))
 (.chk (.c2 .le (.c1 .len (.fn 77 (.var 12) (.c2 .rd (.var 4) (.c2 .add (.c2 .mul (.var 5) (.num 75)) (.num 1))) .nil)) (.c1 .len (.var 12)))
 (.split (.c1 .not (.c2 .leq xRmPacksA6 xRmPacksA3))
 (.ret (.w (.c (.b (.bol false))), ⟨[], [], 630, 13, []⟩))
 (.ret (.w (.c (.b (.bol false))), ⟨[], [], 630, 13, []⟩)))))
 (.split (.c1 .not (.c2 .eq xRmPacksA0 (.fn 75 (.var 12) (.c2 .rd (.var 4) (.c2 .add (.c2 .mul (.var 5) (.num 75)) (.num 1))) .nil)))
 (.ret (.w (.c (.b (.bol false))), ⟨[], [], 630, 13, []⟩))
 (.chk (.c2 .eq (.c2 .sub (.var 8) (.var 7)) (.c1 .len (.c2 .take (.c2 .sub (.var 8) (.var 7)) (.c2 .drop (.var 7) (.var 6)))))
 (.split (.c1 .not (.c2 .leq (.c2 .take (.c2 .sub (.var 8) (.var 7)) (.c2 .drop (.var 7) (.var 6))) (.var 12)))
 (.ret (.w (.c (.b (.bol false))), ⟨[], [], 634, 13, []⟩))
 (.split (.c1 .not (.c2 .eq (.var 9) (.var 10)))
 (.ret (.w (.c (.b (.bol false))), ⟨[], [], 634, 13, []⟩))
 (.back 0 5 [(.c2 .add (.var 5) (.num 1)), (.var 6), (.var 7), (.var 8), (.var 9), (.var 10), (.var 11), (.var 12)]))))))))
 (.chk (.c2 .le (.c2 .add (.c2 .mul (.var 5) (.num 75)) (.num 75)) (.c1 .len (.var 4)))
 (.split (.c2 .eq (.fn 70 xRmPacksA7 (.var 12) .nil) (.num 0))
 (.chk (.c1 (.kin [.u8]) (.fn 71 xRmPacksA7 (.var 12) .nil))
 (.chk (.c2 .le (.c1 .len (.fn 71 xRmPacksA7 (.var 12) .nil)) (.num 2048))
 (.split (.c2 .eq (.fn 70 xRmPacksA7 (.c2 .take (.c2 .sub (.var 8) (.var 7)) (.c2 .drop (.var 7) (.var 6))) .nil) (.num 0))
 (.chk (.c1 (.kin [.u8]) (.fn 82 (.var 6) (.cons (.var 7) (.cons (.var 8) .nil)) xRmPacksA7))
 (.chk (.c2 .le (.c1 .len (.fn 82 (.var 6) (.cons (.var 7) (.cons (.var 8) .nil)) xRmPacksA7)) (.num 2560))
 (.chk (.c2 .le (.num 4) (.fn 73 (.c2 .rd (.var 4) (.c2 .add (.c2 .mul (.var 5) (.num 75)) (.num 2))) .nil .nil))
 (.chk (.c2 .le (.fn 73 (.c2 .rd (.var 4) (.c2 .add (.c2 .mul (.var 5) (.num 75)) (.num 2))) .nil .nil) (.num 40))
 (.chk (.c2 .le (.c2 .add (.fn 73 (.c2 .rd (.var 4) (.c2 .add (.c2 .mul (.var 5) (.num 75)) (.num 2))) .nil .nil) (.c2 .sub (.var 8) (.var 7))) (.num 2048))
 (.chk (.c2 .le (.num 0) (.fn 84 (.var 7) (.fn 73 (.c2 .rd (.var 4) (.c2 .add (.c2 .mul (.var 5) (.num 75)) (.num 2))) .nil .nil) .nil))
 (.chk (.c2 .le (.fn 84 (.var 7) (.fn 73 (.c2 .rd (.var 4) (.c2 .add (.c2 .mul (.var 5) (.num 75)) (.num 2))) .nil .nil) .nil) (.num 2560))
 (.chk (.c2 .le xRmPacksA8 (.c1 .len (.fn 82 (.var 6) (.cons (.var 7) (.cons (.var 8) .nil)) xRmPacksA7)))
 (.chk xRmPacksA10
 (.split (.c1 .not (.c2 .leq xRmPacksA9 (.fn 71 xRmPacksA7 (.var 12) .nil)))
 (.ret (.w (.c (.b (.bol false))), ⟨[], [], 632, 13, []⟩))
 (.split (.c1 .not (.c2 .eq (.c2 .add (.var 9) (.num 1)) (.c2 .add (.var 10) (.num 1))))
 (.ret (.w (.c (.b (.bol false))), ⟨[], [], 632, 13, []⟩))
 (.back 0 5 [(.c2 .add (.var 5) (.num 1)), (.fn 82 (.var 6) (.cons (.var 7) (.cons (.var 8) .nil)) xRmPacksA7), (.fn 84 (.var 7) (.fn 73 (.c2 .rd (.var 4) (.c2 .add (.c2 .mul (.var 5) (.num 75)) (.num 2))) .nil .nil) .nil), xRmPacksA8, (.c2 .add (.var 9) (.num 1)), (.c2 .add (.var 10) (.num 1)), (.c1 .len (.fn 71 xRmPacksA7 (.var 12) .nil)), (.fn 71 xRmPacksA7 (.var 12) .nil)]))))))))))))
 (.ret (.w (.c (.b (.bol false))), ⟨[], [], 628, 13, []⟩)))))
 (.split (.c2 .eq (.fn 70 xRmPacksA7 (.c2 .take (.c2 .sub (.var 8) (.var 7)) (.c2 .drop (.var 7) (.var 6))) .nil) (.num 0))
 (.chk (.c1 (.kin [.u8]) (.fn 82 (.var 6) (.cons (.var 7) (.cons (.var 8) .nil)) xRmPacksA7))
 (.chk (.c2 .le (.c1 .len (.fn 82 (.var 6) (.cons (.var 7) (.cons (.var 8) .nil)) xRmPacksA7)) (.num 2560))
 (.chk (.c2 .le (.num 4) (.fn 73 (.c2 .rd (.var 4) (.c2 .add (.c2 .mul (.var 5) (.num 75)) (.num 2))) .nil .nil))
 (.chk (.c2 .le (.fn 73 (.c2 .rd (.var 4) (.c2 .add (.c2 .mul (.var 5) (.num 75)) (.num 2))) .nil .nil) (.num 40))
 (.chk (.c2 .le (.c2 .add (.fn 73 (.c2 .rd (.var 4) (.c2 .add (.c2 .mul (.var 5) (.num 75)) (.num 2))) .nil .nil) (.c2 .sub (.var 8) (.var 7))) (.num 2048))
 (.chk (.c2 .le (.num 0) (.fn 84 (.var 7) (.fn 73 (.c2 .rd (.var 4) (.c2 .add (.c2 .mul (.var 5) (.num 75)) (.num 2))) .nil .nil) .nil))
 (.chk (.c2 .le (.fn 84 (.var 7) (.fn 73 (.c2 .rd (.var 4) (.c2 .add (.c2 .mul (.var 5) (.num 75)) (.num 2))) .nil .nil) .nil) (.num 2560))
 (.chk (.c2 .le xRmPacksA8 (.c1 .len (.fn 82 (.var 6) (.cons (.var 7) (.cons (.var 8) .nil)) xRmPacksA7)))
 (.split (.c1 .not (.c2 .eq (.num 0) (.fn 70 xRmPacksA7 (.var 12) .nil)))
 (.ret (.w (.c (.b (.bol false))), ⟨[], [], 628, 13, []⟩))
 (.chk xRmPacksA10
 (.split (.c1 .not (.c2 .leq xRmPacksA9 (.var 12)))
 (.ret (.w (.c (.b (.bol false))), ⟨[], [], 632, 13, []⟩))
 (.split (.c1 .not (.c2 .eq (.c2 .add (.var 9) (.num 1)) (.var 10)))
 (.ret (.w (.c (.b (.bol false))), ⟨[], [], 632, 13, []⟩))
 (.back 0 5 [(.c2 .add (.var 5) (.num 1)), (.fn 82 (.var 6) (.cons (.var 7) (.cons (.var 8) .nil)) xRmPacksA7), (.fn 84 (.var 7) (.fn 73 (.c2 .rd (.var 4) (.c2 .add (.c2 .mul (.var 5) (.num 75)) (.num 2))) .nil .nil) .nil), xRmPacksA8, (.c2 .add (.var 9) (.num 1)), (.var 10), (.var 11), (.var 12)])))))))))))))
 (.split (.c1 .not (.c2 .eq (.fn 70 xRmPacksA7 (.c2 .take (.c2 .sub (.var 8) (.var 7)) (.c2 .drop (.var 7) (.var 6))) .nil) (.fn 70 xRmPacksA7 (.var 12) .nil)))
 (.ret (.w (.c (.b (.bol false))), ⟨[], [], 628, 13, []⟩))
 (.chk (.c2 .eq (.c2 .sub (.var 8) (.var 7)) (.c1 .len (.c2 .take (.c2 .sub (.var 8) (.var 7)) (.c2 .drop (.var 7) (.var 6)))))
 (.split (.c1 .not (.c2 .leq (.c2 .take (.c2 .sub (.var 8) (.var 7)) (.c2 .drop (.var 7) (.var 6))) (.var 12)))
 (.ret (.w (.c (.b (.bol false))), ⟨[], [], 632, 13, []⟩))
 (.split (.c1 .not (.c2 .eq (.var 9) (.var 10)))
 (.ret (.w (.c (.b (.bol false))), ⟨[], [], 632, 13, []⟩))
 (.back 0 5 [(.c2 .add (.var 5) (.num 1)), (.var 6), (.var 7), (.var 8), (.var 9), (.var 10), (.var 11), (.var 12)]))))))))))
 (.ret (.w (.c (.b (.bol true))), ⟨[], [], 5030, 13, []⟩)))
 (.ret (.w (.c (.b (.bol true))), ⟨[], [], 5030, 13, []⟩))))))))))
theorem treeRmPacksB_is : funTree (ctxN Go.Proofs.Tryz.prog annsRm consRm 8) annsRm 3 tPacksB.vs tPacksB.bs tPacksB.n (preF tPacksB.res) = treeRmPacksB := by kernel_rfl
end Go.Proofs.YtfhjlimdakphcaaGreat.Sx
set_option linter.unusedVariables false
set_option linter.unusedSimpArgs false
set_option maxRecDepth 100000
namespace Go.Proofs.YtfhjlimdakphcaaGreat.Sx
open Go
theorem consRm_ok : ConsOk Go.Proofs.Tryz.prog ΦP consRm := moreCons (con_ok wlAwake_ok) (moreCons (con_ok wlEq_ok) (moreCons (con_ok clone_ok) (moreCons (con_ok bring_ok) (moreCons (con_ok new_ok) (moreCons (con_ok on_ok) (moreCons (con_ok off_ok) (moreCons (con_ok (wpuR_ok sigW)) (moreCons (con_ok (wpoR_ok sigW)) noCons))))))))
def rowT (X : T) : Nat → List IntKind → T
 | _, [] => .nil
 | i, k :: ks => .cons (.wr k (.c2 .rd X (.num (.ofNat i)))) (rowT X (i + 1) ks)
theorem rowT_same {ρ : Env} {X Y : T} (h : (T.den ΦP ρ X).list = (T.den ΦP ρ Y).list) : ∀ (ks : List IntKind) (i : Nat), (T.den ΦP ρ (rowT X i ks)).list = (T.den ΦP ρ (rowT Y i ks)).list
 | [], i => rfl
 | k :: ks, i => by
   show k.wrap ((T.den ΦP ρ X).list[(i : Int).toNat]?.getD 0) :: (T.den ΦP ρ (rowT X (i + 1) ks)).list = k.wrap ((T.den ΦP ρ Y).list[(i : Int).toNat]?.getD 0) :: _
   rw [h, rowT_same h ks (i + 1)]
structure AtPk (ρ ρ' : Env) (i : Nat) : Prop where
 same : ∀ j, j < 5 → ρ' j = ρ j
 v5 : (ρ' 5).int = i
 hi : i ≤ 30
 pk : PkL (ρ' 6).list (ρ' 7).int (ρ' 8).int
 mv : (ρ' 9).int = (ρ' 10).int
 m0 : 0 ≤ (ρ' 10).int
 m1 : (ρ' 10).int ≤ i
 len : (ρ' 11).int = (ρ' 12).list.length
 dat : dataOf (ρ' 6).list (ρ' 7).int (ρ' 8).int = (ρ' 12).list
def rpJ : Inv := ⟨fun _ ρ ds => ∃ i : Nat, (nthD ds 0).int = i ∧ i ≤ 30 ∧ PkL (nthD ds 1).list (nthD ds 2).int (nthD ds 3).int ∧ (nthD ds 4).int = (nthD ds 5).int ∧ 0 ≤ (nthD ds 5).int ∧ (nthD ds 5).int ≤ i ∧ (nthD ds 6).int = (nthD ds 7).list.length ∧
 dataOf (nthD ds 1).list (nthD ds 2).int (nthD ds 3).int = (nthD ds 7).list, fun _ ρ ds => 30 - (nthD ds 0).int.toNat⟩
def rpFs : Facts := (.c2 .le (.num 0) (.var 5), true) :: (.c2 .le (.num 0) (.var 10), true) :: (.c2 .le (.var 10) (.num 1000), true) :: (.c2 .le (.num 0) (.var 11), true) :: (.c2 .le (.var 11) (.num 2048), true) :: (.c2 .eq (.c1 .len (.var 12)) (.var 11), true) :: (.c1 (.kin [.u8]) (.var 12), true) :: pkFs 6
theorem rpFs_ok {ρ ρ' : Env} {i : Nat} (h : AtPk ρ ρ' i) : rpFs.hold ΦP ρ' := by
 intro t p hm
 have hl := h.pk.len
 have hb := h.pk.dbytes
 rw [h.dat] at hl hb
 have h1 := h.pk.f0
 have h2 := h.pk.ft
 have h3 := h.pk.tm
 have h4 := h.pk.d
 have h5 := h.pk.ml
 have h6 := h.m0
 have h7 := h.m1
 have h8 := h.hi
 have h9 := h.mv
 have h10 := h.len
 simp only [rpFs, pkFs, List.mem_cons, Prod.mk.injEq, List.not_mem_nil, or_false] at hm
 rcases hm with ⟨rfl, rfl⟩ | ⟨rfl, rfl⟩ | ⟨rfl, rfl⟩ | ⟨rfl, rfl⟩ | ⟨rfl, rfl⟩ | ⟨rfl, rfl⟩ | ⟨rfl, rfl⟩ | ⟨rfl, rfl⟩ | ⟨rfl, rfl⟩ | ⟨rfl, rfl⟩ | ⟨rfl, rfl⟩ | ⟨rfl, rfl⟩ | ⟨rfl, rfl⟩ | ⟨rfl, rfl⟩ | ⟨rfl, rfl⟩ | ⟨rfl, rfl⟩ | ⟨rfl, rfl⟩ | ⟨rfl, rfl⟩
 · rw [le_t, den_var, h.v5]; exact Int.natCast_nonneg _
 · rw [le_t, den_var]; exact h6
 · rw [le_t, den_var]; show (ρ' 10).int ≤ (1000 : Int); omega
 · rw [le_t, den_var]; show (0 : Int) ≤ (ρ' 11).int; omega
 · rw [le_t, den_var]; show (ρ' 11).int ≤ (2048 : Int); omega
 · rw [eq_t, int_len, den_var, den_var]; exact h10.symm
 · rw [bytes_t, den_var]; exact hb
 · rw [le_t, den_var]; exact h1
 · rw [le_t, den_var, den_var]; exact h2
 · rw [le_t, int_len, den_var, den_var]; exact h3
 · rw [le_t, int_sub, den_var, den_var]; exact h4
 · rw [le_t, int_len, den_var]; show ((ρ' 6).list.length : Int) ≤ 2560; omega
 · rw [le_t, den_var]; show (ρ' 7).int ≤ (2560 : Int); omega
 · rw [le_t, den_var]; show (0 : Int) ≤ (ρ' 8).int; omega
 · rw [le_t, den_var]; show (ρ' 8).int ≤ (2560 : Int); omega
 · rw [le_t, den_var]; show (0 : Int) ≤ (ρ' 9).int; omega
 · rw [le_t, den_var]; show (ρ' 9).int ≤ (1000 : Int); omega
 · rw [bytes_t, den_var]; exact h.pk.bytes
theorem rp_back {ρ : Env} {i : Nat} {ds ds' : List D} (h0 : (nthD ds 0).int = i) (h30 : i < 30) (e0 : (nthD ds' 0).int = i + 1) (hp : PkL (nthD ds' 1).list (nthD ds' 2).int (nthD ds' 3).int) (hd : dataOf (nthD ds' 1).list (nthD ds' 2).int (nthD ds' 3).int = (nthD ds' 7).list)
   (hv : (nthD ds' 4).int = (nthD ds' 5).int) (hv0 : 0 ≤ (nthD ds' 5).int) (hv1 : (nthD ds' 5).int ≤ i + 1) (hl : (nthD ds' 6).int = (nthD ds' 7).list.length) : rpJ.I 0 ρ ds' ∧ rpJ.μ 0 ρ ds' < rpJ.μ 0 ρ ds := by
 refine ⟨⟨i + 1, e0, by omega, hp, hv, hv0, by omega, hl, hd⟩, ?_⟩
 show 30 - (nthD ds' 0).int.toNat < 30 - (nthD ds 0).int.toNat
 rw [h0, e0]; omega
theorem at_pk {ρ : Env} {ds : List D} (hn : ds.length = 8) (h : rpJ.I 0 ρ ds) : ∃ i : Nat, (nthD ds 0).int = i ∧ AtPk ρ (upd ρ 5 ds) i := by
 obtain ⟨i, i0, i30, hp, hmv, hm0, hm1, hl, hd⟩ := h
 have e : ∀ j, j < 8 → upd ρ 5 ds (5 + j) = nthD ds j := fun j hj => upd_at (by omega)
 refine ⟨i, i0, fun j hj => upd_lo ds hj, ?_, i30, ?_, ?_, ?_, ?_, ?_, ?_⟩
 · rw [e 0 (by decide)]; exact i0
 · rw [e 1 (by decide), e 2 (by decide), e 3 (by decide)]; exact hp
 · rw [e 4 (by decide), e 5 (by decide)]; exact hmv
 · rw [e 5 (by decide)]; exact hm0
 · rw [e 5 (by decide)]; exact hm1
 · rw [e 6 (by decide), e 7 (by decide)]; exact hl
 · rw [e 1 (by decide), e 2 (by decide), e 3 (by decide), e 7 (by decide)]; exact hd
def dT : T := .c2 .take (.c2 .sub (.var 8) (.var 7)) (.c2 .drop (.var 7) (.var 6))
theorem den_dat {ρ : Env} {a b m : T} (h0 : 0 ≤ (T.den ΦP ρ a).int) (h1 : (T.den ΦP ρ a).int ≤ (T.den ΦP ρ b).int) : (T.den ΦP ρ (.c2 .take (.c2 .sub b a) (.c2 .drop a m))).list = dataOf (T.den ΦP ρ m).list (T.den ΦP ρ a).int (T.den ΦP ρ b).int := by
 rw [list_take, list_drop, int_sub, dataOf, show ((T.den ΦP ρ b).int - (T.den ΦP ρ a).int).toNat = (T.den ΦP ρ b).int.toNat - (T.den ΦP ρ a).int.toNat from by omega]
theorem den_dT {ρ ρ' : Env} {i : Nat} (h : AtPk ρ ρ' i) : (T.den ΦP ρ' dT).list = (ρ' 12).list := by
 rw [dT, den_dat (a := .var 7) (b := .var 8) (m := .var 6) h.pk.f0 h.pk.ft]; exact h.dat
def hdRd : Nat → Nat → T
 | _, 0 => .nil
 | j, n + 1 => .cons (.c2 .rd (.var 4) (.c2 .add (.c2 .mul (.var 5) (.num 75)) (.num (.ofNat j)))) (hdRd (j + 1) n)
theorem den_hdRd {ρ' : Env} {i : Nat} (v5 : (ρ' 5).int = i) : ∀ (n j : Nat), 75 * i + j + n ≤ (ρ' 4).list.length → (T.den ΦP ρ' (hdRd j n)).list = ((ρ' 4).list.drop (75 * i + j)).take n
 | 0, j, _ => rfl
 | n + 1, j, h => by
   show (ρ' 4).list[((ρ' 5).int * 75 + ((j : Nat) : Int)).toNat]?.getD 0 :: (T.den ΦP ρ' (hdRd (j + 1) n)).list = _
   rw [den_hdRd v5 n (j + 1) (by omega), v5, show ((i : Int) * 75 + (j : Int)).toNat = 75 * i + j from by omega, List.drop_eq_getElem_cons (show 75 * i + j < _ by omega), List.take_succ_cons, List.getElem?_eq_getElem (by omega)]; rfl
theorem doHead_good {l : List Int} {i n : Nat} (hk : inKinds kDo 0 l = true) (hl : l.length = 75 * n) (hi : i < n) : GoodInts kHead ((l.drop (75 * i + 2)).take 73) := by
 rw [inKinds_iff] at hk
 have h73 : ((l.drop (75 * i + 2)).take 73).length = 73 := by rw [List.length_take, List.length_drop]; omega
 refine ⟨by rw [h73]; rfl, fun j k z h1 h2 => ?_⟩
 have hj : j < 73 := (List.getElem?_eq_some_iff.1 h1).1
 rw [List.getElem?_take, if_pos hj, List.getElem?_drop] at h2
 have := hk _ _ h2
 have e : kAt kDo (0 + (75 * i + 2 + j)) = k := by
   rw [Nat.zero_add, kAt, show kDo.length = 75 from rfl, Nat.add_assoc, Nat.mul_add_mod, Nat.mod_eq_of_lt (by omega), List.getD_eq_getElem?_getD, show 2 + j = j + 1 + 1 from by omega]
   show (kHead[j]?).getD _ = k
   rw [h1]; rfl
 rw [e] at this; exact this
theorem packsA_ok : TmplOk Go.Proofs.Tryz.prog ΦP 3 tPacksA := by
 refine tmpl_of consRm_ok treeRmPacksA_is (fun ρ res hres => ⟨rpJ, ?_⟩)
 obtain ⟨hcut, hres⟩ := chk_some hres
 obtain ⟨h0, hres⟩ := short_some hres
 obtain ⟨hb0, hres⟩ := bytes_some hres
 obtain ⟨hk, hres⟩ := inKs_some hres
 obtain ⟨n0, hres⟩ := chk_some hres
 obtain ⟨n1, hres⟩ := chk_some hres
 obtain ⟨hlen, hres⟩ := chk_some hres
 obtain ⟨hkin, hres⟩ := chk_some hres
 obtain rfl := ret_some hres
 rw [le_t, int_len, den_var] at hcut
 replace hcut : ((ρ 0).list.length : Int) ≤ 2048 := hcut
 have hb := hb0
 rw [eq_t, int_len, int_mul, den_var, den_var] at hlen
 replace hlen : ((ρ 4).list.length : Int) = (ρ 3).int * 75 := hlen
 have r1 := bring_range (ρ 1).int (n := 257) (by decide)
 have r2 := bring_range (ρ 2).int (n := 257) (by decide)
 obtain ⟨hp, hd⟩ := new_l (b := (ρ 0).list) hb (by omega) r1.1 r1.2 r2.1 r2.2
 have nl : ∀ x y : Int, 0 ≤ x → 0 ≤ y → ((newMem (ρ 0).list x y).length : Int) = x + ((ρ 0).list.length : Int) + y := by
   intro x y hx hy
   rw [newMem, List.length_append, List.length_append, List.length_replicate, List.length_replicate]
   omega
 refine ⟨by rw [le_t]; exact r1.1, by rw [lt_t]; exact r1.2, by rw [le_t]; exact r2.1, by rw [lt_t]; exact r2.2, ?_, ?_, ⟨0, rfl, Nat.zero_le _, hp, rfl, Int.le_refl _, Int.le_refl _, rfl, hd⟩, ?_⟩
 · rw [bytes_t]; exact hp.bytes
 · rw [eq_t]; exact nl _ _ r1.1 r2.1
 rintro ds hds hI
 obtain ⟨i, i0, a⟩ := at_pk hds hI
 have lo5 : ∀ j, j < 5 → upd ρ 5 ds j = ρ j := fun j hj => upd_lo ds hj
 generalize upd ρ 5 ds = ρ' at *
 refine ⟨rpFs_ok a, fun c => ⟨fun c' => ?_, fun _ => leaf_true rfl (by decide)⟩, fun _ => leaf_true rfl (by decide)⟩
 rw [lt_t, den_var, den_var, a.v5, a.same 3 (by decide)] at c
 rw [lt_t, den_var, a.v5] at c'
 replace c' : (i : Int) < 30 := c'
 have i30 : i < 30 := by omega
 have v4 : (ρ' 4).list.length = (ρ 3).int * 75 := by rw [a.same 4 (by decide)]; exact hlen
 have hidx : (T.den ΦP ρ' (.c2 .mul (.var 5) (.num 75))).int = i * 75 := by rw [int_mul, den_var, a.v5]; rfl
 have hD := den_dT a
 refine ⟨by rw [le_t, int_add, hidx, int_len, den_var, v4]; show (i : Int) * 75 + 1 ≤ _; omega, fun o => ?_, fun o => ?_⟩
 · refine ⟨by rw [le_t, int_add, hidx, int_len, den_var, v4]; show (i : Int) * 75 + 2 ≤ _; omega, ?_⟩
   have hE : (T.den ΦP ρ' xRmPacksA0).int = (T.den ΦP ρ' (.fn 75 (.var 12) (.c2 .rd (.var 4) (.c2 .add (.c2 .mul (.var 5) (.num 75)) (.num 1))) .nil)).int := by
     show popErr (T.den ΦP ρ' dT).list _ = popErr (ρ' 12).list _
     rw [hD]
   have hH : (T.den ΦP ρ' xRmPacksA2).list = (T.den ΦP ρ' xRmPacksA3).list := by
     refine rowT_same (X := xRmPacksA1) (Y := .fn 76 (.var 12) (.c2 .rd (.var 4) (.c2 .add (.c2 .mul (.var 5) (.num 75)) (.num 1))) .nil) ?_ kHead 0
     show popHead (T.den ΦP ρ' dT).list _ = popHead (ρ' 12).list _
     rw [hD]
   have hX4 : ∀ {n : Int}, (T.den ΦP ρ' (.fn 73 (.c2 .rd (.var 4) (.c2 .add (.c2 .mul (.var 5) (.num 75)) (.num 1))) .nil .nil)).int = n → 0 ≤ n → n ≤ (ρ' 8).int - (ρ' 7).int → (T.den ΦP ρ' xRmPacksA4).list = dataOf (ρ' 6).list ((ρ' 7).int + n) (ρ' 8).int := by
     intro n h1 h2 h3
     have f0 := a.pk.f0
     have e7 : (T.den ΦP ρ' (.c2 .add (.var 7) (.fn 73 (.c2 .rd (.var 4) (.c2 .add (.c2 .mul (.var 5) (.num 75)) (.num 1))) .nil .nil))).int = (ρ' 7).int + n := by rw [int_add, h1, den_var]
     refine (den_dat (a := .c2 .add (.var 7) (.fn 73 (.c2 .rd (.var 4) (.c2 .add (.c2 .mul (.var 5) (.num 75)) (.num 1))) .nil .nil)) (b := .var 8) (m := .var 6) (by rw [e7]; omega) (by rw [e7, den_var]; omega)).trans ?_
     rw [e7]; rfl
   refine ⟨fun e1 => ?_, fun e1 => ?_⟩
   · rw [eq_t, hE] at e1
     have hz : popErr (dataOf (ρ' 6).list (ρ' 7).int (ρ' 8).int) (T.den ΦP ρ' (.c2 .rd (.var 4) (.c2 .add (.c2 .mul (.var 5) (.num 75)) (.num 1)))).int = 0 := by rw [a.dat]; exact e1
     have L := off_l a.pk hz
     have n4 := L.n4
     have nle := L.le
     have hx4 := hX4 rfl (by show (0 : Int) ≤ (hdSize _ : Int); omega) nle
     have hdt := L.data
     have hby := L.bytes
     rw [a.dat] at hdt hby
     refine ⟨by rw [le_t]; exact n4, by rw [le_t, int_sub, den_var, den_var]; exact nle, fun e2 => ?_, fun e2 => ?_⟩
     · refine ⟨by rw [bytes_t]; exact hby, ?_, fun q => ?_, fun _ => ⟨?_, ?_, fun q => ?_, fun _ => ⟨fun q => ?_, fun _ => ?_⟩⟩⟩
       · rw [le_t, int_len, int_len, den_var]; show ((popRest (ρ' 12).list _).length : Int) ≤ _; rw [popRest, List.length_drop]; omega
       · exfalso; rw [not_t, leq_f] at q; exact q hH
       · show (T.den ΦP ρ' (.c2 .eq (.c2 .sub (.var 8) (.c2 .add (.var 7) (.fn 73 (.c2 .rd (.var 4) (.c2 .add (.c2 .mul (.var 5) (.num 75)) (.num 1))) .nil .nil))) (.c1 .len xRmPacksA4))).bool = true
         rw [eq_t, int_len, hx4, int_sub, int_add, den_var, den_var]; exact L.pk.len.symm
       · rw [le_t, int_len]; show ((popRest (ρ' 12).list _).length : Int) ≤ 140737488351232
         have := a.pk.len
         have := a.pk.d
         rw [a.dat] at *
         rw [popRest, List.length_drop]; omega
       · exfalso; rw [not_t, leq_f] at q; exact q (hx4.trans hdt)
       · exfalso; rw [not_t, eq_f, int_add, int_add, den_var, den_var, a.mv] at q; exact q rfl
       · refine ok_back (rp_back i0 i30 ?_ L.pk hdt ?_ ?_ ?_ rfl)
         · show (ρ' 5).int + 1 = _; rw [a.v5]
         · show (ρ' 9).int + 1 = (ρ' 10).int + 1; rw [a.mv]
         · show 0 ≤ (ρ' 10).int + 1; have := a.m0; omega
         · show (ρ' 10).int + 1 ≤ _; have := a.m1; omega
     · exfalso; rw [eq_f] at e2; exact e2 e1
   · rw [eq_f, hE] at e1
     refine ⟨fun e2 => ?_, fun e2 => ⟨fun q => ?_, fun _ => ⟨?_, fun q => ?_, fun _ => ⟨fun q => ?_, fun _ => ?_⟩⟩⟩⟩
     · exfalso; rw [eq_t] at e2; exact e1 e2
     · exfalso; rw [not_t, eq_f] at q; exact q hE
     · show (T.den ΦP ρ' (.c2 .eq (.c2 .sub (.var 8) (.var 7)) (.c1 .len dT))).bool = true
       rw [eq_t, int_len, hD, int_sub, den_var, den_var, ← a.dat]; exact a.pk.len.symm
     · exfalso; rw [not_t, leq_f] at q; exact q (hD.trans rfl)
     · exfalso; rw [not_t, eq_f, den_var, den_var] at q; exact q a.mv
     · refine ok_back (rp_back i0 i30 ?_ a.pk a.dat a.mv a.m0 ?_ a.len)
       · show (ρ' 5).int + 1 = _; rw [a.v5]
       · show (ρ' 10).int ≤ _; have := a.m1; omega
 · have hll : (ρ' 4).list.length = 75 * (ρ 3).int.toNat := by omega
   have hi3 : i < (ρ 3).int.toNat := by omega
   obtain ⟨H, hHd⟩ : ∃ H, ((ρ' 4).list.drop (75 * i + 2)).take 73 = H := ⟨_, rfl⟩
   have hH : (T.den ΦP ρ' xRmPacksA7).list = H := (den_hdRd a.v5 73 2 (by omega)).trans hHd
   have hg : GoodInts kHead H := by rw [← hHd]; exact doHead_good (by rw [a.same 4 (by decide)]; exact hkin) hll hi3
   have hk0 : (T.den ΦP ρ' (.c2 .rd (.var 4) (.c2 .add (.c2 .mul (.var 5) (.num 75)) (.num 2)))).int = g H 0 := by
     rw [← hH]; rfl
   refine ⟨by rw [le_t, int_add, hidx, int_len, den_var, v4]; show (i : Int) * 75 + 75 ≤ _; omega, ?_⟩
   have hE1 : (T.den ΦP ρ' (.fn 70 xRmPacksA7 (.var 12) .nil)).int = pushErr H (ρ' 12).list := by
     show pushErr (T.den ΦP ρ' xRmPacksA7).list _ = _; rw [hH]; rfl
   have hE2 : (T.den ΦP ρ' (.fn 70 xRmPacksA7 dT .nil)).int = pushErr H (ρ' 12).list := by
     show pushErr (T.den ΦP ρ' xRmPacksA7).list (T.den ΦP ρ' dT).list = _; rw [hH, hD]
   refine ⟨fun e1 => ?_, fun e1 => ⟨fun e2 => ?_, fun e2 => ⟨fun q => ?_, fun _ => ⟨?_, fun q => ?_, fun _ => ⟨fun q => ?_, fun _ => ?_⟩⟩⟩⟩⟩
   · rw [eq_t, hE1] at e1
     replace e1 : pushErr H (ρ' 12).list = 0 := e1
     have L := on_l a.pk hg (by rw [a.dat]; exact e1)
     have hby := L.pk.dbytes
     have hdl := L.pk.len
     rw [L.data, a.dat] at hby hdl
     have hN : (T.den ΦP ρ' (.fn 73 (.c2 .rd (.var 4) (.c2 .add (.c2 .mul (.var 5) (.num 75)) (.num 2))) .nil .nil)).int = hdSize (g H 0).toNat := by
       show ((hdSize (T.den ΦP ρ' (.c2 .rd (.var 4) (.c2 .add (.c2 .mul (.var 5) (.num 75)) (.num 2)))).int.toNat : Nat) : Int) = _; rw [hk0]
     have hR : (T.den ΦP ρ' (.fn 71 xRmPacksA7 (.var 12) .nil)).list = pushRow H (ρ' 12).list := by
       show pushRow (T.den ΦP ρ' xRmPacksA7).list _ = _; rw [hH]; rfl
     have hM : (T.den ΦP ρ' (.fn 82 (.var 6) (.cons (.var 7) (.cons (.var 8) .nil)) xRmPacksA7)).list = onMem (ρ' 6).list [(ρ' 7).int, (ρ' 8).int] H := by
       show onMem _ _ (T.den ΦP ρ' xRmPacksA7).list = _; rw [hH]; rfl
     have hF : (T.den ΦP ρ' (.fn 84 (.var 7) (.fn 73 (.c2 .rd (.var 4) (.c2 .add (.c2 .mul (.var 5) (.num 75)) (.num 2))) .nil .nil) .nil)).int = onFrom (ρ' 7).int (hdSize (g H 0).toNat) := by
       show onFrom (ρ' 7).int (T.den ΦP ρ' (.fn 73 (.c2 .rd (.var 4) (.c2 .add (.c2 .mul (.var 5) (.num 75)) (.num 2))) .nil .nil)).int = _; rw [hN]
     have hT : (T.den ΦP ρ' xRmPacksA8).int = onFrom (ρ' 7).int (hdSize (g H 0).toNat) + ((hdSize (g H 0).toNat : Int) + ((ρ' 8).int - (ρ' 7).int)) := by
       rw [xRmPacksA8, int_add, int_add, int_sub, hF, hN]; rfl
     have p0 := L.pk.f0
     have p1 := L.pk.ft
     have p2 := L.pk.tm
     have p3 := L.pk.ml
     have p4 := L.n4
     have p5 := L.n40
     have p6 := L.short
     have hX9 : (T.den ΦP ρ' xRmPacksA9).list = pushRow H (ρ' 12).list := by
       rw [xRmPacksA9, den_dat (by rw [hF]; exact p0) (by rw [hF, hT]; exact p1), hF, hT, hM, L.data, a.dat]
     refine ⟨by rw [bytes_t, hR]; exact hby, by rw [le_t, int_len, hR, hdl]; show _ ≤ (2048 : Int); omega, fun e2 => ?_, fun e2 => ?_⟩
     · refine ⟨by rw [bytes_t, hM]; exact L.pk.bytes, by rw [le_t, int_len, hM]; show _ ≤ (2560 : Int); omega, by rw [le_t, hN]; exact p4, by rw [le_t, hN]; exact p5, by rw [le_t, int_add, hN, int_sub]; exact p6,
         by rw [le_t, hF]; exact p0, by rw [le_t, hF]; show _ ≤ (2560 : Int); omega, by rw [le_t, hT, int_len, hM]; exact p2, ?_, fun q => ?_, fun _ => ⟨fun q => ?_, fun _ => ?_⟩⟩
       · rw [xRmPacksA10, eq_t, int_sub, hT, hF, int_len, hX9, hdl]
       · exfalso; rw [not_t, leq_f] at q; exact q (hX9.trans hR.symm)
       · exfalso; rw [not_t, eq_f, int_add, int_add, den_var, den_var, a.mv] at q; exact q rfl
       · refine ok_back (rp_back i0 i30 ?_ ?_ ?_ ?_ ?_ ?_ rfl)
         · show (ρ' 5).int + 1 = _; rw [a.v5]
         · show PkL (T.den ΦP ρ' (.fn 82 (.var 6) (.cons (.var 7) (.cons (.var 8) .nil)) xRmPacksA7)).list (T.den ΦP ρ' (.fn 84 (.var 7) (.fn 73 (.c2 .rd (.var 4) (.c2 .add (.c2 .mul (.var 5) (.num 75)) (.num 2))) .nil .nil) .nil)).int (T.den ΦP ρ' xRmPacksA8).int
           rw [hM, hF, hT]; exact L.pk
         · show dataOf (T.den ΦP ρ' (.fn 82 (.var 6) (.cons (.var 7) (.cons (.var 8) .nil)) xRmPacksA7)).list (T.den ΦP ρ' (.fn 84 (.var 7) (.fn 73 (.c2 .rd (.var 4) (.c2 .add (.c2 .mul (.var 5) (.num 75)) (.num 2))) .nil .nil) .nil)).int (T.den ΦP ρ' xRmPacksA8).int = (T.den ΦP ρ' (.fn 71 xRmPacksA7 (.var 12) .nil)).list
           rw [hM, hF, hT, hR, L.data, a.dat]
         · show (ρ' 9).int + 1 = (ρ' 10).int + 1; rw [a.mv]
         · show 0 ≤ (ρ' 10).int + 1; have := a.m0; omega
         · show (ρ' 10).int + 1 ≤ _; have := a.m1; omega
     · exfalso; rw [eq_f] at e2; exact e2 (hE2.trans e1)
   · exfalso; rw [eq_f] at e1; rw [eq_t] at e2; exact e1 (hE1.trans (hE2.symm.trans e2))
   · exfalso; rw [not_t, eq_f] at q; exact q (hE2.trans hE1.symm)
   · show (T.den ΦP ρ' (.c2 .eq (.c2 .sub (.var 8) (.var 7)) (.c1 .len dT))).bool = true
     rw [eq_t, int_len, hD, int_sub, den_var, den_var, ← a.dat]; exact a.pk.len.symm
   · exfalso; rw [not_t, leq_f] at q; exact q (hD.trans rfl)
   · exfalso; rw [not_t, eq_f, den_var, den_var] at q; exact q a.mv
   · refine ok_back (rp_back i0 i30 ?_ a.pk a.dat a.mv a.m0 ?_ a.len)
     · show (ρ' 5).int + 1 = _; rw [a.v5]
     · show (ρ' 10).int ≤ _; have := a.m1; omega
theorem packsB_ok : TmplOk Go.Proofs.Tryz.prog ΦP 3 tPacksB := by
 refine tmpl_of consRm_ok treeRmPacksB_is (fun ρ res hres => ⟨rpJ, ?_⟩)
 obtain ⟨hcut, hres⟩ := chk_some hres
 obtain ⟨h0, hres⟩ := short_some hres
 obtain ⟨hb0, hres⟩ := bytes_some hres
 obtain ⟨hk, hres⟩ := inKs_some hres
 obtain ⟨n0, hres⟩ := chk_some hres
 obtain ⟨n1, hres⟩ := chk_some hres
 obtain ⟨hlen, hres⟩ := chk_some hres
 obtain ⟨hkin, hres⟩ := chk_some hres
 obtain rfl := ret_some hres
 rw [lt_t, int_len, den_var] at hcut
 replace hcut : (2048 : Int) < ((ρ 0).list.length : Int) := hcut
 have hb := bytes_take hb0 2048
 have hl0 : ((ρ 0).list.take 2048).length = 2048 := by rw [List.length_take]; omega
 rw [eq_t, int_len, int_mul, den_var, den_var] at hlen
 replace hlen : ((ρ 4).list.length : Int) = (ρ 3).int * 75 := hlen
 have r1 := bring_range (ρ 1).int (n := 257) (by decide)
 have r2 := bring_range (ρ 2).int (n := 257) (by decide)
 obtain ⟨hp, hd⟩ := new_l (b := ((ρ 0).list.take 2048)) hb (by omega) r1.1 r1.2 r2.1 r2.2
 have nl : ∀ x y : Int, 0 ≤ x → 0 ≤ y → ((newMem ((ρ 0).list.take 2048) x y).length : Int) = x + (((ρ 0).list.take 2048).length : Int) + y := by
   intro x y hx hy
   rw [newMem, List.length_append, List.length_append, List.length_replicate, List.length_replicate]
   omega
 refine ⟨by rw [le_t]; exact r1.1, by rw [lt_t]; exact r1.2, by rw [le_t]; exact r2.1, by rw [lt_t]; exact r2.2, ?_, ?_, ⟨0, rfl, Nat.zero_le _, hp, rfl, Int.le_refl _, Int.le_refl _, ?_, hd⟩, ?_⟩
 · rw [bytes_t]; exact hp.bytes
 · rw [eq_t]; refine (nl _ _ r1.1 r2.1).trans ?_; rw [hl0]; rfl
 · show (2048 : Int) = (((ρ 0).list.take 2048).length : Int); omega
 rintro ds hds hI
 obtain ⟨i, i0, a⟩ := at_pk hds hI
 have lo5 : ∀ j, j < 5 → upd ρ 5 ds j = ρ j := fun j hj => upd_lo ds hj
 generalize upd ρ 5 ds = ρ' at *
 refine ⟨rpFs_ok a, fun c => ⟨fun c' => ?_, fun _ => leaf_true rfl (by decide)⟩, fun _ => leaf_true rfl (by decide)⟩
 rw [lt_t, den_var, den_var, a.v5, a.same 3 (by decide)] at c
 rw [lt_t, den_var, a.v5] at c'
 replace c' : (i : Int) < 30 := c'
 have i30 : i < 30 := by omega
 have v4 : (ρ' 4).list.length = (ρ 3).int * 75 := by rw [a.same 4 (by decide)]; exact hlen
 have hidx : (T.den ΦP ρ' (.c2 .mul (.var 5) (.num 75))).int = i * 75 := by rw [int_mul, den_var, a.v5]; rfl
 have hD := den_dT a
 refine ⟨by rw [le_t, int_add, hidx, int_len, den_var, v4]; show (i : Int) * 75 + 1 ≤ _; omega, fun o => ?_, fun o => ?_⟩
 · refine ⟨by rw [le_t, int_add, hidx, int_len, den_var, v4]; show (i : Int) * 75 + 2 ≤ _; omega, ?_⟩
   have hE : (T.den ΦP ρ' xRmPacksA0).int = (T.den ΦP ρ' (.fn 75 (.var 12) (.c2 .rd (.var 4) (.c2 .add (.c2 .mul (.var 5) (.num 75)) (.num 1))) .nil)).int := by
     show popErr (T.den ΦP ρ' dT).list _ = popErr (ρ' 12).list _
     rw [hD]
   have hH : (T.den ΦP ρ' xRmPacksA2).list = (T.den ΦP ρ' xRmPacksA3).list := by
     refine rowT_same (X := xRmPacksA1) (Y := .fn 76 (.var 12) (.c2 .rd (.var 4) (.c2 .add (.c2 .mul (.var 5) (.num 75)) (.num 1))) .nil) ?_ kHead 0
     show popHead (T.den ΦP ρ' dT).list _ = popHead (ρ' 12).list _
     rw [hD]
   have hX4 : ∀ {n : Int}, (T.den ΦP ρ' (.fn 73 (.c2 .rd (.var 4) (.c2 .add (.c2 .mul (.var 5) (.num 75)) (.num 1))) .nil .nil)).int = n → 0 ≤ n → n ≤ (ρ' 8).int - (ρ' 7).int → (T.den ΦP ρ' xRmPacksA4).list = dataOf (ρ' 6).list ((ρ' 7).int + n) (ρ' 8).int := by
     intro n h1 h2 h3
     have f0 := a.pk.f0
     have e7 : (T.den ΦP ρ' (.c2 .add (.var 7) (.fn 73 (.c2 .rd (.var 4) (.c2 .add (.c2 .mul (.var 5) (.num 75)) (.num 1))) .nil .nil))).int = (ρ' 7).int + n := by rw [int_add, h1, den_var]
     refine (den_dat (a := .c2 .add (.var 7) (.fn 73 (.c2 .rd (.var 4) (.c2 .add (.c2 .mul (.var 5) (.num 75)) (.num 1))) .nil .nil)) (b := .var 8) (m := .var 6) (by rw [e7]; omega) (by rw [e7, den_var]; omega)).trans ?_
     rw [e7]; rfl
   refine ⟨fun e1 => ?_, fun e1 => ?_⟩
   · rw [eq_t, hE] at e1
     have hz : popErr (dataOf (ρ' 6).list (ρ' 7).int (ρ' 8).int) (T.den ΦP ρ' (.c2 .rd (.var 4) (.c2 .add (.c2 .mul (.var 5) (.num 75)) (.num 1)))).int = 0 := by rw [a.dat]; exact e1
     have L := off_l a.pk hz
     have n4 := L.n4
     have nle := L.le
     have hx4 := hX4 rfl (by show (0 : Int) ≤ (hdSize _ : Int); omega) nle
     have hdt := L.data
     have hby := L.bytes
     rw [a.dat] at hdt hby
     refine ⟨by rw [le_t]; exact n4, by rw [le_t, int_sub, den_var, den_var]; exact nle, fun e2 => ?_, fun e2 => ?_⟩
     · refine ⟨by rw [bytes_t]; exact hby, ?_, fun q => ?_, fun _ => ⟨?_, ?_, fun q => ?_, fun _ => ⟨fun q => ?_, fun _ => ?_⟩⟩⟩
       · rw [le_t, int_len, int_len, den_var]; show ((popRest (ρ' 12).list _).length : Int) ≤ _; rw [popRest, List.length_drop]; omega
       · exfalso; rw [not_t, leq_f] at q; exact q hH
       · show (T.den ΦP ρ' (.c2 .eq (.c2 .sub (.var 8) (.c2 .add (.var 7) (.fn 73 (.c2 .rd (.var 4) (.c2 .add (.c2 .mul (.var 5) (.num 75)) (.num 1))) .nil .nil))) (.c1 .len xRmPacksA4))).bool = true
         rw [eq_t, int_len, hx4, int_sub, int_add, den_var, den_var]; exact L.pk.len.symm
       · rw [le_t, int_len]; show ((popRest (ρ' 12).list _).length : Int) ≤ 140737488351232
         have := a.pk.len
         have := a.pk.d
         rw [a.dat] at *
         rw [popRest, List.length_drop]; omega
       · exfalso; rw [not_t, leq_f] at q; exact q (hx4.trans hdt)
       · exfalso; rw [not_t, eq_f, int_add, int_add, den_var, den_var, a.mv] at q; exact q rfl
       · refine ok_back (rp_back i0 i30 ?_ L.pk hdt ?_ ?_ ?_ rfl)
         · show (ρ' 5).int + 1 = _; rw [a.v5]
         · show (ρ' 9).int + 1 = (ρ' 10).int + 1; rw [a.mv]
         · show 0 ≤ (ρ' 10).int + 1; have := a.m0; omega
         · show (ρ' 10).int + 1 ≤ _; have := a.m1; omega
     · exfalso; rw [eq_f] at e2; exact e2 e1
   · rw [eq_f, hE] at e1
     refine ⟨fun e2 => ?_, fun e2 => ⟨fun q => ?_, fun _ => ⟨?_, fun q => ?_, fun _ => ⟨fun q => ?_, fun _ => ?_⟩⟩⟩⟩
     · exfalso; rw [eq_t] at e2; exact e1 e2
     · exfalso; rw [not_t, eq_f] at q; exact q hE
     · show (T.den ΦP ρ' (.c2 .eq (.c2 .sub (.var 8) (.var 7)) (.c1 .len dT))).bool = true
       rw [eq_t, int_len, hD, int_sub, den_var, den_var, ← a.dat]; exact a.pk.len.symm
     · exfalso; rw [not_t, leq_f] at q; exact q (hD.trans rfl)
     · exfalso; rw [not_t, eq_f, den_var, den_var] at q; exact q a.mv
     · refine ok_back (rp_back i0 i30 ?_ a.pk a.dat a.mv a.m0 ?_ a.len)
       · show (ρ' 5).int + 1 = _; rw [a.v5]
       · show (ρ' 10).int ≤ _; have := a.m1; omega
 · have hll : (ρ' 4).list.length = 75 * (ρ 3).int.toNat := by omega
   have hi3 : i < (ρ 3).int.toNat := by omega
   obtain ⟨H, hHd⟩ : ∃ H, ((ρ' 4).list.drop (75 * i + 2)).take 73 = H := ⟨_, rfl⟩
   have hH : (T.den ΦP ρ' xRmPacksA7).list = H := (den_hdRd a.v5 73 2 (by omega)).trans hHd
   have hg : GoodInts kHead H := by rw [← hHd]; exact doHead_good (by rw [a.same 4 (by decide)]; exact hkin) hll hi3
   have hk0 : (T.den ΦP ρ' (.c2 .rd (.var 4) (.c2 .add (.c2 .mul (.var 5) (.num 75)) (.num 2)))).int = g H 0 := by
     rw [← hH]; rfl
   refine ⟨by rw [le_t, int_add, hidx, int_len, den_var, v4]; show (i : Int) * 75 + 75 ≤ _; omega, ?_⟩
   have hE1 : (T.den ΦP ρ' (.fn 70 xRmPacksA7 (.var 12) .nil)).int = pushErr H (ρ' 12).list := by
     show pushErr (T.den ΦP ρ' xRmPacksA7).list _ = _; rw [hH]; rfl
   have hE2 : (T.den ΦP ρ' (.fn 70 xRmPacksA7 dT .nil)).int = pushErr H (ρ' 12).list := by
     show pushErr (T.den ΦP ρ' xRmPacksA7).list (T.den ΦP ρ' dT).list = _; rw [hH, hD]
   refine ⟨fun e1 => ?_, fun e1 => ⟨fun e2 => ?_, fun e2 => ⟨fun q => ?_, fun _ => ⟨?_, fun q => ?_, fun _ => ⟨fun q => ?_, fun _ => ?_⟩⟩⟩⟩⟩
   · rw [eq_t, hE1] at e1
     replace e1 : pushErr H (ρ' 12).list = 0 := e1
     have L := on_l a.pk hg (by rw [a.dat]; exact e1)
     have hby := L.pk.dbytes
     have hdl := L.pk.len
     rw [L.data, a.dat] at hby hdl
     have hN : (T.den ΦP ρ' (.fn 73 (.c2 .rd (.var 4) (.c2 .add (.c2 .mul (.var 5) (.num 75)) (.num 2))) .nil .nil)).int = hdSize (g H 0).toNat := by
       show ((hdSize (T.den ΦP ρ' (.c2 .rd (.var 4) (.c2 .add (.c2 .mul (.var 5) (.num 75)) (.num 2)))).int.toNat : Nat) : Int) = _; rw [hk0]
     have hR : (T.den ΦP ρ' (.fn 71 xRmPacksA7 (.var 12) .nil)).list = pushRow H (ρ' 12).list := by
       show pushRow (T.den ΦP ρ' xRmPacksA7).list _ = _; rw [hH]; rfl
     have hM : (T.den ΦP ρ' (.fn 82 (.var 6) (.cons (.var 7) (.cons (.var 8) .nil)) xRmPacksA7)).list = onMem (ρ' 6).list [(ρ' 7).int, (ρ' 8).int] H := by
       show onMem _ _ (T.den ΦP ρ' xRmPacksA7).list = _; rw [hH]; rfl
     have hF : (T.den ΦP ρ' (.fn 84 (.var 7) (.fn 73 (.c2 .rd (.var 4) (.c2 .add (.c2 .mul (.var 5) (.num 75)) (.num 2))) .nil .nil) .nil)).int = onFrom (ρ' 7).int (hdSize (g H 0).toNat) := by
       show onFrom (ρ' 7).int (T.den ΦP ρ' (.fn 73 (.c2 .rd (.var 4) (.c2 .add (.c2 .mul (.var 5) (.num 75)) (.num 2))) .nil .nil)).int = _; rw [hN]
     have hT : (T.den ΦP ρ' xRmPacksA8).int = onFrom (ρ' 7).int (hdSize (g H 0).toNat) + ((hdSize (g H 0).toNat : Int) + ((ρ' 8).int - (ρ' 7).int)) := by
       rw [xRmPacksA8, int_add, int_add, int_sub, hF, hN]; rfl
     have p0 := L.pk.f0
     have p1 := L.pk.ft
     have p2 := L.pk.tm
     have p3 := L.pk.ml
     have p4 := L.n4
     have p5 := L.n40
     have p6 := L.short
     have hX9 : (T.den ΦP ρ' xRmPacksA9).list = pushRow H (ρ' 12).list := by
       rw [xRmPacksA9, den_dat (by rw [hF]; exact p0) (by rw [hF, hT]; exact p1), hF, hT, hM, L.data, a.dat]
     refine ⟨by rw [bytes_t, hR]; exact hby, by rw [le_t, int_len, hR, hdl]; show _ ≤ (2048 : Int); omega, fun e2 => ?_, fun e2 => ?_⟩
     · refine ⟨by rw [bytes_t, hM]; exact L.pk.bytes, by rw [le_t, int_len, hM]; show _ ≤ (2560 : Int); omega, by rw [le_t, hN]; exact p4, by rw [le_t, hN]; exact p5, by rw [le_t, int_add, hN, int_sub]; exact p6,
         by rw [le_t, hF]; exact p0, by rw [le_t, hF]; show _ ≤ (2560 : Int); omega, by rw [le_t, hT, int_len, hM]; exact p2, ?_, fun q => ?_, fun _ => ⟨fun q => ?_, fun _ => ?_⟩⟩
       · rw [xRmPacksA10, eq_t, int_sub, hT, hF, int_len, hX9, hdl]
       · exfalso; rw [not_t, leq_f] at q; exact q (hX9.trans hR.symm)
       · exfalso; rw [not_t, eq_f, int_add, int_add, den_var, den_var, a.mv] at q; exact q rfl
       · refine ok_back (rp_back i0 i30 ?_ ?_ ?_ ?_ ?_ ?_ rfl)
         · show (ρ' 5).int + 1 = _; rw [a.v5]
         · show PkL (T.den ΦP ρ' (.fn 82 (.var 6) (.cons (.var 7) (.cons (.var 8) .nil)) xRmPacksA7)).list (T.den ΦP ρ' (.fn 84 (.var 7) (.fn 73 (.c2 .rd (.var 4) (.c2 .add (.c2 .mul (.var 5) (.num 75)) (.num 2))) .nil .nil) .nil)).int (T.den ΦP ρ' xRmPacksA8).int
           rw [hM, hF, hT]; exact L.pk
         · show dataOf (T.den ΦP ρ' (.fn 82 (.var 6) (.cons (.var 7) (.cons (.var 8) .nil)) xRmPacksA7)).list (T.den ΦP ρ' (.fn 84 (.var 7) (.fn 73 (.c2 .rd (.var 4) (.c2 .add (.c2 .mul (.var 5) (.num 75)) (.num 2))) .nil .nil) .nil)).int (T.den ΦP ρ' xRmPacksA8).int = (T.den ΦP ρ' (.fn 71 xRmPacksA7 (.var 12) .nil)).list
           rw [hM, hF, hT, hR, L.data, a.dat]
         · show (ρ' 9).int + 1 = (ρ' 10).int + 1; rw [a.mv]
         · show 0 ≤ (ρ' 10).int + 1; have := a.m0; omega
         · show (ρ' 10).int + 1 ≤ _; have := a.m1; omega
     · exfalso; rw [eq_f] at e2; exact e2 (hE2.trans e1)
   · exfalso; rw [eq_f] at e1; rw [eq_t] at e2; exact e1 (hE1.trans (hE2.symm.trans e2))
   · exfalso; rw [not_t, eq_f] at q; exact q (hE2.trans hE1.symm)
   · show (T.den ΦP ρ' (.c2 .eq (.c2 .sub (.var 8) (.var 7)) (.c1 .len dT))).bool = true
     rw [eq_t, int_len, hD, int_sub, den_var, den_var, ← a.dat]; exact a.pk.len.symm
   · exfalso; rw [not_t, leq_f] at q; exact q (hD.trans rfl)
   · exfalso; rw [not_t, eq_f, den_var, den_var] at q; exact q a.mv
   · refine ok_back (rp_back i0 i30 ?_ a.pk a.dat a.mv a.m0 ?_ a.len)
     · show (ρ' 5).int + 1 = _; rw [a.v5]
     · show (ρ' 10).int ≤ _; have := a.m1; omega
theorem chk_val {ρ : Env} {t : T} {x : O Res} {res : Res} (h : (T.den ΦP ρ t).bool = true) (hx : x.val (T.den ΦP ρ) = some res) : (O.chk t x).val (T.den ΦP ρ) = some res := by simp only [O.val]; rw [if_pos h]; exact hx
theorem packs_ok : TmplOk Go.Proofs.Tryz.prog ΦP 3 tPacks := by
 intro ρ res hres
 by_cases c : (T.den ΦP ρ (.c2 .le (.c1 .len (.var 0)) (.num 2048))).bool = true
 · exact packsA_ok ρ res (chk_val c hres)
 · refine packsB_ok ρ res (chk_val ?_ hres)
   rw [le_t] at c
   rw [lt_t]
   omega
end Go.Proofs.YtfhjlimdakphcaaGreat.Sx
set_option maxRecDepth 100000
namespace Go.Proofs.YtfhjlimdakphcaaGreat.Sx
open Go
def treeWlPops : M (V × St) :=
(.split (.c2 .eq (.fn 75 (.var 0) (.var 1) .nil) (.num 0))
 (.chk (.c1 (.kin [.u8]) (.fn 77 (.var 0) (.var 1) .nil))
 (.chk (.c2 .le (.c1 .len (.fn 77 (.var 0) (.var 1) .nil)) (.c1 .len (.var 0)))
 (.loop 0 2 2 [(.num 0), (.fn 77 (.var 0) (.var 1) .nil)] [((.c2 .le (.num 0) (.var 2)), true), ((.c2 .eq (.c1 .len (.var 3)) (.c1 .len (.fn 77 (.var 0) (.var 1) .nil))), true), ((.c1 (.kin [.u8]) (.var 3)), true)]
 (.split (.c2 .lt (.var 2) (.c1 .len (.fn 77 (.var 0) (.var 1) .nil)))
 (.chk (.c2 .le (.c2 .add (.var 2) (.num 1)) (.c1 .len (.var 3)))
 (.back 0 2 [(.wr .i64 (.c2 .add (.var 2) (.num 1))), (.set (.var 3) (.var 2) (.bits .xor .u8 (.c2 .rd (.var 3) (.var 2)) (.num 90)))]))
 (.ret (.w (.c (.b (.bol true))), ⟨[], [], 5608, 4, []⟩))))))
 (.ret (.w (.c (.b (.bol true))), ⟨[], [], 5606, 2, []⟩)))
theorem treeWlPops_is : funTree (ctxN Go.Proofs.Tryz.prog annsWr consWl 8) annsWr 24 tWPops.vs tWPops.bs tWPops.n (preF tWPops.res) = treeWlPops := by kernel_rfl
end Go.Proofs.YtfhjlimdakphcaaGreat.Sx
set_option maxRecDepth 100000
namespace Go.Proofs.YtfhjlimdakphcaaGreat.Sx
open Go
def xWlPushes0 : T := (.cons (.var 1) (.cons (.var 2) (.cons (.var 3) (.cons (.var 4) (.cons (.var 5) (.cons (.var 6) (.cons (.var 7) (.cons (.var 8) (.cons (.var 9) (.cons (.var 10) (.cons (.var 11) (.cons (.var 12) (.cons (.var 13) (.cons (.var 14) (.cons (.var 15) (.cons (.var 16) (.cons (.var 17) (.cons (.var 18) (.cons (.var 19) (.cons (.var 20) (.cons (.var 21) (.cons (.var 22) (.cons (.var 23) (.cons (.var 24) (.cons (.var 25) (.cons (.var 26) (.cons (.var 27) (.cons (.var 28) (.cons (.var 29) (.cons (.var 30) (.cons (.var 31) (.cons (.var 32) (.cons (.var 33) (.cons (.var 34) (.cons (.var 35) (.cons (.var 36) (.cons (.var 37) (.cons (.var 38) (.cons (.var 39) (.cons (.var 40) (.cons (.var 41) (.cons (.var 42) (.cons (.var 43) (.cons (.var 44) (.cons (.var 45) (.cons (.var 46) (.cons (.var 47) (.cons (.var 48) (.cons (.var 49) (.cons (.var 50) (.cons (.var 51) (.cons (.var 52) (.cons (.var 53) (.cons (.var 54) (.cons (.var 55) (.cons (.var 56) (.cons (.var 57) (.cons (.var 58) (.cons (.var 59) (.cons (.var 60) (.cons (.var 61) (.cons (.var 62) (.cons (.var 63) (.cons (.var 64) (.cons (.var 65) (.cons (.var 66) (.cons (.var 67) (.cons (.var 68) (.cons (.var 69) (.cons (.var 70) (.cons (.var 71) (.cons (.var 72) (.cons (.var 73) .nil)))))))))))))))))))))))))))))))))))))))))))))))))))))))))))))))))))))))))
def treeWlPushes : M (V × St) :=
(.split (.c2 .eq (.fn 70 xWlPushes0 (.var 0) .nil) (.num 0))
 (.chk (.c1 (.kin [.u8]) (.fn 71 xWlPushes0 (.var 0) .nil))
 (.chk (.c2 .le (.c1 .len (.fn 71 xWlPushes0 (.var 0) .nil)) (.num 2048))
 (.loop 0 74 2 [(.num 0), (.fn 71 xWlPushes0 (.var 0) .nil)] [((.c2 .le (.num 0) (.var 74)), true), ((.c2 .eq (.c1 .len (.var 75)) (.c1 .len (.fn 71 xWlPushes0 (.var 0) .nil))), true), ((.c1 (.kin [.u8]) (.var 75)), true)]
 (.split (.c2 .lt (.var 74) (.c1 .len (.fn 71 xWlPushes0 (.var 0) .nil)))
 (.chk (.c2 .le (.c2 .add (.var 74) (.num 1)) (.c1 .len (.var 75)))
 (.back 0 74 [(.wr .i64 (.c2 .add (.var 74) (.num 1))), (.set (.var 75) (.var 74) (.bits .xor .u8 (.c2 .rd (.var 75) (.var 74)) (.num 90)))]))
 (.ret (.w (.c (.b (.bol true))), ⟨[], [], 6509, 76, []⟩))))))
 (.ret (.w (.c (.b (.bol true))), ⟨[], [], 6505, 74, []⟩)))
theorem treeWlPushes_is : funTree (ctxN Go.Proofs.Tryz.prog annsWr consWl 8) annsWr 23 tWPush.vs tWPush.bs tWPush.n (preF tWPush.res) = treeWlPushes := by kernel_rfl
end Go.Proofs.YtfhjlimdakphcaaGreat.Sx
set_option linter.unusedVariables false
set_option linter.unusedSimpArgs false
namespace Go.Proofs.YtfhjlimdakphcaaGreat.Sx
open Go
theorem rest_bytes {p : List Int} {k : Int} (h : Bytes p) : Bytes (popRest p k) := bytes_drop h _
set_option maxRecDepth 100000 in
theorem wlPops_ok : TmplOk Go.Proofs.Tryz.prog ΦW 24 tWPops := by
 refine tmpl_of consWl_ok treeWlPops_is (fun ρ res hres => ⟨turnJ ΦW (.fn 77 (.var 0) (.var 1) .nil), ?_⟩)
 obtain ⟨h0, hres⟩ := short_some hres
 obtain ⟨hb, hres⟩ := bytes_some hres
 obtain ⟨hlo, hhi, hres⟩ := inR_some hres
 obtain rfl := ret_some hres
 have hR : (T.den ΦW ρ (.fn 77 (.var 0) (.var 1) .nil)).list = popRest (ρ 0).list (ρ 1).int := rfl
 have hl : (popRest (ρ 0).list (ρ 1).int).length ≤ (ρ 0).list.length := by rw [popRest, List.length_drop]; omega
 refine ⟨fun c => ⟨?_, ?_, ?_⟩, fun c => leaf_true rfl (by decide)⟩
 · rw [bytes_t, hR]; exact rest_bytes hb
 · rw [le_t, int_len, int_len, hR, den_var]; omega
 · exact turn_ok (b := 2) (R := .fn 77 (.var 0) (.var 1) .nil) rfl (by rw [hR]; exact rest_bytes hb) (by rw [hR]; exact Nat.le_trans hl h0) (fun B' ds => leaf_true rfl (by decide))
set_option maxRecDepth 100000 in
theorem wlPushes_ok : TmplOk Go.Proofs.Tryz.prog ΦW 23 tWPush := by
 refine tmpl_of consWl_ok treeWlPushes_is (fun ρ res hres => ⟨turnJ ΦW (.fn 71 (varsT 1 73) (.var 0) .nil), ?_⟩)
 obtain ⟨h0, hres⟩ := short_some hres
 obtain ⟨hb, hres⟩ := bytes_some hres
 obtain ⟨hk, hres⟩ := inKs_some hres
 obtain rfl := ret_some hres
 have hR : (T.den ΦW ρ (.fn 71 (varsT 1 73) (.var 0) .nil)).list = pushRow (T.den ΦW ρ (varsT 1 73)).list (ρ 0).list := rfl
 have hE : (T.den ΦW ρ (.fn 70 (varsT 1 73) (.var 0) .nil)).int = pushErr (T.den ΦW ρ (varsT 1 73)).list (ρ 0).list := rfl
 have hH : GoodInts kHead (T.den ΦW ρ (varsT 1 73)).list := by
   refine ⟨(vars_len ΦW ρ _ _).symm, fun i k z h1 h2 => ?_⟩
   have hi : i < 73 := (List.getElem?_eq_some_iff.1 h1).1
   rw [vars_nth ΦW ρ _ 1 i hi] at h2
   injection h2 with h2
   subst h2
   exact hk i k h1
 refine ⟨fun c => ?_, fun c => leaf_true rfl (by decide)⟩
 replace c := (eq_t ΦW ρ (.fn 70 (varsT 1 73) (.var 0) .nil) (.num 0)).mp c
 rw [hE] at c
 obtain ⟨k, hp⟩ := pushed hH hb c
 refine ⟨?_, ?_, ?_⟩
 · exact (bytes_t ΦW ρ (.fn 71 (varsT 1 73) (.var 0) .nil)).mpr hp.bytes
 · refine (le_t ΦW ρ (.c1 .len (.fn 71 (varsT 1 73) (.var 0) .nil)) (.num 2048)).mpr ?_
   rw [int_len, hR]; show _ ≤ (2048 : Int); have := hp.short; omega
 · exact turn_ok (b := 74) (R := .fn 71 (varsT 1 73) (.var 0) .nil) rfl (by rw [hR]; exact hp.bytes) (by rw [hR]; have := hp.short; omega) (fun B' ds => leaf_true rfl (by decide))
end Go.Proofs.YtfhjlimdakphcaaGreat.Sx
set_option maxRecDepth 100000
namespace Go.Proofs.YtfhjlimdakphcaaGreat.Sx
open Go
def xWlBack1 : T := (.cons (.wr .u8 (.c2 .rd (.fn 76 (.var 0) (.var 74) .nil) (.num 0))) (.cons (.wr .u8 (.c2 .rd (.fn 76 (.var 0) (.var 74) .nil) (.num 1))) (.cons (.wr .u8 (.c2 .rd (.fn 76 (.var 0) (.var 74) .nil) (.num 2))) (.cons (.wr .u8 (.c2 .rd (.fn 76 (.var 0) (.var 74) .nil) (.num 3))) (.cons (.wr .u8 (.c2 .rd (.fn 76 (.var 0) (.var 74) .nil) (.num 4))) (.cons (.wr .u8 (.c2 .rd (.fn 76 (.var 0) (.var 74) .nil) (.num 5))) (.cons (.wr .u8 (.c2 .rd (.fn 76 (.var 0) (.var 74) .nil) (.num 6))) (.cons (.wr .u8 (.c2 .rd (.fn 76 (.var 0) (.var 74) .nil) (.num 7))) (.cons (.wr .u8 (.c2 .rd (.fn 76 (.var 0) (.var 74) .nil) (.num 8))) (.cons (.wr .u8 (.c2 .rd (.fn 76 (.var 0) (.var 74) .nil) (.num 9))) (.cons (.wr .u8 (.c2 .rd (.fn 76 (.var 0) (.var 74) .nil) (.num 10))) (.cons (.wr .u8 (.c2 .rd (.fn 76 (.var 0) (.var 74) .nil) (.num 11))) (.cons (.wr .u8 (.c2 .rd (.fn 76 (.var 0) (.var 74) .nil) (.num 12))) (.cons (.wr .u16 (.c2 .rd (.fn 76 (.var 0) (.var 74) .nil) (.num 13))) (.cons (.wr .u8 (.c2 .rd (.fn 76 (.var 0) (.var 74) .nil) (.num 14))) (.cons (.wr .u16 (.c2 .rd (.fn 76 (.var 0) (.var 74) .nil) (.num 15))) (.cons (.wr .u16 (.c2 .rd (.fn 76 (.var 0) (.var 74) .nil) (.num 16))) (.cons (.wr .u8 (.c2 .rd (.fn 76 (.var 0) (.var 74) .nil) (.num 17))) (.cons (.wr .u8 (.c2 .rd (.fn 76 (.var 0) (.var 74) .nil) (.num 18))) (.cons (.wr .u8 (.c2 .rd (.fn 76 (.var 0) (.var 74) .nil) (.num 19))) (.cons (.wr .u16 (.c2 .rd (.fn 76 (.var 0) (.var 74) .nil) (.num 20))) (.cons (.wr .u8 (.c2 .rd (.fn 76 (.var 0) (.var 74) .nil) (.num 21))) (.cons (.wr .u8 (.c2 .rd (.fn 76 (.var 0) (.var 74) .nil) (.num 22))) (.cons (.wr .u8 (.c2 .rd (.fn 76 (.var 0) (.var 74) .nil) (.num 23))) (.cons (.wr .u8 (.c2 .rd (.fn 76 (.var 0) (.var 74) .nil) (.num 24))) (.cons (.wr .u8 (.c2 .rd (.fn 76 (.var 0) (.var 74) .nil) (.num 25))) (.cons (.wr .u8 (.c2 .rd (.fn 76 (.var 0) (.var 74) .nil) (.num 26))) (.cons (.wr .u8 (.c2 .rd (.fn 76 (.var 0) (.var 74) .nil) (.num 27))) (.cons (.wr .u8 (.c2 .rd (.fn 76 (.var 0) (.var 74) .nil) (.num 28))) (.cons (.wr .u8 (.c2 .rd (.fn 76 (.var 0) (.var 74) .nil) (.num 29))) (.cons (.wr .u32 (.c2 .rd (.fn 76 (.var 0) (.var 74) .nil) (.num 30))) (.cons (.wr .u8 (.c2 .rd (.fn 76 (.var 0) (.var 74) .nil) (.num 31))) (.cons (.wr .u8 (.c2 .rd (.fn 76 (.var 0) (.var 74) .nil) (.num 32))) (.cons (.wr .u8 (.c2 .rd (.fn 76 (.var 0) (.var 74) .nil) (.num 33))) (.cons (.wr .u8 (.c2 .rd (.fn 76 (.var 0) (.var 74) .nil) (.num 34))) (.cons (.wr .u8 (.c2 .rd (.fn 76 (.var 0) (.var 74) .nil) (.num 35))) (.cons (.wr .u8 (.c2 .rd (.fn 76 (.var 0) (.var 74) .nil) (.num 36))) (.cons (.wr .u8 (.c2 .rd (.fn 76 (.var 0) (.var 74) .nil) (.num 37))) (.cons (.wr .u8 (.c2 .rd (.fn 76 (.var 0) (.var 74) .nil) (.num 38))) (.cons (.wr .u8 (.c2 .rd (.fn 76 (.var 0) (.var 74) .nil) (.num 39))) (.cons (.wr .u8 (.c2 .rd (.fn 76 (.var 0) (.var 74) .nil) (.num 40))) (.cons (.wr .u8 (.c2 .rd (.fn 76 (.var 0) (.var 74) .nil) (.num 41))) (.cons (.wr .u8 (.c2 .rd (.fn 76 (.var 0) (.var 74) .nil) (.num 42))) (.cons (.wr .u8 (.c2 .rd (.fn 76 (.var 0) (.var 74) .nil) (.num 43))) (.cons (.wr .u8 (.c2 .rd (.fn 76 (.var 0) (.var 74) .nil) (.num 44))) (.cons (.wr .u8 (.c2 .rd (.fn 76 (.var 0) (.var 74) .nil) (.num 45))) (.cons (.wr .u8 (.c2 .rd (.fn 76 (.var 0) (.var 74) .nil) (.num 46))) (.cons (.wr .u8 (.c2 .rd (.fn 76 (.var 0) (.var 74) .nil) (.num 47))) (.cons (.wr .u8 (.c2 .rd (.fn 76 (.var 0) (.var 74) .nil) (.num 48))) (.cons (.wr .u8 (.c2 .rd (.fn 76 (.var 0) (.var 74) .nil) (.num 49))) (.cons (.wr .u8 (.c2 .rd (.fn 76 (.var 0) (.var 74) .nil) (.num 50))) (.cons (.wr .u8 (.c2 .rd (.fn 76 (.var 0) (.var 74) .nil) (.num 51))) (.cons (.wr .u8 (.c2 .rd (.fn 76 (.var 0) (.var 74) .nil) (.num 52))) (.cons (.wr .u8 (.c2 .rd (.fn 76 (.var 0) (.var 74) .nil) (.num 53))) (.cons (.wr .u8 (.c2 .rd (.fn 76 (.var 0) (.var 74) .nil) (.num 54))) (.cons (.wr .u8 (.c2 .rd (.fn 76 (.var 0) (.var 74) .nil) (.num 55))) (.cons (.wr .u8 (.c2 .rd (.fn 76 (.var 0) (.var 74) .nil) (.num 56))) (.cons (.wr .u8 (.c2 .rd (.fn 76 (.var 0) (.var 74) .nil) (.num 57))) (.cons (.wr .u8 (.c2 .rd (.fn 76 (.var 0) (.var 74) .nil) (.num 58))) (.cons (.wr .u8 (.c2 .rd (.fn 76 (.var 0) (.var 74) .nil) (.num 59))) (.cons (.wr .u8 (.c2 .rd (.fn 76 (.var 0) (.var 74) .nil) (.num 60))) (.cons (.wr .u8 (.c2 .rd (.fn 76 (.var 0) (.var 74) .nil) (.num 61))) (.cons (.wr .u8 (.c2 .rd (.fn 76 (.var 0) (.var 74) .nil) (.num 62))) (.cons (.wr .u8 (.c2 .rd (.fn 76 (.var 0) (.var 74) .nil) (.num 63))) (.cons (.wr .u8 (.c2 .rd (.fn 76 (.var 0) (.var 74) .nil) (.num 64))) (.cons (.wr .u16 (.c2 .rd (.fn 76 (.var 0) (.var 74) .nil) (.num 65))) (.cons (.wr .u16 (.c2 .rd (.fn 76 (.var 0) (.var 74) .nil) (.num 66))) (.cons (.wr .u32 (.c2 .rd (.fn 76 (.var 0) (.var 74) .nil) (.num 67))) (.cons (.wr .u32 (.c2 .rd (.fn 76 (.var 0) (.var 74) .nil) (.num 68))) (.cons (.wr .u8 (.c2 .rd (.fn 76 (.var 0) (.var 74) .nil) (.num 69))) (.cons (.wr .u16 (.c2 .rd (.fn 76 (.var 0) (.var 74) .nil) (.num 70))) (.cons (.wr .u16 (.c2 .rd (.fn 76 (.var 0) (.var 74) .nil) (.num 71))) (.cons (.wr .u16 (.c2 .rd (.fn 76 (.var 0) (.var 74) .nil) (.num 72))) .nil)))))))))))))))))))))))))))))))))))))))))))))))))))))))))))))))))))))))))
def treeWlBack : M (V × St) :=
(.chk (.c2 .le (.num 0) (.var 1))
(.chk (.c2 .le (.var 1) (.num 255))
(.chk (.c1 (.kin [.u8, .u8, .u8, .u8, .u8, .u8, .u8, .u8, .u8, .u8, .u8, .u8, .u8, .u16, .u8, .u16, .u16, .u8, .u8, .u8, .u16, .u8, .u8, .u8, .u8, .u8, .u8, .u8, .u8, .u8, .u32, .u8, .u8, .u8, .u8, .u8, .u8, .u8, .u8, .u8, .u8, .u8, .u8, .u8, .u8, .u8, .u8, .u8, .u8, .u8, .u8, .u8, .u8, .u8, .u8, .u8, .u8, .u8, .u8, .u8, .u8, .u8, .u8, .u8, .u8, .u16, .u16, .u32, .u32, .u8, .u16, .u16, .u16]) xWlPushes0)
(.split (.c2 .eq (.fn 70 xWlPushes0 (.var 0) .nil) (.num 0))
 (.chk (.c1 (.kin [.u8]) (.fn 71 xWlPushes0 (.var 0) .nil))
 (.chk (.c2 .le (.c1 .len (.fn 71 xWlPushes0 (.var 0) .nil)) (.num 2048))
 (.split (.c2 .eq (.fn 75 (.fn 71 xWlPushes0 (.var 0) .nil) (.var 1) .nil) (.num 0))
 (.chk (.c1 (.kin [.u8]) (.fn 77 (.fn 71 xWlPushes0 (.var 0) .nil) (.var 1) .nil))
 (.chk (.c2 .le (.c1 .len (.fn 77 (.fn 71 xWlPushes0 (.var 0) .nil) (.var 1) .nil)) (.c1 .len (.fn 71 xWlPushes0 (.var 0) .nil)))
 (.split (.c1 .not (.c2 .and (.c2 .eq (.wr .u8 (.c2 .rd (.fn 76 (.fn 71 xWlPushes0 (.var 0) .nil) (.var 1) .nil) (.num 0))) (.var 1)) (.c2 .and (.c2 .eq (.wr .u8 (.c2 .rd (.fn 76 (.fn 71 xWlPushes0 (.var 0) .nil) (.var 1) .nil) (.num 1))) (.var 2)) (.c2 .and (.c2 .eq (.wr .u8 (.c2 .rd (.fn 76 (.fn 71 xWlPushes0 (.var 0) .nil) (.var 1) .nil) (.num 2))) (.var 3)) (.c2 .and (.c2 .eq (.wr .u8 (.c2 .rd (.fn 76 (.fn 71 xWlPushes0 (.var 0) .nil) (.var 1) .nil) (.num 3))) (.var 4)) (.c2 .and (.c2 .eq (.wr .u8 (.c2 .rd (.fn 76 (.fn 71 xWlPushes0 (.var 0) .nil) (.var 1) .nil) (.num 4))) (.var 5)) (.c2 .and (.c2 .eq (.wr .u8 (.c2 .rd (.fn 76 (.fn 71 xWlPushes0 (.var 0) .nil) (.var 1) .nil) (.num 5))) (.var 6)) (.c2 .and (.c2 .eq (.wr .u8 (.c2 .rd (.fn 76 (.fn 71 xWlPushes0 (.var 0) .nil) (.var 1) .nil) (.num 6))) (.var 7)) (.c2 .and (.c2 .eq (.wr .u8 (.c2 .rd (.fn 76 (.fn 71 xWlPushes0 (.var 0) .nil) (.var 1) .nil) (.num 7))) (.var 8)) (.c2 .and (.c2 .eq (.wr .u8 (.c2 .rd (.fn 76 (.fn 71 xWlPushes0 (.var 0) .nil) (.var 1) .nil) (.num 8))) (.var 9)) (.c2 .and (.c2 .eq (.wr .u8 (.c2 .rd (.fn 76 (.fn 71 xWlPushes0 (.var 0) .nil) (.var 1) .nil) (.num 9))) (.var 10)) (.c2 .and (.c2 .eq (.wr .u8 (.c2 .rd (.fn 76 (.fn 71 xWlPushes0 (.var 0) .nil) (.var 1) .nil) (.num 10))) (.var 11)) (.c2 .and (.c2 .eq (.wr .u8 (.c2 .rd (.fn 76 (.fn 71 xWlPushes0 (.var 0) .nil) (.var 1) .nil) (.num 11))) (.var 12)) (.c2 .and (.c2 .eq (.wr .u8 (.c2 .rd (.fn 76 (.fn 71 xWlPushes0 (.var 0) .nil) (.var 1) .nil) (.num 12))) (.var 13)) (.c2 .and (.c2 .eq (.wr .u16 (.c2 .rd (.fn 76 (.fn 71 xWlPushes0 (.var 0) .nil) (.var 1) .nil) (.num 13))) (.var 14)) (.c2 .and (.c2 .eq (.wr .u8 (.c2 .rd (.fn 76 (.fn 71 xWlPushes0 (.var 0) .nil) (.var 1) .nil) (.num 14))) (.var 15)) (.c2 .and (.c2 .eq (.wr .u16 (.c2 .rd (.fn 76 (.fn 71 xWlPushes0 (.var 0) .nil) (.var 1) .nil) (.num 15))) (.var 16)) (.c2 .and (.c2 .eq (.wr .u16 (.c2 .rd (.fn 76 (.fn 71 xWlPushes0 (.var 0) .nil) (.var 1) .nil) (.num 16))) (.var 17)) (.c2 .and (.c2 .eq (.wr .u8 (.c2 .rd (.fn 76 (.fn 71 xWlPushes0 (.var 0) .nil) (.var 1) .nil) (.num 17))) (.var 18)) (.c2 .and (.c2 .eq (.wr .u8 (.c2 .rd (.fn 76 (.fn 71 xWlPushes0 (.var 0) .nil) (.var 1) .nil) (.num 18))) (.var 19)) (.c2 .and (.c2 .eq (.wr .u8 (.c2 .rd (.fn 76 (.fn 71 xWlPushes0 (.var 0) .nil) (.var 1) .nil) (.num 19))) (.var 20)) (.c2 .and (.c2 .eq (.wr .u16 (.c2 .rd (.fn 76 (.fn 71 xWlPushes0 (.var 0) .nil) (.var 1) .nil) (.num 20))) (.var 21)) (.c2 .and (.c2 .eq (.wr .u8 (.c2 .rd (.fn 76 (.fn 71 xWlPushes0 (.var 0) .nil) (.var 1) .nil) (.num 21))) (.var 22)) (.c2 .and (.c2 .eq (.wr .u8 (.c2 .rd (.fn 76 (.fn 71 xWlPushes0 (.var 0) .nil) (.var 1) .nil) (.num 22))) (.var 23)) (.c2 .and (.c2 .eq (.wr .u8 (.c2 .rd (.fn 76 (.fn 71 xWlPushes0 (.var 0) .nil) (.var 1) .nil) (.num 23))) (.var 24)) (.c2 .and (.c2 .eq (.wr .u8 (.c2 .rd (.fn 76 (.fn 71 xWlPushes0 (.var 0) .nil) (.var 1) .nil) (.num 24))) (.var 25)) (.c2 .and (.c2 .eq (.wr .u8 (.c2 .rd (.fn 76 (.fn 71 xWlPushes0 (.var 0) .nil) (.var 1) .nil) (.num 25))) (.var 26)) (.c2 .and (.c2 .eq (.wr .u8 (.c2 .rd (.fn 76 (.fn 71 xWlPushes0 (.var 0) .nil) (.var 1) .nil) (.num 26))) (.var 27)) (.c2 .and (.c2 .eq (.wr .u8 (.c2 .rd (.fn 76 (.fn 71 xWlPushes0 (.var 0) .nil) (.var 1) .nil) (.num 27))) (.var 28)) (.c2 .and (.c2 .eq (.wr .u8 (.c2 .rd (.fn 76 (.fn 71 xWlPushes0 (.var 0) .nil) (.var 1) .nil) (.num 28))) (.var 29)) (.c2 .and (.c2 .eq (.wr .u8 (.c2 .rd (.fn 76 (.fn 71 xWlPushes0 (.var 0) .nil) (.var 1) .nil) (.num 29))) (.var 30)) (.c2 .and (.c2 .eq (.wr .u32 (.c2 .rd (.fn 76 (.fn 71 xWlPushes0 (.var 0) .nil) (.var 1) .nil) (.num 30))) (.var 31)) (.c2 .and (.c2 .eq (.wr .u8 (.c2 .rd (.fn 76 (.fn 71 xWlPushes0 (.var 0) .nil) (.var 1) .nil) (.num 31))) (.var 32)) (.c2 .and (.c2 .eq (.wr .u8 (.c2 .rd (.fn 76 (.fn 71 xWlPushes0 (.var 0) .nil) (.var 1) .nil) (.num 32))) (.var 33)) (.c2 .and (.c2 .eq (.wr .u8 (.c2 .rd (.fn 76 (.fn 71 xWlPushes0 (.var 0) .nil) (.var 1) .nil) (.num 33))) (.var 34)) (.c2 .and (.c2 .eq (.wr .u8 (.c2 .rd (.fn 76 (.fn 71 xWlPushes0 (.var 0) .nil) (.var 1) .nil) (.num 34))) (.var 35)) (.c2 .and (.c2 .eq (.wr .u8 (.c2 .rd (.fn 76 (.fn 71 xWlPushes0 (.var 0) .nil) (.var 1) .nil) (.num 35))) (.var 36)) (.c2 .and (.c2 .eq (.wr .u8 (.c2 .rd (.fn 76 (.fn 71 xWlPushes0 (.var 0) .nil) (.var 1) .nil) (.num 36))) (.var 37)) (.c2 .and (.c2 .eq (.wr .u8 (.c2 .rd (.fn 76 (.fn 71 xWlPushes0 (.var 0) .nil) (.var 1) .nil) (.num 37))) (.var 38)) (.c2 .and (.c2 .eq (.wr .u8 (.c2 .rd (.fn 76 (.fn 71 xWlPushes0 (.var 0) .nil) (.var 1) .nil) (.num 38))) (.var 39)) (.c2 .and (.c2 .eq (.wr .u8 (.c2 .rd (.fn 76 (.fn 71 xWlPushes0 (.var 0) .nil) (.var 1) .nil) (.num 39))) (.var 40)) (.c2 .and (.c2 .eq (.wr .u8 (.c2 .rd (.fn 76 (.fn 71 xWlPushes0 (.var 0) .nil) (.var 1) .nil) (.num 40))) (.var 41)) (.c2 .and (.c2 .eq (.wr .u8 (.c2 .rd (.fn 76 (.fn 71 xWlPushes0 (.var 0) .nil) (.var 1) .nil) (.num 41))) (.var 42)) (.c2 .and (.c2 .eq (.wr .u8 (.c2 .rd (.fn 76 (.fn 71 xWlPushes0 (.var 0) .nil) (.var 1) .nil) (.num 42))) (.var 43)) (.c2 .and (.c2 .eq (.wr .u8 (.c2 .rd (.fn 76 (.fn 71 xWlPushes0 (.var 0) .nil) (.var 1) .nil) (.num 43))) (.var 44)) (.c2 .and (.c2 .eq (.wr .u8 (.c2 .rd (.fn 76 (.fn 71 xWlPushes0 (.var 0) .nil) (.var 1) .nil) (.num 44))) (.var 45)) (.c2 .and (.c2 .eq (.wr .u8 (.c2 .rd (.fn 76 (.fn 71 xWlPushes0 (.var 0) .nil) (.var 1) .nil) (.num 45))) (.var 46)) (.c2 .and (.c2 .eq (.wr .u8 (.c2 .rd (.fn 76 (.fn 71 xWlPushes0 (.var 0) .nil) (.var 1) .nil) (.num 46))) (.var 47)) (.c2 .and (.c2 .eq (.wr .u8 (.c2 .rd (.fn 76 (.fn 71 xWlPushes0 (.var 0) .nil) (.var 1) .nil) (.num 47))) (.var 48)) (.c2 .and (.c2 .eq (.wr .u8 (.c2 .rd (.fn 76 (.fn 71 xWlPushes0 (.var 0) .nil) (.var 1) .nil) (.num 48))) (.var 49)) (.c2 .and (.c2 .eq (.wr .u8 (.c2 .rd (.fn 76 (.fn 71 xWlPushes0 (.var 0) .nil) (.var 1) .nil) (.num 49))) (.var 50)) (.c2 .and (.c2 .eq (.wr .u8 (.c2 .rd (.fn 76 (.fn 71 xWlPushes0 (.var 0) .nil) (.var 1) .nil) (.num 50))) (.var 51)) (.c2 .and (.c2 .eq (.wr .u8 (.c2 .rd (.fn 76 (.fn 71 xWlPushes0 (.var 0) .nil) (.var 1) .nil) (.num 51))) (.var 52)) (.c2 .and (.c2 .eq (.wr .u8 (.c2 .rd (.fn 76 (.fn 71 xWlPushes0 (.var 0) .nil) (.var 1) .nil) (.num 52))) (.var 53)) (.c2 .and (.c2 .eq (.wr .u8 (.c2 .rd (.fn 76 (.fn 71 xWlPushes0 (.var 0) .nil) (.var 1) .nil) (.num 53))) (.var 54)) (.c2 .and (.c2 .eq (.wr .u8 (.c2 .rd (.fn 76 (.fn 71 xWlPushes0 (.var 0) .nil) (.var 1) .nil) (.num 54))) (.var 55)) (.c2 .and (.c2 .eq (.wr .u8 (.c2 .rd (.fn 76 (.fn 71 xWlPushes0 (.var 0) .nil) (.var 1) .nil) (.num 55))) (.var 56)) (.c2 .and (.c2 .eq (.wr .u8 (.c2 .rd (.fn 76 (.fn 71 xWlPushes0 (.var 0) .nil) (.var 1) .nil) (.num 56))) (.var 57)) (.c2 .and (.c2 .eq (.wr .u8 (.c2 .rd (.fn 76 (.fn 71 xWlPushes0 (.var 0) .nil) (.var 1) .nil) (.num 57))) (.var 58)) (.c2 .and (.c2 .eq (.wr .u8 (.c2 .rd (.fn 76 (.fn 71 xWlPushes0 (.var 0) .nil) (.var 1) .nil) (.num 58))) (.var 59)) (.c2 .and (.c2 .eq (.wr .u8 (.c2 .rd (.fn 76 (.fn 71 xWlPushes0 (.var 0) .nil) (.var 1) .nil) (.num 59))) (.var 60)) (.c2 .and (.c2 .eq (.wr .u8 (.c2 .rd (.fn 76 (.fn 71 xWlPushes0 (.var 0) .nil) (.var 1) .nil) (.num 60))) (.var 61)) (.c2 .and (.c2 .eq (.wr .u8 (.c2 .rd (.fn 76 (.fn 71 xWlPushes0 (.var 0) .nil) (.var 1) .nil) (.num 61))) (.var 62)) (.c2 .and (.c2 .eq (.wr .u8 (.c2 .rd (.fn 76 (.fn 71 xWlPushes0 (.var 0) .nil) (.var 1) .nil) (.num 62))) (.var 63)) (.c2 .and (.c2 .eq (.wr .u8 (.c2 .rd (.fn 76 (.fn 71 xWlPushes0 (.var 0) .nil) (.var 1) .nil) (.num 63))) (.var 64)) (.c2 .and (.c2 .eq (.wr .u8 (.c2 .rd (.fn 76 (.fn 71 xWlPushes0 (.var 0) .nil) (.var 1) .nil) (.num 64))) (.var 65)) (.c2 .and (.c2 .eq (.wr .u16 (.c2 .rd (.fn 76 (.fn 71 xWlPushes0 (.var 0) .nil) (.var 1) .nil) (.num 65))) (.var 66)) (.c2 .and (.c2 .eq (.wr .u16 (.c2 .rd (.fn 76 (.fn 71 xWlPushes0 (.var 0) .nil) (.var 1) .nil) (.num 66))) (.var 67)) (.c2 .and (.c2 .eq (.wr .u32 (.c2 .rd (.fn 76 (.fn 71 xWlPushes0 (.var 0) .nil) (.var 1) .nil) (.num 67))) (.var 68)) (.c2 .and (.c2 .eq (.wr .u32 (.c2 .rd (.fn 76 (.fn 71 xWlPushes0 (.var 0) .nil) (.var 1) .nil) (.num 68))) (.var 69)) (.c2 .and (.c2 .eq (.wr .u8 (.c2 .rd (.fn 76 (.fn 71 xWlPushes0 (.var 0) .nil) (.var 1) .nil) (.num 69))) (.var 70)) (.c2 .and (.c2 .eq (.wr .u16 (.c2 .rd (.fn 76 (.fn 71 xWlPushes0 (.var 0) .nil) (.var 1) .nil) (.num 70))) (.var 71)) (.c2 .and (.c2 .eq (.wr .u16 (.c2 .rd (.fn 76 (.fn 71 xWlPushes0 (.var 0) .nil) (.var 1) .nil) (.num 71))) (.var 72)) (.c2 .eq (.wr .u16 (.c2 .rd (.fn 76 (.fn 71 xWlPushes0 (.var 0) .nil) (.var 1) .nil) (.num 72))) (.var 73)))))))))))))))))))))))))))))))))))))))))))))))))))))))))))))))))))))))))))
 (.ret (.w (.c (.b (.bol false))), ⟨[], [], 5703, 75, []⟩))
 (.split (.c1 .not (.c2 .leq (.fn 77 (.fn 71 xWlPushes0 (.var 0) .nil) (.var 1) .nil) (.var 0)))
 (.ret (.w (.c (.b (.bol false))), ⟨[], [], 5705, 75, []⟩))
 (.split (.c1 .not (.c2 .eq (.fn 74 (.var 1) .nil .nil) (.num 0)))
 (.ret (.w (.c (.b (.bol false))), ⟨[], [], 5705, 75, []⟩))
 (.split (.c1 .not (.c2 .eq (.c1 .len (.fn 71 xWlPushes0 (.var 0) .nil)) (.wr .i64 (.c2 .add (.fn 73 (.var 1) .nil .nil) (.c1 .len (.var 0))))))
 (.ret (.w (.c (.b (.bol false))), ⟨[], [], 5705, 75, []⟩))
 (.chk (.c2 .le (.num 0) (.var 74))
 (.chk (.c2 .le (.var 74) (.num 255))
 (.split (.c2 .eq (.fn 75 (.var 0) (.var 74) .nil) (.num 0))
 (.chk (.c1 (.kin [.u8]) (.fn 77 (.var 0) (.var 74) .nil))
 (.chk (.c2 .le (.c1 .len (.fn 77 (.var 0) (.var 74) .nil)) (.c1 .len (.var 0)))
 (.split (.c2 .lt (.num 2048) (.c1 .len (.var 0)))
 (.ret (.w (.c (.b (.bol true))), ⟨[], [], 6006, 75, []⟩))
 (.split (.c2 .eq (.fn 70 xWlBack1 (.fn 77 (.var 0) (.var 74) .nil) .nil) (.num 0))
 (.chk (.c1 (.kin [.u8]) (.fn 71 xWlBack1 (.fn 77 (.var 0) (.var 74) .nil) .nil))
 (.chk (.c2 .le (.c1 .len (.fn 71 xWlBack1 (.fn 77 (.var 0) (.var 74) .nil) .nil)) (.num 2048))
 (.split (.c2 .leq (.fn 71 xWlBack1 (.fn 77 (.var 0) (.var 74) .nil) .nil) (.var 0))
 (.split (.c2 .eq (.wr .u8 (.c2 .rd (.fn 76 (.var 0) (.var 74) .nil) (.num 0))) (.var 74))
 (.ret (.w (.c (.b (.c2 .eq (.fn 72 xWlBack1 .nil .nil) (.num 0)))), ⟨[], [], 6508, 75, []⟩))
 (.ret (.w (.c (.b (.bol false))), ⟨[], [], 6308, 75, []⟩)))
 (.ret (.w (.c (.b (.bol false))), ⟨[], [], 6308, 75, []⟩)))))
 (.ret (.w (.c (.b (.bol false))), ⟨[], [], 6306, 75, []⟩))))))
 (.ret (.w (.c (.b (.bol true))), ⟨[], [], 6006, 75, []⟩)))))))))))
 (.ret (.w (.c (.b (.bol false))), ⟨[], [], 5703, 75, []⟩)))))
 (.chk (.c2 .le (.num 0) (.var 74))
 (.chk (.c2 .le (.var 74) (.num 255))
 (.split (.c2 .eq (.fn 75 (.var 0) (.var 74) .nil) (.num 0))
 (.chk (.c1 (.kin [.u8]) (.fn 77 (.var 0) (.var 74) .nil))
 (.chk (.c2 .le (.c1 .len (.fn 77 (.var 0) (.var 74) .nil)) (.c1 .len (.var 0)))
 (.split (.c2 .lt (.num 2048) (.c1 .len (.var 0)))
 (.ret (.w (.c (.b (.bol true))), ⟨[], [], 5603, 75, []⟩))
 (.split (.c2 .eq (.fn 70 xWlBack1 (.fn 77 (.var 0) (.var 74) .nil) .nil) (.num 0))
 (.chk (.c1 (.kin [.u8]) (.fn 71 xWlBack1 (.fn 77 (.var 0) (.var 74) .nil) .nil))
 (.chk (.c2 .le (.c1 .len (.fn 71 xWlBack1 (.fn 77 (.var 0) (.var 74) .nil) .nil)) (.num 2048))
 (.split (.c2 .leq (.fn 71 xWlBack1 (.fn 77 (.var 0) (.var 74) .nil) .nil) (.var 0))
 (.split (.c2 .eq (.wr .u8 (.c2 .rd (.fn 76 (.var 0) (.var 74) .nil) (.num 0))) (.var 74))
 (.ret (.w (.c (.b (.c2 .eq (.fn 72 xWlBack1 .nil .nil) (.num 0)))), ⟨[], [], 6105, 75, []⟩))
 (.ret (.w (.c (.b (.bol false))), ⟨[], [], 5905, 75, []⟩)))
 (.ret (.w (.c (.b (.bol false))), ⟨[], [], 5905, 75, []⟩)))))
 (.ret (.w (.c (.b (.bol false))), ⟨[], [], 5903, 75, []⟩))))))
 (.ret (.w (.c (.b (.bol true))), ⟨[], [], 5603, 75, []⟩)))))))))
theorem treeWlBack_is : funTree (ctxN Go.Proofs.Tryz.prog annsWr consWl 8) annsWr 25 tWBack.vs tWBack.bs tWBack.n (preF tWBack.res) = treeWlBack := by kernel_rfl
end Go.Proofs.YtfhjlimdakphcaaGreat.Sx
set_option linter.unusedVariables false
set_option linter.unusedSimpArgs false
namespace Go.Proofs.YtfhjlimdakphcaaGreat.Sx
open Go
def rdT (F : T) : Nat → List IntKind → T
 | _, [] => .nil
 | i, k :: ks => .cons (.wr k (.c2 .rd F (.num (.ofNat i)))) (rdT F (i + 1) ks)
def eqsW (F : T) (b : Nat) : Nat → List IntKind → T
 | _, [] => .bol true
 | i, [k] => .c2 .eq (.wr k (.c2 .rd F (.num (.ofNat i)))) (.var (b + i))
 | i, k :: j :: ks => .c2 .and (.c2 .eq (.wr k (.c2 .rd F (.num (.ofNat i)))) (.var (b + i))) (eqsW F b (i + 1) (j :: ks))
section
variable {Φ : Sig} {ρ : Env}
theorem den_rdT {F : T} {r : List Int} (hF : (T.den Φ ρ F).list = r) : ∀ (ks ks0 : List IntKind) (i : Nat), GoodInts (ks0 ++ ks) r → ks0.length = i → (T.den Φ ρ (rdT F i ks)).list = r.drop i
 | [], ks0, i, hr, hi => by
   have : r.length = i := by have := hr.1; rw [List.append_nil] at this; omega
   rw [List.drop_of_length_le (by omega)]; rfl
 | k :: ks, ks0, i, hr, hi => by
   have hl : r.length = ks0.length + (ks.length + 1) := by have := hr.1; simp at this; omega
   rw [List.drop_eq_getElem_cons (by omega)]
   show k.wrap ((T.den Φ ρ F).list[(Int.ofNat i).toNat]?.getD 0) :: (T.den Φ ρ (rdT F (i + 1) ks)).list = _
   rw [den_rdT hF ks (ks0 ++ [k]) (i + 1) (by simpa using hr) (by simp [hi]), hF]
   have hb := hr.2 i k (r[i]'(by omega)) (by rw [← hi]; simp) (List.getElem?_eq_getElem (by omega))
   congr 1
   show k.wrap (r[i]?.getD 0) = _
   rw [List.getElem?_eq_getElem (by omega)]
   exact wrap_is hb.1 hb.2
theorem eqsW_t {F : T} {r : List Int} {b : Nat} (hF : (T.den Φ ρ F).list = r) : ∀ (ks ks0 : List IntKind) (i : Nat), GoodInts (ks0 ++ ks) r → ks0.length = i → (∀ j, j < ks.length → r[i + j]? = some (ρ (b + (i + j))).int) → (T.den Φ ρ (eqsW F b i ks)).bool = true
 | [], ks0, i, _, _, _ => rfl
 | [k], ks0, i, hr, hi, hv => by
   have h0 := hv 0 (by simp)
   have hb := hr.2 i k _ (by rw [← hi]; simp) h0
   rw [eqsW, eq_t, int_wr, int_rd, hF, den_var]
   show k.wrap (r[i]?.getD 0) = _
   rw [Nat.add_zero] at h0 hb
   rw [h0]
   exact wrap_is hb.1 hb.2
 | k :: j :: ks, ks0, i, hr, hi, hv => by
   have h0 := hv 0 (by simp)
   have hb := hr.2 i k _ (by rw [← hi]; simp) h0
   rw [eqsW, and_t]
   refine ⟨?_, eqsW_t hF (j :: ks) (ks0 ++ [k]) (i + 1) (by simpa using hr) (by simp [hi]) (fun q hq => ?_)⟩
   · rw [eq_t, int_wr, int_rd, hF, den_var]
     show k.wrap (r[i]?.getD 0) = _
     rw [Nat.add_zero] at h0 hb
     rw [h0]
     exact wrap_is hb.1 hb.2
   · have := hv (q + 1) (by simpa using hq)
     rwa [show i + 1 + q = i + (q + 1) from by omega]
end
def backX : T := rdT (.fn 76 (.var 0) (.var 74) .nil) 0 kHead
def backM (n1 n2 n3 : Nat) : M (V × St) :=
 .split (.c2 .eq (.fn 75 (.var 0) (.var 74) .nil) (.num 0))
   (.chk (.c1 (.kin [.u8]) (.fn 77 (.var 0) (.var 74) .nil)) (.chk (.c2 .le (.c1 .len (.fn 77 (.var 0) (.var 74) .nil)) (.c1 .len (.var 0)))
     (.split (.c2 .lt (.num 2048) (.c1 .len (.var 0))) (.ret (.w (.c (.b (.bol true))), ⟨[], [], n1, 75, []⟩))
       (.split (.c2 .eq (.fn 70 backX (.fn 77 (.var 0) (.var 74) .nil) .nil) (.num 0))
         (.chk (.c1 (.kin [.u8]) (.fn 71 backX (.fn 77 (.var 0) (.var 74) .nil) .nil)) (.chk (.c2 .le (.c1 .len (.fn 71 backX (.fn 77 (.var 0) (.var 74) .nil) .nil)) (.num 2048))
           (.split (.c2 .leq (.fn 71 backX (.fn 77 (.var 0) (.var 74) .nil) .nil) (.var 0))
             (.split (.c2 .eq (.wr .u8 (.c2 .rd (.fn 76 (.var 0) (.var 74) .nil) (.num 0))) (.var 74))
               (.ret (.w (.c (.b (.c2 .eq (.fn 72 backX .nil .nil) (.num 0)))), ⟨[], [], n2, 75, []⟩))
               (.ret (.w (.c (.b (.bol false))), ⟨[], [], n3, 75, []⟩)))
             (.ret (.w (.c (.b (.bol false))), ⟨[], [], n3, 75, []⟩)))))
         (.ret (.w (.c (.b (.bol false))), ⟨[], [], n3 - 2, 75, []⟩))))))
   (.ret (.w (.c (.b (.bol true))), ⟨[], [], n1, 75, []⟩))
set_option maxRecDepth 100000 in
theorem backM_ok {ρ : Env} {B : BK} {J : Inv} {n1 n2 n3 : Nat} (hb : Bytes (ρ 0).list) (hlo : 0 ≤ (ρ 74).int) (hn : n1 ≤ 100000 ∧ n2 ≤ 100000) :
   (backM n1 n2 n3).ok ΦW J B ρ (fun _ ρ' r => Leaf ΦW ρ ρ' ⟨.c (.b (.bol true)), [], 100000⟩ r) := by
 obtain ⟨k, hk⟩ := Int.eq_ofNat_of_zero_le hlo
 have hE : (T.den ΦW ρ (.fn 75 (.var 0) (.var 74) .nil)).int = popErr (ρ 0).list k := by rw [← hk]; rfl
 have hR : (T.den ΦW ρ (.fn 77 (.var 0) (.var 74) .nil)).list = (ρ 0).list.drop (hdSize k) := by
   show popRest (ρ 0).list (ρ 74).int = _; rw [hk]; rfl
 refine ⟨fun c => ?_, fun c => leaf_true rfl hn.1⟩
 rw [eq_t, hE] at c
 have hc : popErr (ρ 0).list k = 0 := c
 rw [popErr] at hc
 split at hc
 case isFalse => cases hc
 rename_i hk6
 rw [Int.toNat_natCast] at hc
 have hk6 : 1 ≤ k ∧ k ≤ 6 := by omega
 refine ⟨by rw [bytes_t, hR]; exact bytes_drop hb _, by rw [le_t, int_len, int_len, hR, den_var, List.length_drop]; omega, fun d => leaf_true rfl hn.1, fun d => ?_⟩
 rw [lt_f, int_len, den_var, den_num] at d
 have hl : (ρ 0).list.length ≤ 2048 := by have d : ((ρ 0).list.length : Int) ≤ 2048 := d; omega
 have hp := popped hk6 hb hl hc
 have hF : (T.den ΦW ρ (.fn 76 (.var 0) (.var 74) .nil)).list = headOf k (rdRow k (ρ 0).list) := by
   show popHead (ρ 0).list (ρ 74).int = _; rw [hk]; rfl
 have hX : (T.den ΦW ρ backX).list = headOf k (rdRow k (ρ 0).list) := by
   have := den_rdT hF kHead [] 0 (head_good hk6 _) rfl
   rw [List.drop_zero] at this; exact this
 have h70 : (T.den ΦW ρ (.fn 70 backX (.fn 77 (.var 0) (.var 74) .nil) .nil)).int = 0 := by
   show pushErr (T.den ΦW ρ backX).list (T.den ΦW ρ (.fn 77 (.var 0) (.var 74) .nil)).list = 0
   rw [hX, hR]; exact hp.1
 have h71 : (T.den ΦW ρ (.fn 71 backX (.fn 77 (.var 0) (.var 74) .nil) .nil)).list = (ρ 0).list := by
   show pushRow (T.den ΦW ρ backX).list (T.den ΦW ρ (.fn 77 (.var 0) (.var 74) .nil)).list = _
   rw [hX, hR]; exact hp.2.1
 refine ⟨fun e => ⟨by rw [bytes_t, h71]; exact hb, by rw [le_t, int_len, h71, den_num]; show ((ρ 0).list.length : Int) ≤ 2048; omega, fun f => ⟨fun q => leaf_true ?_ hn.2, fun q => ?_⟩, fun f => ?_⟩, fun e => ?_⟩
 · rw [eq_t]
   show ckErr (T.den ΦW ρ backX).list = 0
   rw [hX]; exact hp.2.2
 · exfalso
   rw [eq_f, int_wr, int_rd, hF, den_var, hk] at q
   apply q
   show IntKind.u8.wrap (g (headOf k (rdRow k (ρ 0).list)) 0) = _
   rw [head_kind0 hk6, wrap_is (k := .u8) (by simp only [kmin]; omega) (by simp only [kmax]; omega)]
 · exfalso
   rw [leq_f, h71, den_var] at f
   exact f rfl
 · exfalso
   rw [eq_f, h70] at e
   exact e rfl
theorem good_kinW {H : List Int} (h : GoodInts kHead H) : inKinds kHead 0 H = true := by
 rw [inKinds_iff]
 intro j z hj
 have hl : H.length = 73 := h.1.symm
 have hlt : j < 73 := by have := (List.getElem?_eq_some_iff.1 hj).1; omega
 obtain ⟨k, hk⟩ : ∃ k, kHead[j]? = some k := ⟨_, List.getElem?_eq_getElem (show j < kHead.length by rw [kHead_len]; exact hlt)⟩
 have : kAt kHead (0 + j) = k := by rw [Nat.zero_add, kAt, kHead_len, Nat.mod_eq_of_lt hlt, List.getD_eq_getElem?_getD, hk]; rfl
 rw [this]; exact h.2 j k z hk hj
set_option maxRecDepth 100000 in
theorem wlBack_ok : TmplOk Go.Proofs.Tryz.prog ΦW 25 tWBack := by
 refine tmpl_of consWl_ok treeWlBack_is (fun ρ res hres => ⟨eqJ, ?_⟩)
 obtain ⟨h0, hres⟩ := short_some hres
 obtain ⟨hb, hres⟩ := bytes_some hres
 obtain ⟨hk, hres⟩ := inKs_some (hid_some hres)
 obtain ⟨hlo, hhi, hres⟩ := inR_some hres
 obtain rfl := ret_some hres
 have hb : Bytes (ρ 0).list := hb
 have hE : (T.den ΦW ρ (.fn 70 (varsT 1 73) (.var 0) .nil)).int = pushErr (T.den ΦW ρ (varsT 1 73)).list (ρ 0).list := rfl
 have hH : GoodInts kHead (T.den ΦW ρ (varsT 1 73)).list := by
   refine ⟨(vars_len ΦW ρ _ _).symm, fun i k z h1 h2 => ?_⟩
   have hi : i < 73 := (List.getElem?_eq_some_iff.1 h1).1
   rw [vars_nth ΦW ρ _ 1 i hi] at h2
   injection h2 with h2
   subst h2
   exact hk i k h1
 have hc1 : (T.den ΦW ρ (.c2 .le (.num 0) (.var 74))).bool = true := by rw [le_t, den_var, den_num]; exact hlo
 have hc2 : (T.den ΦW ρ (.c2 .le (.var 74) (.num 255))).bool = true := by rw [le_t, den_var, den_num]; exact hhi
 have hv := hk 0 .u8 rfl
 refine ⟨by rw [le_t, den_var, den_num]; exact hv.1, by rw [le_t, den_var, den_num]; exact hv.2, good_kinW hH, fun c => ?_, fun c => ⟨hc1, hc2, backM_ok (n1 := 5603) (n2 := 6105) (n3 := 5905) hb hlo (by decide)⟩⟩
 replace c := (eq_t ΦW ρ (.fn 70 (varsT 1 73) (.var 0) .nil) (.num 0)).mp c
 rw [hE] at c
 obtain ⟨k, hp⟩ := pushed hH hb c
 have hR : (T.den ΦW ρ (.fn 71 (varsT 1 73) (.var 0) .nil)).list = pushRow (T.den ΦW ρ (varsT 1 73)).list (ρ 0).list := rfl
 have v1 : (ρ 1).int = k := by
   have := hp.at0
   rwa [g, vars_nth ΦW ρ 73 1 0 (by decide)] at this
 have h75 : (T.den ΦW ρ (.fn 75 (.fn 71 (varsT 1 73) (.var 0) .nil) (.var 1) .nil)).int = 0 := by
   show popErr (pushRow (T.den ΦW ρ (varsT 1 73)).list (ρ 0).list) (ρ 1).int = 0
   rw [popErr, v1, if_pos (by have := hp.kind; omega), Int.toNat_natCast]; exact hp.err
 have h76 : (T.den ΦW ρ (.fn 76 (.fn 71 (varsT 1 73) (.var 0) .nil) (.var 1) .nil)).list = (T.den ΦW ρ (varsT 1 73)).list := by
   show popHead (pushRow (T.den ΦW ρ (varsT 1 73)).list (ρ 0).list) (ρ 1).int = _
   rw [popHead, v1, Int.toNat_natCast]; exact hp.head
 have h77 : (T.den ΦW ρ (.fn 77 (.fn 71 (varsT 1 73) (.var 0) .nil) (.var 1) .nil)).list = (ρ 0).list := by
   show popRest (pushRow (T.den ΦW ρ (varsT 1 73)).list (ρ 0).list) (ρ 1).int = _
   rw [popRest, v1, Int.toNat_natCast]; exact hp.rest
 refine ⟨(bytes_t ΦW ρ (.fn 71 (varsT 1 73) (.var 0) .nil)).mpr hp.bytes, ?_, fun d => ⟨?_, ?_, fun e => ?_, fun e => ⟨fun f => ?_, fun f => ⟨fun q => ?_, fun q => ⟨fun s => ?_, fun s => ?_⟩⟩⟩⟩, fun d => ?_⟩
 · refine (le_t ΦW ρ (.c1 .len (.fn 71 (varsT 1 73) (.var 0) .nil)) (.num 2048)).mpr ?_
   rw [int_len, hR]; show _ ≤ (2048 : Int); have := hp.short; omega
 · refine (bytes_t ΦW ρ (.fn 77 (.fn 71 (varsT 1 73) (.var 0) .nil) (.var 1) .nil)).mpr ?_
   rw [h77]; exact hb
 · refine (le_t ΦW ρ (.c1 .len (.fn 77 (.fn 71 (varsT 1 73) (.var 0) .nil) (.var 1) .nil)) (.c1 .len (.fn 71 (varsT 1 73) (.var 0) .nil))).mpr ?_
   rw [int_len, int_len, h77, hR, hp.len]; omega
 · exfalso
   replace e := (not_t ΦW ρ (eqsW (.fn 76 (.fn 71 (varsT 1 73) (.var 0) .nil) (.var 1) .nil) 1 0 kHead)).mp e
   rw [eqsW_t h76 kHead [] 0 hH rfl (fun j hj => by rw [Nat.zero_add, vars_nth ΦW ρ 73 1 j hj])] at e
   cases e
 · exfalso
   replace f := (leq_f ΦW ρ (.fn 77 (.fn 71 (varsT 1 73) (.var 0) .nil) (.var 1) .nil) (.var 0)).mp ((not_t ΦW ρ _).mp f)
   exact f h77
 · exfalso
   replace q := (eq_f ΦW ρ (.fn 74 (.var 1) .nil .nil) (.num 0)).mp ((not_t ΦW ρ _).mp q)
   apply q
   show szErr (ρ 1).int = 0
   rw [szErr, v1, if_pos (by have := hp.kind; omega)]
 · exfalso
   replace s := (eq_f ΦW ρ (.c1 .len (.fn 71 (varsT 1 73) (.var 0) .nil)) (.wr .i64 (.c2 .add (.fn 73 (.var 1) .nil .nil) (.c1 .len (.var 0))))).mp ((not_t ΦW ρ _).mp s)
   apply s
   rw [int_len, hR, hp.len, int_wr, int_add, int_len, den_var]
   show _ = IntKind.i64.wrap ((hdSize (ρ 1).int.toNat : Int) + _)
   have := hp.len
   have := hp.short
   rw [v1, Int.toNat_natCast, wrap_is (by simp only [kmin]; omega) (by simp only [kmax]; omega)]; omega
 · refine ⟨hc1, hc2, ?_⟩
   exact backM_ok (n1 := 6006) (n2 := 6508) (n3 := 6308) hb hlo (by decide)
 · exfalso
   replace d := (eq_f ΦW ρ (.fn 75 (.fn 71 (varsT 1 73) (.var 0) .nil) (.var 1) .nil) (.num 0)).mp d
   exact d h75
end Go.Proofs.YtfhjlimdakphcaaGreat.Sx
set_option linter.unusedVariables false
namespace Go.Proofs.YtfhjlimdakphcaaGreat.Sx
open Go
def annsNm : Anns := fun f i S => .unroll 40
def mixCs (ks : List IntKind) : Nat → List Int → List C
 | _, [] => []
 | i, z :: l => (if i % ks.length = 0 then .b (.bol (!(z == 0))) else .i (ks.getD (i % ks.length) .u8) (.num z)) :: mixCs ks (i + 1) l
def tagDo : List Int := 0 :: 0 :: 2 :: List.replicate 72 0
def endDo (k : Int) : List Int := 1 :: k :: List.replicate 73 0
def nmDos : List Int := tagDo ++ (tagDo ++ (tagDo ++ (endDo 2 ++ endDo 255)))
def tPacksN : Tmpl := ⟨[slc 0 0, .w (.g (cellsV 1 k2)), .c (.s 1 75 0 (.num 0) (.num 5))], [(0, rowB 0), (1, ⟨false, .cells (mixCs kDo 0 nmDos)⟩)], 3, short 0 (bytes 0 (inKs 1 k2 (truth 100000)))⟩
def consNm : List (Nat × Con) := (17, tTrue.con) :: (22, tSize.con) :: (21, tCheck.con) :: (23, tWPush.con) :: (24, tWPops.con) :: (25, tWBack.con) ::
 (4, tWStacks.con) :: (3, tPacksN.con) :: []
def tWNames : Tmpl := ⟨[], [], 0, truth 10000000⟩
end Go.Proofs.YtfhjlimdakphcaaGreat.Sx
set_option maxRecDepth 100000
namespace Go.Proofs.YtfhjlimdakphcaaGreat.Sx
open Go
def treeNm : M (V × St) :=
(.split (.c1 .not (.c2 .eq (.fn 72 (.cons (.num 2) (.cons (.num 0) (.cons (.num 0) (.cons (.num 0) (.cons (.num 0) (.cons (.num 0) (.cons (.num 0) (.cons (.num 0) (.cons (.num 0) (.cons (.num 0) (.cons (.num 0) (.cons (.num 0) (.cons (.num 0) (.cons (.num 0) (.cons (.num 8) (.cons (.num 0) (.cons (.num 0) (.cons (.num 0) (.cons (.num 0) (.cons (.num 0) (.cons (.num 0) (.cons (.num 0) (.cons (.num 0) (.cons (.num 0) (.cons (.num 0) (.cons (.num 0) (.cons (.num 0) (.cons (.num 0) (.cons (.num 0) (.cons (.num 0) (.cons (.num 0) (.cons (.num 0) (.cons (.num 0) (.cons (.num 0) (.cons (.num 0) (.cons (.num 0) (.cons (.num 0) (.cons (.num 0) (.cons (.num 0) (.cons (.num 0) (.cons (.num 0) (.cons (.num 0) (.cons (.num 0) (.cons (.num 0) (.cons (.num 0) (.cons (.num 0) (.cons (.num 0) (.cons (.num 0) (.cons (.num 0) (.cons (.num 0) (.cons (.num 0) (.cons (.num 0) (.cons (.num 0) (.cons (.num 0) (.cons (.num 0) (.cons (.num 0) (.cons (.num 0) (.cons (.num 0) (.cons (.num 0) (.cons (.num 0) (.cons (.num 0) (.cons (.num 0) (.cons (.num 0) (.cons (.num 0) (.cons (.num 0) (.cons (.num 0) (.cons (.num 0) (.cons (.num 0) (.cons (.num 0) (.cons (.num 0) (.cons (.num 0) (.cons (.num 0) (.cons (.num 0) .nil))))))))))))))))))))))))))))))))))))))))))))))))))))))))))))))))))))))))) .nil .nil) (.num 60)))
 (.ret (.w (.c (.b (.bol false))), ⟨[], [], 202, 0, []⟩))
 (.split (.c1 .not (.c2 .eq (.fn 72 (.cons (.num 2) (.cons (.num 0) (.cons (.num 0) (.cons (.num 0) (.cons (.num 0) (.cons (.num 0) (.cons (.num 0) (.cons (.num 0) (.cons (.num 0) (.cons (.num 0) (.cons (.num 0) (.cons (.num 0) (.cons (.num 0) (.cons (.num 1) (.cons (.num 0) (.cons (.num 0) (.cons (.num 0) (.cons (.num 0) (.cons (.num 0) (.cons (.num 0) (.cons (.num 0) (.cons (.num 0) (.cons (.num 0) (.cons (.num 0) (.cons (.num 0) (.cons (.num 0) (.cons (.num 0) (.cons (.num 0) (.cons (.num 0) (.cons (.num 0) (.cons (.num 0) (.cons (.num 0) (.cons (.num 0) (.cons (.num 0) (.cons (.num 0) (.cons (.num 0) (.cons (.num 0) (.cons (.num 0) (.cons (.num 0) (.cons (.num 0) (.cons (.num 0) (.cons (.num 0) (.cons (.num 0) (.cons (.num 0) (.cons (.num 0) (.cons (.num 0) (.cons (.num 0) (.cons (.num 0) (.cons (.num 0) (.cons (.num 0) (.cons (.num 0) (.cons (.num 0) (.cons (.num 0) (.cons (.num 0) (.cons (.num 0) (.cons (.num 0) (.cons (.num 0) (.cons (.num 0) (.cons (.num 0) (.cons (.num 0) (.cons (.num 0) (.cons (.num 0) (.cons (.num 0) (.cons (.num 0) (.cons (.num 0) (.cons (.num 0) (.cons (.num 0) (.cons (.num 0) (.cons (.num 0) (.cons (.num 0) (.cons (.num 0) (.cons (.num 0) (.cons (.num 0) .nil))))))))))))))))))))))))))))))))))))))))))))))))))))))))))))))))))))))))) .nil .nil) (.num 120)))
 (.ret (.w (.c (.b (.bol false))), ⟨[], [], 402, 0, []⟩))
 (.chk (.c2 .le (.num 0) (.wr .i64 (.c2 .sub (.num 2048) (.fn 73 (.num 0) .nil .nil))))
 (.chk (.c2 .le (.wr .i64 (.c2 .sub (.num 2048) (.fn 73 (.num 0) .nil .nil))) (.num 140737488355328))
 (.chk (.c2 .le (.wr .i64 (.c2 .sub (.num 2048) (.fn 73 (.num 0) .nil .nil))) (.num 140737488351232))
 (.chk (.c2 .le (.num 0) (.wr .i64 (.c2 .sub (.num 2049) (.fn 73 (.num 0) .nil .nil))))
 (.chk (.c2 .le (.wr .i64 (.c2 .sub (.num 2049) (.fn 73 (.num 0) .nil .nil))) (.num 140737488355328))
 (.chk (.c2 .le (.wr .i64 (.c2 .sub (.num 2049) (.fn 73 (.num 0) .nil .nil))) (.num 140737488351232))
 (.chk (.c2 .le (.num 0) (.wr .i64 (.c2 .sub (.num 2048) (.fn 73 (.num 1) .nil .nil))))
 (.chk (.c2 .le (.wr .i64 (.c2 .sub (.num 2048) (.fn 73 (.num 1) .nil .nil))) (.num 140737488355328))
 (.chk (.c2 .le (.wr .i64 (.c2 .sub (.num 2048) (.fn 73 (.num 1) .nil .nil))) (.num 140737488351232))
 (.chk (.c2 .le (.num 0) (.wr .i64 (.c2 .sub (.num 2049) (.fn 73 (.num 1) .nil .nil))))
 (.chk (.c2 .le (.wr .i64 (.c2 .sub (.num 2049) (.fn 73 (.num 1) .nil .nil))) (.num 140737488355328))
 (.chk (.c2 .le (.wr .i64 (.c2 .sub (.num 2049) (.fn 73 (.num 1) .nil .nil))) (.num 140737488351232))
 (.chk (.c2 .le (.num 0) (.wr .i64 (.c2 .sub (.num 2048) (.fn 73 (.num 2) .nil .nil))))
 (.chk (.c2 .le (.wr .i64 (.c2 .sub (.num 2048) (.fn 73 (.num 2) .nil .nil))) (.num 140737488355328))
 (.chk (.c2 .le (.wr .i64 (.c2 .sub (.num 2048) (.fn 73 (.num 2) .nil .nil))) (.num 140737488351232))
 (.chk (.c2 .le (.num 0) (.wr .i64 (.c2 .sub (.num 2049) (.fn 73 (.num 2) .nil .nil))))
 (.chk (.c2 .le (.wr .i64 (.c2 .sub (.num 2049) (.fn 73 (.num 2) .nil .nil))) (.num 140737488355328))
 (.chk (.c2 .le (.wr .i64 (.c2 .sub (.num 2049) (.fn 73 (.num 2) .nil .nil))) (.num 140737488351232))
 (.chk (.c2 .le (.num 0) (.wr .i64 (.c2 .sub (.num 2048) (.fn 73 (.num 3) .nil .nil))))
 (.chk (.c2 .le (.wr .i64 (.c2 .sub (.num 2048) (.fn 73 (.num 3) .nil .nil))) (.num 140737488355328))
 (.chk (.c2 .le (.wr .i64 (.c2 .sub (.num 2048) (.fn 73 (.num 3) .nil .nil))) (.num 140737488351232))
 (.chk (.c2 .le (.num 0) (.wr .i64 (.c2 .sub (.num 2049) (.fn 73 (.num 3) .nil .nil))))
 (.chk (.c2 .le (.wr .i64 (.c2 .sub (.num 2049) (.fn 73 (.num 3) .nil .nil))) (.num 140737488355328))
 (.chk (.c2 .le (.wr .i64 (.c2 .sub (.num 2049) (.fn 73 (.num 3) .nil .nil))) (.num 140737488351232))
 (.chk (.c2 .le (.num 0) (.wr .i64 (.c2 .sub (.num 2048) (.fn 73 (.num 4) .nil .nil))))
 (.chk (.c2 .le (.wr .i64 (.c2 .sub (.num 2048) (.fn 73 (.num 4) .nil .nil))) (.num 140737488355328))
 (.chk (.c2 .le (.wr .i64 (.c2 .sub (.num 2048) (.fn 73 (.num 4) .nil .nil))) (.num 140737488351232))
 (.chk (.c2 .le (.num 0) (.wr .i64 (.c2 .sub (.num 2049) (.fn 73 (.num 4) .nil .nil))))
 (.chk (.c2 .le (.wr .i64 (.c2 .sub (.num 2049) (.fn 73 (.num 4) .nil .nil))) (.num 140737488355328))
 (.chk (.c2 .le (.wr .i64 (.c2 .sub (.num 2049) (.fn 73 (.num 4) .nil .nil))) (.num 140737488351232))
 (.chk (.c2 .le (.num 0) (.wr .i64 (.c2 .sub (.num 2048) (.fn 73 (.num 5) .nil .nil))))
 (.chk (.c2 .le (.wr .i64 (.c2 .sub (.num 2048) (.fn 73 (.num 5) .nil .nil))) (.num 140737488355328))
 (.chk (.c2 .le (.wr .i64 (.c2 .sub (.num 2048) (.fn 73 (.num 5) .nil .nil))) (.num 140737488351232))
 (.chk (.c2 .le (.num 0) (.wr .i64 (.c2 .sub (.num 2049) (.fn 73 (.num 5) .nil .nil))))
 (.chk (.c2 .le (.wr .i64 (.c2 .sub (.num 2049) (.fn 73 (.num 5) .nil .nil))) (.num 140737488355328))
 (.chk (.c2 .le (.wr .i64 (.c2 .sub (.num 2049) (.fn 73 (.num 5) .nil .nil))) (.num 140737488351232))
 (.chk (.c2 .le (.num 0) (.wr .i64 (.c2 .sub (.num 2048) (.fn 73 (.num 6) .nil .nil))))
 (.chk (.c2 .le (.wr .i64 (.c2 .sub (.num 2048) (.fn 73 (.num 6) .nil .nil))) (.num 140737488355328))
 (.chk (.c2 .le (.wr .i64 (.c2 .sub (.num 2048) (.fn 73 (.num 6) .nil .nil))) (.num 140737488351232))
 (.chk (.c2 .le (.num 0) (.wr .i64 (.c2 .sub (.num 2049) (.fn 73 (.num 6) .nil .nil))))
 (.chk (.c2 .le (.wr .i64 (.c2 .sub (.num 2049) (.fn 73 (.num 6) .nil .nil))) (.num 140737488355328))
 (.chk (.c2 .le (.wr .i64 (.c2 .sub (.num 2049) (.fn 73 (.num 6) .nil .nil))) (.num 140737488351232))
 (.chk (.c2 .le (.num 0) (.wr .i64 (.c2 .sub (.num 2048) (.fn 73 (.num 7) .nil .nil))))
 (.chk (.c2 .le (.wr .i64 (.c2 .sub (.num 2048) (.fn 73 (.num 7) .nil .nil))) (.num 140737488355328))
 (.chk (.c2 .le (.wr .i64 (.c2 .sub (.num 2048) (.fn 73 (.num 7) .nil .nil))) (.num 140737488351232))
 (.chk (.c2 .le (.num 0) (.wr .i64 (.c2 .sub (.num 2049) (.fn 73 (.num 7) .nil .nil))))
 (.chk (.c2 .le (.wr .i64 (.c2 .sub (.num 2049) (.fn 73 (.num 7) .nil .nil))) (.num 140737488355328))
 (.chk (.c2 .le (.wr .i64 (.c2 .sub (.num 2049) (.fn 73 (.num 7) .nil .nil))) (.num 140737488351232))
 (.chk (.c2 .le (.num 0) (.wr .i64 (.c2 .sub (.num 2048) (.fn 73 (.num 8) .nil .nil))))
 (.chk (.c2 .le (.wr .i64 (.c2 .sub (.num 2048) (.fn 73 (.num 8) .nil .nil))) (.num 140737488355328))
 (.chk (.c2 .le (.wr .i64 (.c2 .sub (.num 2048) (.fn 73 (.num 8) .nil .nil))) (.num 140737488351232))
 (.chk (.c2 .le (.num 0) (.wr .i64 (.c2 .sub (.num 2049) (.fn 73 (.num 8) .nil .nil))))
 (.chk (.c2 .le (.wr .i64 (.c2 .sub (.num 2049) (.fn 73 (.num 8) .nil .nil))) (.num 140737488355328))
 (.chk (.c2 .le (.wr .i64 (.c2 .sub (.num 2049) (.fn 73 (.num 8) .nil .nil))) (.num 140737488351232))
 (.ret (.w (.c (.b (.bol true))), ⟨[], [], 4806343, 0, []⟩))))))))))))))))))))))))))))))))))))))))))))))))))))))))))
theorem treeNm_is : funTree (ctxN Go.Proofs.Tryz.prog annsNm consNm 8) annsNm 5 tWNames.vs tWNames.bs tWNames.n (preF tWNames.res) = treeNm := by kernel_rfl
end Go.Proofs.YtfhjlimdakphcaaGreat.Sx
set_option linter.unusedVariables false
set_option linter.unusedSimpArgs false
set_option maxRecDepth 100000
namespace Go.Proofs.YtfhjlimdakphcaaGreat.Sx
open Go
theorem mixCs_get (ks : List IntKind) : ∀ (l : List Int) (j i : Nat) (z : Int), l[i]? = some z → (mixCs ks j l)[i]? = some (if (j + i) % ks.length = 0 then .b (.bol (!(z == 0))) else .i (ks.getD ((j + i) % ks.length) .u8) (.num z))
 | [], _, _, _, h => by simp at h
 | y :: l, j, 0, z, h => by
   simp at h; subst h; rfl
 | y :: l, j, i + 1, z, h => by
   have := mixCs_get ks l (j + 1) i z (by simpa using h)
   rw [show j + 1 + i = j + (i + 1) from by omega] at this
   exact this
theorem mixCs_len (ks : List IntKind) : ∀ (l : List Int) (j : Nat), (mixCs ks j l).length = l.length
 | [], _ => rfl
 | y :: l, j => by simp [mixCs, mixCs_len ks l]
theorem mix_of {E : Ev} {β : Map} {w : World} {pl : Place} {ks : List IntKind} {l : List Int} (hE : ∀ p, (E (.bol p)).bool = p) (hN : ∀ z, (E (.num z)).int = z) (hk : 0 < ks.length) (h : cellsRep E β w pl (mixCs ks 0 l)) : mixRep w pl ks l := by
 refine ⟨hk, by have := h.1; rwa [mixCs_len] at this, fun i z hz => ?_⟩
 have hg := mixCs_get ks l 0 i z hz
 rw [Nat.zero_add] at hg
 obtain ⟨v, h1, h2⟩ := h.2 i _ hg
 rw [h1, mixV]
 split at h2
 · rename_i c
   rw [if_pos c]
   have h2 : v = .bool (E (.bol (!(z == 0)))).bool := h2
   rw [h2, hE]
 · rename_i c
   rw [if_neg c]
   have h2 : v = .int (ks.getD (i % ks.length) .u8) (E (.num z)).int := h2
   rw [h2, hN]
def nmE (ρ : Env) : Env
 | 3 => .i 5
 | 4 => .l nmDos
 | i => ρ i
theorem nm_two {ρ : Env} {β : Map} : ∀ {l : List Value}, repL (T.den ΦP ρ) β (cellsV 1 k2) l → repL (T.den ΦP (nmE ρ)) β (cellsV 1 k2) l
 | [], h => h.elim
 | [_], h => h.2.elim
 | [_, _], h => ⟨h.1, h.2.1, trivial⟩
 | _ :: _ :: _ :: _, h => h.2.2.elim
theorem nm_args {ρ : Env} {β : Map} : ∀ {args : List Value}, repVs (T.den ΦP ρ) β tPacksN.vs args → repVs (T.den ΦP (nmE ρ)) β tPacks.vs args
 | [], h => h.elim
 | [_], h => h.2.elim
 | [_, _], h => h.2.2.elim
 | [_, _, _], ⟨h1, ⟨cs, e, h2⟩, h3, _⟩ => ⟨h1, ⟨cs, e, nm_two h2⟩, h3, trivial⟩
 | _ :: _ :: _ :: _ :: _, h => h.2.2.2.elim
theorem packsN_ok : TmplOk Go.Proofs.Tryz.prog ΦP 3 tPacksN := by
 intro ρ res hres args β w hargs hb hm hfree
 obtain ⟨h0, hres⟩ := chk_some hres
 obtain ⟨hb0, hres⟩ := chk_some hres
 obtain ⟨a1, hres⟩ := chk_some hres
 obtain ⟨a2, hres⟩ := chk_some hres
 obtain ⟨a3, hres⟩ := chk_some hres
 obtain ⟨a4, hres⟩ := chk_some hres
 obtain rfl := ret_some hres
 have hv : tPacks.res.val (T.den ΦP (nmE ρ)) = some ⟨.c (.b (.bol true)), [], 100000⟩ := by
   refine ps_val h0 (ps_val hb0 (ps_val a1 (ps_val a2 (ps_val a3 (ps_val a4 (ps_val ?_ (ps_val ?_ (ps_val ?_ (ps_val ?_ rfl)))))))))
   · rfl
   · rfl
   · rfl
   · show inKinds kDo 0 nmDos = true
     decide +kernel
 refine (packs_ok (nmE ρ) _ hv args β w (nm_args hargs) hb ⟨fun j m hj => ?_, fun j j' m m' pl pl' hne hj hj' hrw hp hp' h1 h2 => ?_⟩ hfree).mono ?_
 · match j, hj with
   | 0, hj =>
     injection hj with hj; subst hj
     exact hm.1 0 _ rfl
   | 1, hj =>
     injection hj with hj; subst hj
     obtain ⟨pl, hp, hr, _⟩ := hm.1 1 _ rfl
     exact ⟨pl, hp, mix_of (fun _ => rfl) (fun _ => rfl) (by decide) hr, fun h => by cases h⟩
   | j + 2, hj => cases hj
 · have up : ∀ {k : Nat} {m : MB}, look tPacks.bs k = some m → ∃ m2, look tPacksN.bs k = some m2 ∧ m2.rw = m.rw := by
     intro k m hk
     match k, hk with
     | 0, hk => injection hk with hk; subst hk; exact ⟨_, rfl, rfl⟩
     | 1, hk => injection hk with hk; subst hk; exact ⟨_, rfl, rfl⟩
     | k + 2, hk => cases hk
   obtain ⟨m1, e1, r1⟩ := up hj
   obtain ⟨m2, e2, r2⟩ := up hj'
   exact hm.2 j j' m1 m2 pl pl' hne e1 e2 (r1.trans hrw) hp hp' h1 h2
 · rintro e w' ⟨v, β', he, hr, hs⟩
   exact ⟨v, β', he, hr, ⟨hs.ge, hs.le, hs.old, hs.os, hs.tape, hs.output, hs.size, hs.kept, (fun j m h => by cases h), (fun j h => by cases h), hs.new, (fun j j' m m' pl pl' _ _ _ h => by cases h)⟩⟩
theorem consNm_ok : ConsOk Go.Proofs.Tryz.prog ΦP consNm := moreCons (con_ok wlAwake_ok) (moreCons (con_ok (wsz_ok sigW)) (moreCons (con_ok (wck_ok sigW)) (moreCons (con_ok wlPushes_ok) (moreCons (con_ok wlPops_ok) (moreCons (con_ok wlBack_ok) (moreCons (con_ok wStacks_ok) (moreCons (con_ok packsN_ok) noCons)))))))
theorem names_ok : TmplOk Go.Proofs.Tryz.prog ΦP 5 tWNames := by
 refine tmpl_of consNm_ok treeNm_is (fun ρ res hres => ⟨eqJ, ?_⟩)
 obtain rfl := ret_some hres
 refine ⟨fun c => ?_, fun _ => ⟨fun c => ?_, fun _ => ?_⟩⟩
 · exfalso; rw [not_t, eq_f] at c; exact c rfl
 · exfalso; rw [not_t, eq_f] at c; exact c rfl
 · repeat (first | exact leaf_true rfl (by decide) | refine And.intro rfl ?_)
end Go.Proofs.YtfhjlimdakphcaaGreat.Sx
set_option linter.unusedVariables false
set_option linter.unusedSimpArgs false
namespace Go.Proofs.YtfhjlimdakphcaaGreat.Sx
open Go Go.RowKit Go.WideShapes Go.ChangeShapes
end Go.Proofs.YtfhjlimdakphcaaGreat.Sx
