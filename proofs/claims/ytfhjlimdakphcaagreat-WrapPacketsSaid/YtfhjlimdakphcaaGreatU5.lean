/- Sx: texts of this claim put together: PkM, TWsSize, TWsSizeR, TWcChk, TWcChkR, TWuPush, TWuPushR, TWoPop, TWoPopR, TWdLink, TWrLink, HdWLink, TWdTag, TWrTag, HdWTag, TWdNet4, TWrNet4, HdWNet4, TWdNet6, TWrNet6, HdWNet6, TWdSeg, TWrSeg, HdWSeg, TWdDgram. Conditions: none. -/
import Derived.Test.YtfhjlimdakphcaaGreatU4
import Derived.Test.YtfhjlimdakphcaaGreatProg
import Derived.KernelRfl
/- Sx laws of wrapping: packets: the mathematics and leaves. Conditions: none. -/
set_option linter.unusedVariables false
set_option linter.unusedSimpArgs false
namespace Go.Proofs.YtfhjlimdakphcaaGreat.Sx
open Go
/-! Rows put into rows. -/
theorem rep0 (n : Nat) : (List.replicate n [(0 : Int)]).flatten = List.replicate n 0 := by
  induction n with
  | zero => rfl
  | succ n ih => rw [List.replicate_succ, List.flatten_cons, ih]; rfl
theorem spl_at {l s : List Int} {i : Nat} : splL l (i : Int) s = l.take i ++ (s ++ l.drop (i + s.length)) := by
  rw [splL, Int.toNat_natCast, List.append_assoc]
theorem spl_twice {l a b : List Int} {i : Nat} (h : i + a.length ≤ l.length) (hab : a.length = b.length) : splL (splL l (i : Int) a) (i : Int) b = splL l (i : Int) b := by
  rw [spl_at, spl_at, spl_at]
  have hi : (l.take i).length = i := by rw [List.length_take]; omega
  rw [List.take_append_of_le_length (by omega), List.take_of_length_le (by omega), ← hab]
  congr 2
  rw [← List.append_assoc, List.drop_append_of_le_length (by rw [List.length_append]; omega), List.drop_of_length_le (by rw [List.length_append]; omega)]; rfl
theorem spl_len {l s : List Int} {i : Nat} (h : i + s.length ≤ l.length) : (splL l (i : Int) s).length = l.length := by
  rw [spl_at, List.length_append, List.length_append, List.length_take, List.length_drop]; omega
theorem spl_zero {N n : Nat} {d w : List Int} (hN : N = 64 + n + d.length + 64) (hw : w.length = n) : splL (splL (List.replicate N 0) ((64 + n : Nat) : Int) d) (64 : Int) w = List.replicate 64 0 ++ ((w ++ d) ++ List.replicate 64 0) := by
  have h1 : splL (List.replicate N 0) ((64 + n : Nat) : Int) d = List.replicate (64 + n) 0 ++ (d ++ List.replicate 64 0) := by
    rw [spl_at, List.take_replicate, List.drop_replicate, show min (64 + n) N = 64 + n from by omega, show N - (64 + n + d.length) = 64 from by omega]
  rw [h1, show (64 : Int) = ((64 : Nat) : Int) from rfl, spl_at, List.take_append_of_le_length (by simp), List.take_replicate, hw,
    List.drop_append_of_le_length (by simp), List.drop_replicate, show 64 + n - (64 + n) = 0 from by omega, show min 64 (64 + n) = 64 from by omega]
  simp
theorem spl_none {l : List Int} {i : Nat} (h : i ≤ l.length) : splL l (i : Int) [] = l := by
  rw [spl_at]; simp
/-! A packet that is right. -/
structure PkIs (ρ : Env) (v : Nat) : Prop where
  f0 : 0 ≤ (ρ (v + 1)).int
  ft : (ρ (v + 1)).int ≤ (ρ (v + 2)).int
  tm : (ρ (v + 2)).int ≤ (ρ v).list.length
  d : (ρ (v + 2)).int - (ρ (v + 1)).int ≤ 2048
  m : (ρ v).list.length ≤ 2560
  mv0 : 0 ≤ (ρ (v + 3)).int
  mv1 : (ρ (v + 3)).int ≤ 1000
  bytes : Bytes (ρ v).list
section
variable {Φ : Sig} {ρ : Env}
theorem pk_some {v : Nat} {x : O Res} {res : Res} (h : (pkOk v x).val (T.den Φ ρ) = some res) : PkIs ρ v ∧ x.val (T.den Φ ρ) = some res := by
  obtain ⟨h1, h⟩ := chk_some h
  obtain ⟨h2, h⟩ := chk_some h
  obtain ⟨h3, h⟩ := chk_some h
  obtain ⟨h4, h⟩ := chk_some h
  obtain ⟨h5, h⟩ := chk_some h
  obtain ⟨_, h⟩ := chk_some h
  obtain ⟨_, h⟩ := chk_some h
  obtain ⟨_, h⟩ := chk_some h
  obtain ⟨h6, h⟩ := chk_some h
  obtain ⟨h7, h⟩ := chk_some h
  obtain ⟨hb, h⟩ := bytes_some h
  rw [le_t, den_var, den_num] at h1 h6
  rw [le_t, den_var, den_var] at h2
  rw [le_t, int_len, den_var, den_var] at h3
  rw [le_t, int_sub, den_var, den_var, den_num] at h4
  rw [le_t, int_len, den_var, den_num] at h5
  rw [le_t, den_var, den_num] at h7
  exact ⟨⟨h1, h2, h3, h4, by have h5 : ((ρ v).list.length : Int) ≤ 2560 := h5; omega, h6, h7, hb⟩, h⟩
def dataR (ρ : Env) (v : Nat) : List Int := dataOf (ρ v).list (ρ (v + 1)).int (ρ (v + 2)).int
theorem den_pkD {v : Nat} (h : PkIs ρ v) : (T.den Φ ρ (pkD v)).list = dataR ρ v := by
  have h1 := h.f0
  have h2 := h.ft
  rw [pkD, list_take, list_drop, int_sub, den_var, den_var, den_var, dataR, dataOf, show ((ρ (v + 2)).int - (ρ (v + 1)).int).toNat = (ρ (v + 2)).int.toNat - (ρ (v + 1)).int.toNat from by omega]
theorem data_len {v : Nat} (h : PkIs ρ v) : ((dataR ρ v).length : Int) = (ρ (v + 2)).int - (ρ (v + 1)).int := by
  have h1 := h.f0
  have h2 := h.ft
  have h3 := h.tm
  rw [dataR, dataOf, List.length_take, List.length_drop]; omega
theorem data_bytes {v : Nat} (h : PkIs ρ v) : Bytes (dataR ρ v) := bytes_take (bytes_drop h.bytes _) _
theorem data_short {v : Nat} (h : PkIs ρ v) : (dataR ρ v).length ≤ 2048 := by
  have := data_len h
  have := h.d
  omega
/-! The head of On at variable 4. -/
def atE (ρ : Env) (b : Nat) : Env := fun i => ρ (b + i)
theorem vars_atE (Φ : Sig) (ρ : Env) (b : Nat) : ∀ (n c : Nat), (T.den Φ ρ (varsT (b + c) n)).list = (T.den Φ (atE ρ b) (varsT c n)).list
  | 0, _ => rfl
  | n + 1, c => by
    show (ρ (b + c)).int :: (T.den Φ ρ (varsT (b + c + 1) n)).list = (atE ρ b c).int :: (T.den Φ (atE ρ b) (varsT (c + 1) n)).list
    rw [show b + c + 1 = b + (c + 1) from by omega, vars_atE Φ ρ b n (c + 1)]; rfl
theorem andZ_at {b : Nat} (l : List Nat) : (T.den Φ ρ (andZ (l.map (b + ·)))).bool = true ↔ (T.den Φ (atE ρ b) (andZ l)).bool = true := by
  rw [andZ_t, andZ_t]
  constructor
  · exact fun h i hi => h (b + i) (List.mem_map.mpr ⟨i, hi, rfl⟩)
  · intro h i hi
    obtain ⟨j, hj, rfl⟩ := List.mem_map.mp hi
    exact h j hj
def csOf4 : Nat → List (T × Int)
  | 2 => [(.c2 .lt (.num 7) (.var 18), 60), (.c2 .lt (.num 4095) (.var 19), 60)]
  | 4 => [(.c2 .le (.num 1048576) (.var 34), 80)]
  | 5 => [(.c2 .le (.num 64) (.var 73), 90)]
  | _ => []
theorem cs4_is {k : Nat} (hk : 1 ≤ k ∧ k ≤ 6) : csVal (T.den Φ ρ) (csOf4 k) = csVal (T.den Φ (atE ρ 4)) (csOf k) := by
  have : k = 1 ∨ k = 2 ∨ k = 3 ∨ k = 4 ∨ k = 5 ∨ k = 6 := by omega
  rcases this with rfl | rfl | rfl | rfl | rfl | rfl <;> rfl
theorem cs4_ne {k : Nat} : ∀ {t : T} {e : Int}, (t, e) ∈ csOf4 k → ¬ e = 0 := by
  intro t e h
  unfold csOf4 at h
  split at h <;> simp at h
  · rcases h with ⟨_, rfl⟩ | ⟨_, rfl⟩ <;> decide
  · obtain ⟨_, rfl⟩ := h; decide
  · obtain ⟨_, rfl⟩ := h; decide
def bndT4 (i : Nat) (up : Bool) : T := if up then .c2 .le (.var (4 + i)) (.num (kmax (kAt kHead i))) else .c2 .le (.num 0) (.var (4 + i))
def chksB4 (x : M (V × St)) : List (Nat × Bool) → M (V × St)
  | [] => x
  | (i, up) :: l => .chk (bndT4 i up) (chksB4 x l)
theorem chksB4_ok {J : Inv} {B : BK} {K : BK → Env → V × St → Prop} {x : M (V × St)} (hh : HeadOk (atE ρ 4)) (hx : x.ok Φ J B ρ K) : ∀ {l : List (Nat × Bool)}, (l.all fun p => decide (p.1 < 73)) = true → (chksB4 x l).ok Φ J B ρ K
  | [], _ => hx
  | (i, up) :: l, h => by
    simp only [List.all_cons, Bool.and_eq_true, decide_eq_true_eq] at h
    refine ⟨?_, chksB4_ok hh hx h.2⟩
    have hi := kmin_head ⟨i, h.1⟩
    have hb := hh i _ hi.2
    rw [Nat.zero_add] at hb
    unfold bndT4
    split
    · rw [le_t, den_var, den_num]; exact hb.2
    · rw [le_t, den_var, den_num]; exact (hi.1 ▸ hb.1 : (0 : Int) ≤ (atE ρ 4 i).int)
theorem kinH4_some {x : O Res} {res : Res} (h : (kinH 4 x).val (T.den Φ ρ) = some res) : HeadOk (atE ρ 4) ∧ x.val (T.den Φ ρ) = some res := by
  obtain ⟨h1, h⟩ := chk_some h
  refine ⟨?_, h⟩
  have h1 : inKinds kHead 0 (T.den Φ ρ (varsT (4 + 0) 73)).list = true := h1
  rw [vars_atE] at h1
  have : (kinH 0 (O.ret res)).val (T.den Φ (atE ρ 4)) = some res := by
    simp only [kinH, O.val]
    rw [if_pos (by exact h1)]
  exact (kinH_some this).1
end
def headR (ρ : Env) : List Int := (T.den ΦP (atE ρ 4) (varsT 0 73)).list
theorem headR_is {ρ : Env} : (T.den ΦP ρ (varsT 4 73)).list = headR ρ := vars_atE ΦP ρ 4 73 0
def onErrR (e : T) (n : Nat) : V × St := (.w (.c (.i .i64 e)), ⟨[], [], n, 77, []⟩)
def onChain (n : Nat) (x : M (V × St)) : List (T × Int) → M (V × St)
  | [] => x
  | (t, e) :: cs => .split t (.ret (onErrR (.num e) n)) (onChain n x cs)
def layLen (z : Nat) : T := .c2 .add (.c2 .add (.num (.ofNat (64 + z))) (.c2 .sub (.var 2) (.var 1))) (.num 64)
def onW (k z : Nat) (F : T) : T := .c2 .take (.num (.ofNat z)) (.fn (30 + k) F (pkD 0) .nil)
def onLay (k z n : Nat) (F : T) : V × St := (.w (.c (.i .i64 (.num 0))), ⟨[], [(83, some ⟨true, .row [.u8] (.spl (.spl (.c2 .rep (layLen z) (.cons (.num 0) .nil)) (.num (.ofNat (64 + z))) (pkD 0)) (.num 64) (onW k z F))⟩),
  (0, some ⟨true, .cells [.b (.bol true), .s 83 1 0 (.num 0) (layLen z), .i .i64 (.num 64), .i .i64 (.c2 .sub (layLen z) (.num 64)), .i .i64 (.c2 .add (.var 3) (.num 1))]⟩)], n, 77, []⟩)
def inF (z : Nat) : T := .c2 .sub (.var 1) (.num (.ofNat z))
def inE (z : Nat) : T := .wr .i64 (.c2 .add (inF z) (.c2 .mx (.num (.ofNat z)) (.num 0)))
def onIn (k z n : Nat) (F : T) : V × St := (.w (.c (.i .i64 (.num 0))), ⟨[], [(1, some ⟨true, .row [.u8] (.spl (.spl (.var 0) (inF z) (.c2 .rep (.c2 .sub (inE z) (inF z)) (.cons (.num 0) .nil))) (inF z) (onW k z F))⟩),
  (0, some ⟨true, .cells [.b (.bol true), .s 1 1 0 (.num 0) (.c1 .len (.var 0)), .i .i64 (inF z), .i .i64 (.var 2), .i .i64 (.c2 .add (.var 3) (.num 1))]⟩)], n, 77, []⟩)
def onTree (k z n1 n2 : Nat) (F : T) (bl : List (Nat × Bool)) : M (V × St) :=
  .split (.c1 .not (andZ ((outs k).map (4 + ·)))) (.ret (onErrR (.num 120) n1)) (onChain n2
    (.chk (.c2 .eq (.c2 .sub (.var 2) (.var 1)) (.c1 .len (pkD 0)))
      (chksB4 (.chk (.c1 (.kin [.u8]) (pkD 0))
        (.split (.c2 .eq (.fn (40 + k) F (pkD 0) .nil) (.num 0))
          (.chk (.c1 (.kin [.u8]) (.fn (30 + k) F (pkD 0) .nil)) (.chk (.c2 .eq (.c1 .len (.fn (30 + k) F (pkD 0) .nil)) (.num (.ofNat z)))
            (.split (.c2 .lt (.c2 .sub (.num 2048) (.c2 .sub (.var 2) (.var 1))) (.num (.ofNat z))) (.ret (onErrR (.num 5) 83))
              (.split (.c2 .lt (.var 1) (.num (.ofNat z))) (.ret (onLay k z 84 F))
                (.chk (.c2 .le (inF z) (inE z)) (.chk (.c2 .le (inE z) (.c1 .len (.var 0))) (.chk (.c2 .le (.c2 .add (inF z) (.num (.ofNat z))) (.c1 .len (.var 0)))
                  (.ret (onIn k z 83 F)))))))))
          (.ret (onErrR (.fn (40 + k) F (pkD 0) .nil) 83)))) bl)) (csOf4 k))
structure OnRes (ρ : Env) (res : Res) : Prop where
  bad : ¬ pushErr (headR ρ) (dataR ρ 0) = 0 → res = ⟨.c (.i .i64 onErr), [], 300⟩
  good : pushErr (headR ρ) (dataR ρ 0) = 0 → res = ⟨.c (.i .i64 (.num 0)), [(83, some ⟨true, .row [.u8] onT⟩), (0, some ⟨true, .cells (pkCells 83 onT onF onTo (.c2 .add (.var 3) (.num 1)))⟩), (1, none)], 300⟩
section
variable {ρ : Env}
theorem headR_g (i : Nat) (h : i < 73) : g (headR ρ) i = (ρ (4 + i)).int := vars_g ΦP (atE ρ 4) h
theorem den_onErr (h : PkIs ρ 0) : (T.den ΦP ρ onErr).int = pushErr (headR ρ) (dataR ρ 0) := by
  show pushErr (T.den ΦP ρ (varsT 4 73)).list (T.den ΦP ρ (pkD 0)).list = _
  rw [headR_is, den_pkD h]
theorem den_onN : (T.den ΦP ρ onN).int = hdSize (g (headR ρ) 0).toNat := by
  show (hdSize (ρ 4).int.toNat : Int) = _
  rw [headR_g 0 (by decide)]
theorem den_onT : (T.den ΦP ρ onT).list = onMem (ρ 0).list [(ρ 1).int, (ρ 2).int] (headR ρ) := by
  show onMem (ρ 0).list [(ρ 1).int, (ρ 2).int] (T.den ΦP ρ (varsT 4 73)).list = _
  rw [headR_is]
theorem den_onF : (T.den ΦP ρ onF).int = onFrom (ρ 1).int (hdSize (g (headR ρ) 0).toNat) := by
  show onFrom (ρ 1).int (T.den ΦP ρ onN).int = _
  rw [den_onN]
theorem on_res (hp : PkIs ρ 0) {res : Res} (h : (onRes 83 300).val (T.den ΦP ρ) = some res) : OnRes ρ res := by
  have he := den_onErr hp
  refine ⟨fun hb => ?_, fun hg => ?_⟩
  · simp only [onRes, O.val] at h
    rw [if_neg (by rw [eq_t, he]; exact hb)] at h
    injection h with h; exact h.symm
  · simp only [onRes, O.val] at h
    rw [if_pos (by rw [eq_t, he]; exact hg)] at h
    repeat' (split at h)
    all_goals first | (cases h; done) | (injection h with h; exact h.symm)
theorem leaf_on_err {n : Nat} {res : Res} {t : T} {e : Int} (hp : PkIs ρ 0) (hr : OnRes ρ res) (he : pushErr (headR ρ) (dataR ρ 0) = e) (h0 : ¬ e = 0) (ht : (T.den ΦP ρ t).int = e) (hn : n ≤ 300) : LeafG (pkBs 0 1 0) 1 ΦP ρ ρ res (onErrR t n) := by
  rw [hr.bad (by rw [he]; exact h0)]
  exact .inl ⟨⟨rfl, by rw [ht, den_onErr hp, he]⟩, trivial, hn⟩
theorem onChain_ok {J : Inv} {B : BK} {K : BK → Env → V × St → Prop} {n : Nat} {x : M (V × St)} : ∀ {cs : List (T × Int)}, (∀ e, ¬ e = 0 → csVal (T.den ΦP ρ) cs = e → K B ρ (onErrR (.num e) n)) → (csVal (T.den ΦP ρ) cs = 0 → x.ok ΦP J B ρ K) → (∀ t e, (t, e) ∈ cs → ¬ e = 0) → (onChain n x cs).ok ΦP J B ρ K
  | [], _, h2, _ => h2 rfl
  | (t, e) :: cs, h1, h2, h3 => by
    refine ⟨fun c => ?_, fun c => ?_⟩
    · exact h1 e (h3 t e (by simp)) (by rw [csVal, if_pos c])
    · have hv : csVal (T.den ΦP ρ) ((t, e) :: cs) = csVal (T.den ΦP ρ) cs := by rw [csVal, if_neg (by rw [c]; decide)]
      rw [hv] at h1 h2
      exact onChain_ok h1 h2 (fun t' e' h' => h3 t' e' (by simp [h']))
theorem not_head4 (h : (ρ 4).int < 1 ∨ 6 < (ρ 4).int) : ¬ headIs (headR ρ) := not_head_vars (ρ := atE ρ 4) h
theorem fields4 {k : Nat} (hk : 1 ≤ k ∧ k ≤ 6) : hdFields k (headR ρ) = (T.den ΦP ρ (varsT (4 + hdOff k) (hdKinds k).length)).list := by
  rw [vars_atE]; exact fields_vars hk
theorem on_kind {k n1 n2 : Nat} {B : BK} {res : Res} {F : T} (hp : PkIs ρ 0) (hr : OnRes ρ res) (hk : 1 ≤ k ∧ k ≤ 6) (h0 : (ρ 4).int = k) (hh : HeadOk (atE ρ 4)) (hF : (T.den ΦP ρ F).list = hdFields k (headR ρ)) (hn : n1 ≤ 300 ∧ n2 ≤ 300)
    {bl : List (Nat × Bool)} (hbl : (bl.all fun p => decide (p.1 < 73)) = true) : (onTree k (hdSize k) n1 n2 F bl).ok ΦP eqJ B ρ (fun _ ρ' r => LeafG (pkBs 0 1 0) 1 ΦP ρ ρ' res r) := by
  have g0 : g (headR ρ) 0 = k := (headR_g 0 (by decide)).trans h0
  have hg : GoodInts (hdKinds k) (hdFields k (headR ρ)) := good_fields (Φ := ΦP) (ρ := atE ρ 4) hk hh
  have hD := den_pkD (Φ := ΦP) hp
  have hDl : ((dataR ρ 0).length : Int) = (ρ 2).int - (ρ 1).int := data_len hp
  have f0 : 0 ≤ (ρ 1).int := hp.f0
  have ft : (ρ 1).int ≤ (ρ 2).int := hp.ft
  have tm : (ρ 2).int ≤ (ρ 0).list.length := hp.tm
  have hm := hp.m
  have mv1 : (ρ 3).int ≤ 1000 := hp.mv1
  have mv0 : 0 ≤ (ρ 3).int := hp.mv0
  have hw : (T.den ΦP ρ (.fn (40 + k) F (pkD 0) .nil)).int = wrFail k (hdFields k (headR ρ)) (dataR ρ 0) := by
    rw [den_fn, sigW.wrErr k _ _ _ hk.1 hk.2, hF, hD]; rfl
  have hgd : (T.den ΦP ρ (.fn (30 + k) F (pkD 0) .nil)).list = wrGood k (hdFields k (headR ρ)) (dataR ρ 0) := by
    rw [den_fn, sigW.wrRow k _ _ _ hk.1 hk.2, hF, hD]; rfl
  have hwl := wr_len hk (hdFields k (headR ρ)) (dataR ρ 0)
  have hW : (T.den ΦP ρ (onW k (hdSize k) F)).list = wrGood k (hdFields k (headR ρ)) (dataR ρ 0) := by
    rw [onW, list_take, hgd]
    exact List.take_of_length_le (by rw [hwl]; exact Nat.le_refl _)
  have hhr : headRow (headR ρ) (dataR ρ 0) = wrGood k (hdFields k (headR ρ)) (dataR ρ 0) := by rw [headRow, g0, Int.toNat_natCast]
  have hz40 : hdSize k ≤ 40 := by
    have : k = 1 ∨ k = 2 ∨ k = 3 ∨ k = 4 ∨ k = 5 ∨ k = 6 := by omega
    rcases this with rfl | rfl | rfl | rfl | rfl | rfl <;> decide
  have his : headIs (headR ρ) ↔ (T.den ΦP (atE ρ 4) (andZ (outs k))).bool = true := headIs_vars (Φ := ΦP) (ρ := atE ρ 4) hk h0
  refine ⟨fun c => ?_, fun c => ?_⟩
  · rw [not_t] at c
    refine leaf_on_err (e := 120) hp hr ?_ (by decide) rfl hn.1
    rw [pushErr, if_neg]
    intro h
    rw [(andZ_at (outs k)).mpr (his.mp h)] at c; cases c
  · rw [not_f] at c
    have hE : pushErr (headR ρ) (dataR ρ 0) = wrFail k (hdFields k (headR ρ)) (dataR ρ 0) := by
      rw [pushErr, if_pos (his.mpr ((andZ_at (outs k)).mp c)), g0, Int.toNat_natCast]
    have hcs : csVal (T.den ΦP ρ) (csOf4 k) = chkF k (hdFields k (headR ρ)) := (cs4_is hk).trans (cs_is (Φ := ΦP) (ρ := atE ρ 4) hk)
    refine onChain_ok (fun e he hv => leaf_on_err hp hr ?_ he rfl hn.2) (fun hv => ?_) (fun t e h => cs4_ne h)
    · rw [hcs] at hv
      rw [hE, chk_wr hk (by rw [hv]; exact he), hv]
    refine ⟨by rw [eq_t, int_sub, int_len, den_var, den_var, hD]; exact hDl.symm, ?_⟩
    refine chksB4_ok hh ?_ hbl
    refine ⟨by rw [bytes_t, hD]; exact data_bytes hp, fun d => ?_, fun d => ?_⟩
    · rw [eq_t, hw] at d
      have d : wrFail k (hdFields k (headR ρ)) (dataR ρ 0) = 0 := d
      have hsz := size_k hk d
      have hpe := hE.trans d
      have hiF : (T.den ΦP ρ (inF (hdSize k))).int = (ρ 1).int - hdSize k := by rw [inF, int_sub, den_var]; rfl
      have hmx : (T.den ΦP ρ (.c2 .mx (.num (.ofNat (hdSize k))) (.num 0))).int = hdSize k := by show max (Int.ofNat (hdSize k)) 0 = _; simp only [Int.ofNat_eq_natCast]; omega
      refine ⟨?_, ?_, fun e => ?_, fun e => ⟨fun q => ?_, fun q => ?_⟩⟩
      · rw [bytes_t, hgd]; exact bytes_k hk hg d
      · rw [eq_t, int_len, hgd, hwl]; rfl
      · exfalso
        rw [lt_t, int_sub, int_sub, den_var, den_var, den_num] at e
        replace e : (2048 : Int) - ((ρ 2).int - (ρ 1).int) < hdSize k := e
        omega
      · rw [lt_t, den_var] at q
        have q : (ρ 1).int < hdSize k := q
        rw [hr.good hpe]
        have hll : (T.den ΦP ρ (layLen (hdSize k))).int = ((64 + hdSize k + (dataR ρ 0).length + 64 : Nat) : Int) := by
          rw [layLen, int_add, int_add, int_sub, den_var, den_var]
          show (((64 + hdSize k : Nat) : Int) + ((ρ 2).int - (ρ 1).int)) + 64 = _
          omega
        have hrow : onMem (ρ 0).list [(ρ 1).int, (ρ 2).int] (headR ρ) = List.replicate 64 0 ++ ((wrGood k (hdFields k (headR ρ)) (dataR ρ 0) ++ dataR ρ 0) ++ List.replicate 64 0) := by
          rw [onMem, g0, Int.toNat_natCast, if_pos (show g [(ρ 1).int, (ρ 2).int] 0 < hdSize k from q)]
          show List.replicate 64 0 ++ (pushRow (headR ρ) (dataR ρ 0) ++ _) = _
          rw [pushRow, hhr]
        have hlr : (onMem (ρ 0).list [(ρ 1).int, (ρ 2).int] (headR ρ)).length = 64 + hdSize k + (dataR ρ 0).length + 64 := by
          rw [hrow]; simp only [List.length_append, List.length_replicate, hwl]; omega
        have hfr : (T.den ΦP ρ onF).int = 64 := by rw [den_onF, g0, Int.toNat_natCast, onFrom, if_pos q]
        refine .inr (.inl ⟨by decide, ⟨_, rfl, rfl⟩, rfl, ⟨⟨rfl, rfl⟩, ⟨rfl, rfl, ⟨rfl, ?_⟩, rfl, rfl, ⟨rfl, ⟨rfl, rfl, rfl, rfl, ?_⟩, ⟨rfl, hfr.symm⟩, ⟨rfl, ?_⟩, ⟨rfl, rfl⟩, trivial⟩, rfl, trivial⟩, (show (84 : Nat) ≤ 300 by decide)⟩⟩)
        · rw [den_onT, hrow]
          show splL (splL (List.replicate (T.den ΦP ρ (layLen (hdSize k))).int.toNat [(0 : Int)]).flatten ((64 + hdSize k : Nat) : Int) (T.den ΦP ρ (pkD 0)).list) (64 : Int) (T.den ΦP ρ (onW k (hdSize k) F)).list = _
          rw [rep0, hW, hD, hll, Int.toNat_natCast]
          exact spl_zero rfl hwl
        · rw [int_len, den_onT, hll, hlr]
        · rw [int_sub, hll, onTo, int_add, hfr, int_add, int_sub, den_onN, den_var, den_var, g0, Int.toNat_natCast]
          show ((64 + hdSize k + (dataR ρ 0).length + 64 : Nat) : Int) - 64 = (64 : Int) + (hdSize k + ((ρ 2).int - (ρ 1).int))
          omega
      · rw [lt_f, den_var] at q
        have q : (hdSize k : Int) ≤ (ρ 1).int := q
        obtain ⟨i, hi⟩ := Int.eq_ofNat_of_zero_le (show 0 ≤ (ρ 1).int - hdSize k by omega)
        have hiE : (T.den ΦP ρ (inE (hdSize k))).int = (ρ 1).int := by
          rw [inE, int_wr, int_add, hiF, hmx, Int.sub_add_cancel]
          exact wrap_is (by simp only [kmin]; omega) (by simp only [kmax]; omega)
        refine ⟨by rw [le_t, hiE, hiF]; omega, by rw [le_t, hiE, int_len, den_var]; omega, ?_, ?_⟩
        · rw [le_t, int_add, hiF, int_len, den_var]; show (ρ 1).int - hdSize k + hdSize k ≤ _; omega
        rw [hr.good hpe]
        have hrow : onMem (ρ 0).list [(ρ 1).int, (ρ 2).int] (headR ρ) = splL (ρ 0).list (i : Int) (wrGood k (hdFields k (headR ρ)) (dataR ρ 0)) := by
          rw [onMem, g0, Int.toNat_natCast, if_neg (show ¬ g [(ρ 1).int, (ρ 2).int] 0 < hdSize k by show ¬ (ρ 1).int < hdSize k; omega), spl_at, hwl]
          show (ρ 0).list.take ((ρ 1).int.toNat - hdSize k) ++ (headRow (headR ρ) (dataR ρ 0) ++ (ρ 0).list.drop (ρ 1).int.toNat) = _
          rw [hhr, show (ρ 1).int.toNat - hdSize k = i from by omega, show (ρ 1).int.toNat = i + hdSize k from by omega]
        have hfit : i + hdSize k ≤ (ρ 0).list.length := by omega
        have hfr : (T.den ΦP ρ onF).int = (ρ 1).int - hdSize k := by rw [den_onF, g0, Int.toNat_natCast, onFrom, if_neg (by omega)]
        refine .inr (.inr ⟨by decide, ⟨_, rfl, rfl⟩, rfl, rfl, ⟨⟨rfl, rfl⟩, ⟨rfl, rfl, ⟨rfl, ?_⟩, rfl, rfl, ⟨rfl, ⟨rfl, rfl, rfl, rfl, ?_⟩, ⟨rfl, ?_⟩, ⟨rfl, ?_⟩, ⟨rfl, rfl⟩, trivial⟩, rfl, trivial⟩, (show (84 : Nat) ≤ 300 by decide)⟩⟩)
        · rw [den_onT, hrow]
          show splL (splL (ρ 0).list (T.den ΦP ρ (inF (hdSize k))).int (List.replicate ((T.den ΦP ρ (inE (hdSize k))).int - (T.den ΦP ρ (inF (hdSize k))).int).toNat [(0 : Int)]).flatten) (T.den ΦP ρ (inF (hdSize k))).int (T.den ΦP ρ (onW k (hdSize k) F)).list = _
          rw [rep0, hW, hiE, hiF, hi]
          have hr2 : ((ρ 1).int - (i : Int)).toNat = hdSize k := by omega
          refine spl_twice ?_ ?_
          · rw [List.length_replicate]; omega
          · rw [List.length_replicate, hwl]; omega
        · rw [int_len, int_len, den_onT, hrow, den_var, spl_len (by rw [hwl]; exact hfit)]
        · rw [hiF, hfr]
        · rw [onTo, int_add, hfr, int_add, int_sub, den_onN, den_var, den_var, g0, Int.toNat_natCast]; omega
    · rw [eq_f, hw] at d
      exact leaf_on_err hp hr hE d hw (by decide)
/-! Taking off. -/
def offF (z : Int) : T := .c2 .sub (.var 1) (.num z)
def offE (z : Int) : T := .wr .i64 (.c2 .add (offF z) (.c2 .mx (.num z) (.num 0)))
def offErrR (e : T) (n : Nat) : V × St := (.t [.g (zeroC' kHead), .c (.i .i64 e)], ⟨[], [], n, 5, []⟩)
def offOk (k n : Nat) (z : Int) : V × St := (.t [.g (hdC k (.var 4) (.fn (10 + k) (pkD 0) .nil .nil)), .c (.i .i64 (.num 0))], ⟨[], [(0, some ⟨true, .cells [.b (.bol true), .s 1 1 0 (.num 0) (.c1 .len (.var 0)), .i .i64 (offF z), .i .i64 (.var 2), .i .i64 (.c2 .add (.var 3) (.num 1))]⟩),
  (1, some ⟨true, .row [.u8] (.spl (.var 0) (offF z) (.c2 .rep (.c2 .sub (offE z) (offF z)) (.cons (.num 0) .nil)))⟩)], n, 5, []⟩)
def offTree (k n : Nat) (z : Int) (w : V × St) : M (V × St) :=
  .chk (.c2 .eq (.c2 .sub (.var 2) (.var 1)) (.c1 .len (pkD 0))) (.chk (.c1 (.kin [.u8]) (pkD 0))
    (.split (.c1 .not (.c2 .eq (.fn (20 + k) (pkD 0) .nil .nil) (.num 0))) (.ret (offErrR (.fn (20 + k) (pkD 0) .nil .nil) n))
      (.split (.c2 .lt (.num z) (.c2 .sub (.num 0) (.c2 .sub (.var 2) (.var 1)))) (.ret w)
        (.chk (.c2 .le (offF z) (offE z)) (.chk (.c2 .le (offE z) (.c1 .len (.var 0))) (.ret (offOk k n z)))))))
structure OffRes (ρ : Env) (res : Res) : Prop where
  bad : ¬ popErr (dataR ρ 0) (ρ 4).int = 0 → res = ⟨.t [.g (zeroC' kHead), .c (.i .i64 offErr)], [], 300⟩
  good : popErr (dataR ρ 0) (ρ 4).int = 0 → res = ⟨.t [.g (rdCells offHead 0 kHead), .c (.i .i64 (.num 0))], [(0, some ⟨true, .cells (pkCells 1 (.var 0) (.c2 .add (.var 1) offN) (.var 2) (.c2 .add (.var 3) (.num 1)))⟩), (1, some ⟨true, .row [.u8] (.var 0)⟩)], 300⟩
theorem den_offErr (h : PkIs ρ 0) : (T.den ΦP ρ offErr).int = popErr (dataR ρ 0) (ρ 4).int := by
  show popErr (T.den ΦP ρ (pkD 0)).list (ρ 4).int = _
  rw [den_pkD h]
theorem off_res (hp : PkIs ρ 0) {res : Res} (h : (offRes 300).val (T.den ΦP ρ) = some res) : OffRes ρ res := by
  have he := den_offErr hp
  refine ⟨fun hb => ?_, fun hg => ?_⟩
  · simp only [offRes, O.val] at h
    rw [if_neg (by rw [eq_t, he]; exact hb)] at h
    injection h with h; exact h.symm
  · simp only [offRes, O.val] at h
    rw [if_pos (by rw [eq_t, he]; exact hg)] at h
    repeat' (split at h)
    all_goals first | (cases h; done) | (injection h with h; exact h.symm)
theorem leaf_off_err {n : Nat} {res : Res} {t : T} {e : Int} (hp : PkIs ρ 0) (hr : OffRes ρ res) (he : popErr (dataR ρ 0) (ρ 4).int = e) (h0 : ¬ e = 0) (ht : (T.den ΦP ρ t).int = e) (hn : n ≤ 300) : Leaf ΦP ρ ρ res (offErrR t n) := by
  rw [hr.bad (by rw [he]; exact h0)]
  exact ⟨⟨zero_eqL kHead, ⟨rfl, by rw [ht, den_offErr hp, he]⟩, trivial⟩, trivial, hn⟩
theorem offK_ok {k n : Nat} {z : Int} {w : V × St} {B : BK} {res : Res} (hp : PkIs ρ 0) (hr : OffRes ρ res) (hk : 1 ≤ k ∧ k ≤ 6) (h0 : (ρ 4).int = k) (hz : z = -(hdSize k : Int)) (hn : n ≤ 300) : (offTree k n z w).ok ΦP eqJ B ρ (fun _ ρ' r => Leaf ΦP ρ ρ' res r) := by
  have hD := den_pkD (Φ := ΦP) hp
  have hDl : ((dataR ρ 0).length : Int) = (ρ 2).int - (ρ 1).int := data_len hp
  have f0 : 0 ≤ (ρ 1).int := hp.f0
  have ft : (ρ 1).int ≤ (ρ 2).int := hp.ft
  have tm : (ρ 2).int ≤ (ρ 0).list.length := hp.tm
  have hm := hp.m
  have hE : (T.den ΦP ρ (.fn (20 + k) (pkD 0) .nil .nil)).int = rdErr k (dataR ρ 0) := by rw [den_fn, sigW.rdErr k _ _ _ hk.1 hk.2, hD]; rfl
  have hF : (T.den ΦP ρ (.fn (10 + k) (pkD 0) .nil .nil)).list = rdRow k (dataR ρ 0) := by rw [den_fn, sigW.rdRow k _ _ _ hk.1 hk.2, hD]; rfl
  have hP : popErr (dataR ρ 0) (ρ 4).int = rdErr k (dataR ρ 0) := by rw [popErr, h0, if_pos (by omega), Int.toNat_natCast]
  refine ⟨by rw [eq_t, int_sub, int_len, den_var, den_var, hD]; exact hDl.symm, by rw [bytes_t, hD]; exact data_bytes hp, fun c => ?_, fun c => ?_⟩
  · rw [not_t, eq_f, hE] at c
    exact leaf_off_err hp hr hP c hE hn
  · rw [not_f, eq_t, hE] at c
    have c : rdErr k (dataR ρ 0) = 0 := c
    have hsz := rd_size c
    have hF1 : (T.den ΦP ρ (offF z)).int = (ρ 1).int + hdSize k := by rw [offF, int_sub, den_var, den_num, hz]; show (ρ 1).int - -(hdSize k : Int) = _; omega
    have hmx : (T.den ΦP ρ (.c2 .mx (.num z) (.num 0))).int = 0 := by show max z 0 = 0; omega
    have hE1 : (T.den ΦP ρ (offE z)).int = (ρ 1).int + hdSize k := by
      rw [offE, int_wr, int_add, hF1, hmx, Int.add_zero]
      exact wrap_is (by simp only [kmin]; omega) (by simp only [kmax]; omega)
    refine ⟨fun d => ?_, fun d => ⟨by rw [le_t, hE1, hF1]; omega, by rw [le_t, hE1, int_len, den_var]; omega, ?_⟩⟩
    · exfalso
      rw [lt_t, int_sub, int_sub, den_var, den_var, den_num, den_num] at d
      replace d : z < 0 - ((ρ 2).int - (ρ 1).int) := d
      omega
    · rw [hr.good (hP.trans c)]
      have hH : (T.den ΦP ρ offHead).list = headOf k (rdRow k (dataR ρ 0)) := by
        show popHead (T.den ΦP ρ (pkD 0)).list (ρ 4).int = _
        rw [popHead, h0, Int.toNat_natCast, hD]
      have hN : (T.den ΦP ρ offN).int = hdSize k := by show (hdSize (ρ 4).int.toNat : Int) = _; rw [h0, Int.toNat_natCast]
      obtain ⟨i, hi⟩ := Int.eq_ofNat_of_zero_le (show 0 ≤ (ρ 1).int + hdSize k by omega)
      refine ⟨⟨?_, ⟨rfl, rfl⟩, trivial⟩, ⟨rfl, rfl, ⟨rfl, ⟨rfl, rfl, rfl, rfl, rfl⟩, ⟨rfl, ?_⟩, ⟨rfl, rfl⟩, ⟨rfl, rfl⟩, trivial⟩, rfl, rfl, ⟨rfl, ?_⟩, trivial⟩, hn⟩
      · exact cells_eqL hH kHead _ _ 0 (cells_head hk h0 hF) (fun i _ => by rw [Nat.zero_add])
      · rw [hF1, int_add, hN, den_var]
      · show splL (ρ 0).list (T.den ΦP ρ (offF z)).int (List.replicate ((T.den ΦP ρ (offE z)).int - (T.den ΦP ρ (offF z)).int).toNat [(0 : Int)]).flatten = _
        rw [hF1, hE1, Int.sub_self, hi]
        exact spl_none (by omega)
end
end Go.Proofs.YtfhjlimdakphcaaGreat.Sx
/- Sx: what Go function 22 does, as a tree of conditions (printed by a tool of this claim, proved by the kernel). Conditions: none. -/
set_option maxRecDepth 100000
namespace Go.Proofs.YtfhjlimdakphcaaGreat.Sx
open Go
def treeWsSize : M (V × St) :=
(.split (.c2 .lt (.var 0) (.num 1))
 (.ret (.t [.c (.i .i64 (.num 0)), .c (.i .i64 (.num 120))], ⟨[], [], 2, 1, []⟩))
 (.split (.c2 .lt (.num 6) (.var 0))
  (.ret (.t [.c (.i .i64 (.num 0)), .c (.i .i64 (.num 120))], ⟨[], [], 2, 1, []⟩))
  (.split (.c2 .eq (.var 0) (.num 1))
   (.ret (.t [.c (.i .i64 (.num 14)), .c (.i .i64 (.num 0))], ⟨[], [], 3, 1, []⟩))
   (.split (.c2 .eq (.var 0) (.num 2))
    (.ret (.t [.c (.i .i64 (.num 4)), .c (.i .i64 (.num 0))], ⟨[], [], 3, 1, []⟩))
    (.split (.c2 .eq (.var 0) (.num 3))
     (.ret (.t [.c (.i .i64 (.num 20)), .c (.i .i64 (.num 0))], ⟨[], [], 3, 1, []⟩))
     (.split (.c2 .eq (.var 0) (.num 4))
      (.ret (.t [.c (.i .i64 (.num 40)), .c (.i .i64 (.num 0))], ⟨[], [], 3, 1, []⟩))
      (.split (.c2 .eq (.var 0) (.num 5))
       (.ret (.t [.c (.i .i64 (.num 20)), .c (.i .i64 (.num 0))], ⟨[], [], 3, 1, []⟩))
       (.split (.c2 .eq (.var 0) (.num 6))
        (.ret (.t [.c (.i .i64 (.num 8)), .c (.i .i64 (.num 0))], ⟨[], [], 3, 1, []⟩))
        (.fail 11)))))))))
theorem treeWsSize_is : funTree (ctxN Go.Proofs.Tryz.prog annsWr [] 8) annsWr 22 tSize.vs tSize.bs tSize.n (preF tSize.res) = treeWsSize := by kernel_rfl
end Go.Proofs.YtfhjlimdakphcaaGreat.Sx
/- Sx: what Go function 44 does, as a tree of conditions (printed by a tool of this claim, proved by the kernel). Conditions: none. -/
set_option maxRecDepth 100000
namespace Go.Proofs.YtfhjlimdakphcaaGreat.Sx
open Go
def treeWsSizeR : M (V × St) :=
(.split (.c2 .lt (.num 6) (.var 0))
 (.ret (.t [.c (.i .i64 (.num 0)), .c (.i .i64 (.num 120))], ⟨[], [], 1, 1, []⟩))
 (.split (.c2 .eq (.c2 .rd (.cons (.num 0) (.cons (.num 14) (.cons (.num 4) (.cons (.num 20) (.cons (.num 40) (.cons (.num 20) (.cons (.num 8) .nil))))))) (.var 0)) (.num 0))
  (.ret (.t [.c (.i .i64 (.num 0)), .c (.i .i64 (.num 120))], ⟨[], [], 1, 1, []⟩))
  (.ret (.t [.c (.i .i64 (.c2 .rd (.cons (.num 0) (.cons (.num 14) (.cons (.num 4) (.cons (.num 20) (.cons (.num 40) (.cons (.num 20) (.cons (.num 8) .nil))))))) (.var 0))), .c (.i .i64 (.num 0))], ⟨[], [], 1, 1, []⟩))))
theorem treeWsSizeR_is : funTree (ctxN Go.Proofs.Tryz.prog annsWr [] 8) annsWr 44 tSize.vs tSize.bs tSize.n (preF tSize.res) = treeWsSizeR := by kernel_rfl
end Go.Proofs.YtfhjlimdakphcaaGreat.Sx
/- Sx: what Go function 21 does, as a tree of conditions (printed by a tool of this claim, proved by the kernel). Conditions: none. -/
set_option maxRecDepth 100000
namespace Go.Proofs.YtfhjlimdakphcaaGreat.Sx
open Go
def xWcChk0 : T := (.c2 .and (.c2 .eq (.num 0) (.var 65)) (.c2 .and (.c2 .eq (.num 0) (.var 66)) (.c2 .and (.c2 .eq (.num 0) (.var 67)) (.c2 .and (.c2 .eq (.num 0) (.var 68)) (.c2 .and (.c2 .eq (.num 0) (.var 69)) (.c2 .and (.c2 .eq (.num 0) (.var 70)) (.c2 .and (.c2 .eq (.num 0) (.var 71)) (.c2 .eq (.num 0) (.var 72)))))))))
def xWcChk1 : T := (.c2 .and (.c2 .eq (.num 0) (.var 29)) (.c2 .and (.c2 .eq (.num 0) (.var 30)) (.c2 .and (.c2 .eq (.num 0) (.var 31)) (.c2 .and (.c2 .eq (.num 0) (.var 32)) (.c2 .and (.c2 .eq (.num 0) (.var 33)) (.c2 .and (.c2 .eq (.num 0) (.var 34)) (.c2 .and (.c2 .eq (.num 0) (.var 35)) (.c2 .and (.c2 .eq (.num 0) (.var 36)) (.c2 .and (.c2 .eq (.num 0) (.var 37)) (.c2 .and (.c2 .eq (.num 0) (.var 38)) (.c2 .and (.c2 .eq (.num 0) (.var 39)) (.c2 .and (.c2 .eq (.num 0) (.var 40)) (.c2 .and (.c2 .eq (.num 0) (.var 41)) (.c2 .and (.c2 .eq (.num 0) (.var 42)) (.c2 .and (.c2 .eq (.num 0) (.var 43)) (.c2 .and (.c2 .eq (.num 0) (.var 44)) (.c2 .and (.c2 .eq (.num 0) (.var 45)) (.c2 .and (.c2 .eq (.num 0) (.var 46)) (.c2 .and (.c2 .eq (.num 0) (.var 47)) (.c2 .and (.c2 .eq (.num 0) (.var 48)) (.c2 .and (.c2 .eq (.num 0) (.var 49)) (.c2 .and (.c2 .eq (.num 0) (.var 50)) (.c2 .and (.c2 .eq (.num 0) (.var 51)) (.c2 .and (.c2 .eq (.num 0) (.var 52)) (.c2 .and (.c2 .eq (.num 0) (.var 53)) (.c2 .and (.c2 .eq (.num 0) (.var 54)) (.c2 .and (.c2 .eq (.num 0) (.var 55)) (.c2 .and (.c2 .eq (.num 0) (.var 56)) (.c2 .and (.c2 .eq (.num 0) (.var 57)) (.c2 .and (.c2 .eq (.num 0) (.var 58)) (.c2 .and (.c2 .eq (.num 0) (.var 59)) (.c2 .and (.c2 .eq (.num 0) (.var 60)) (.c2 .and (.c2 .eq (.num 0) (.var 61)) (.c2 .and (.c2 .eq (.num 0) (.var 62)) (.c2 .and (.c2 .eq (.num 0) (.var 63)) (.c2 .and (.c2 .eq (.num 0) (.var 64)) xWcChk0))))))))))))))))))))))))))))))))))))
def xWcChk2 : T := (.c2 .and (.c2 .eq (.num 0) (.var 17)) (.c2 .and (.c2 .eq (.num 0) (.var 18)) (.c2 .and (.c2 .eq (.num 0) (.var 19)) (.c2 .and (.c2 .eq (.num 0) (.var 20)) (.c2 .and (.c2 .eq (.num 0) (.var 21)) (.c2 .and (.c2 .eq (.num 0) (.var 22)) (.c2 .and (.c2 .eq (.num 0) (.var 23)) (.c2 .and (.c2 .eq (.num 0) (.var 24)) (.c2 .and (.c2 .eq (.num 0) (.var 25)) (.c2 .and (.c2 .eq (.num 0) (.var 26)) (.c2 .and (.c2 .eq (.num 0) (.var 27)) (.c2 .and (.c2 .eq (.num 0) (.var 28)) xWcChk1))))))))))))
def treeWcChk : M (V × St) :=
(.split (.c2 .lt (.var 0) (.num 1))
 (.ret (.w (.c (.i .i64 (.num 120))), ⟨[], [], 6, 73, []⟩))
 (.split (.c2 .lt (.num 6) (.var 0))
  (.ret (.w (.c (.i .i64 (.num 120))), ⟨[], [], 6, 73, []⟩))
  (.split (.c2 .eq (.var 0) (.num 1))
   (.split (.c1 .not (.c2 .and (.c2 .eq (.num 0) (.var 14)) (.c2 .and (.c2 .eq (.num 0) (.var 15)) (.c2 .and (.c2 .eq (.num 0) (.var 16)) xWcChk2))))
    (.ret (.w (.c (.i .i64 (.num 120))), ⟨[], [], 10, 73, []⟩))
    (.ret (.w (.c (.i .i64 (.num 0))), ⟨[], [], 12, 73, []⟩)))
   (.split (.c2 .eq (.var 0) (.num 2))
    (.split (.c1 .not (.c2 .and (.c2 .eq (.num 0) (.var 1)) (.c2 .and (.c2 .eq (.num 0) (.var 2)) (.c2 .and (.c2 .eq (.num 0) (.var 3)) (.c2 .and (.c2 .eq (.num 0) (.var 4)) (.c2 .and (.c2 .eq (.num 0) (.var 5)) (.c2 .and (.c2 .eq (.num 0) (.var 6)) (.c2 .and (.c2 .eq (.num 0) (.var 7)) (.c2 .and (.c2 .eq (.num 0) (.var 8)) (.c2 .and (.c2 .eq (.num 0) (.var 9)) (.c2 .and (.c2 .eq (.num 0) (.var 10)) (.c2 .and (.c2 .eq (.num 0) (.var 11)) (.c2 .and (.c2 .eq (.num 0) (.var 12)) (.c2 .and (.c2 .eq (.num 0) (.var 13)) xWcChk2))))))))))))))
     (.ret (.w (.c (.i .i64 (.num 120))), ⟨[], [], 10, 73, []⟩))
     (.split (.c2 .lt (.num 7) (.var 14))
      (.ret (.w (.c (.i .i64 (.num 60))), ⟨[], [], 12, 73, []⟩))
      (.split (.c2 .lt (.num 4095) (.var 15))
       (.ret (.w (.c (.i .i64 (.num 60))), ⟨[], [], 12, 73, []⟩))
       (.ret (.w (.c (.i .i64 (.num 0))), ⟨[], [], 12, 73, []⟩)))))
    (.split (.c2 .eq (.var 0) (.num 3))
     (.split (.c1 .not (.c2 .and (.c2 .eq (.num 0) (.var 1)) (.c2 .and (.c2 .eq (.num 0) (.var 2)) (.c2 .and (.c2 .eq (.num 0) (.var 3)) (.c2 .and (.c2 .eq (.num 0) (.var 4)) (.c2 .and (.c2 .eq (.num 0) (.var 5)) (.c2 .and (.c2 .eq (.num 0) (.var 6)) (.c2 .and (.c2 .eq (.num 0) (.var 7)) (.c2 .and (.c2 .eq (.num 0) (.var 8)) (.c2 .and (.c2 .eq (.num 0) (.var 9)) (.c2 .and (.c2 .eq (.num 0) (.var 10)) (.c2 .and (.c2 .eq (.num 0) (.var 11)) (.c2 .and (.c2 .eq (.num 0) (.var 12)) (.c2 .and (.c2 .eq (.num 0) (.var 13)) (.c2 .and (.c2 .eq (.num 0) (.var 14)) (.c2 .and (.c2 .eq (.num 0) (.var 15)) (.c2 .and (.c2 .eq (.num 0) (.var 16)) xWcChk1)))))))))))))))))
      (.ret (.w (.c (.i .i64 (.num 120))), ⟨[], [], 10, 73, []⟩))
      (.ret (.w (.c (.i .i64 (.num 0))), ⟨[], [], 12, 73, []⟩)))
     (.split (.c2 .eq (.var 0) (.num 4))
      (.split (.c1 .not (.c2 .and (.c2 .eq (.num 0) (.var 1)) (.c2 .and (.c2 .eq (.num 0) (.var 2)) (.c2 .and (.c2 .eq (.num 0) (.var 3)) (.c2 .and (.c2 .eq (.num 0) (.var 4)) (.c2 .and (.c2 .eq (.num 0) (.var 5)) (.c2 .and (.c2 .eq (.num 0) (.var 6)) (.c2 .and (.c2 .eq (.num 0) (.var 7)) (.c2 .and (.c2 .eq (.num 0) (.var 8)) (.c2 .and (.c2 .eq (.num 0) (.var 9)) (.c2 .and (.c2 .eq (.num 0) (.var 10)) (.c2 .and (.c2 .eq (.num 0) (.var 11)) (.c2 .and (.c2 .eq (.num 0) (.var 12)) (.c2 .and (.c2 .eq (.num 0) (.var 13)) (.c2 .and (.c2 .eq (.num 0) (.var 14)) (.c2 .and (.c2 .eq (.num 0) (.var 15)) (.c2 .and (.c2 .eq (.num 0) (.var 16)) (.c2 .and (.c2 .eq (.num 0) (.var 17)) (.c2 .and (.c2 .eq (.num 0) (.var 18)) (.c2 .and (.c2 .eq (.num 0) (.var 19)) (.c2 .and (.c2 .eq (.num 0) (.var 20)) (.c2 .and (.c2 .eq (.num 0) (.var 21)) (.c2 .and (.c2 .eq (.num 0) (.var 22)) (.c2 .and (.c2 .eq (.num 0) (.var 23)) (.c2 .and (.c2 .eq (.num 0) (.var 24)) (.c2 .and (.c2 .eq (.num 0) (.var 25)) (.c2 .and (.c2 .eq (.num 0) (.var 26)) (.c2 .and (.c2 .eq (.num 0) (.var 27)) (.c2 .and (.c2 .eq (.num 0) (.var 28)) xWcChk0)))))))))))))))))))))))))))))
       (.ret (.w (.c (.i .i64 (.num 120))), ⟨[], [], 10, 73, []⟩))
       (.split (.c2 .le (.num 1048576) (.var 30))
        (.ret (.w (.c (.i .i64 (.num 80))), ⟨[], [], 12, 73, []⟩))
        (.ret (.w (.c (.i .i64 (.num 0))), ⟨[], [], 12, 73, []⟩))))
      (.split (.c2 .eq (.var 0) (.num 5))
       (.split (.c1 .not (.c2 .and (.c2 .eq (.num 0) (.var 1)) (.c2 .and (.c2 .eq (.num 0) (.var 2)) (.c2 .and (.c2 .eq (.num 0) (.var 3)) (.c2 .and (.c2 .eq (.num 0) (.var 4)) (.c2 .and (.c2 .eq (.num 0) (.var 5)) (.c2 .and (.c2 .eq (.num 0) (.var 6)) (.c2 .and (.c2 .eq (.num 0) (.var 7)) (.c2 .and (.c2 .eq (.num 0) (.var 8)) (.c2 .and (.c2 .eq (.num 0) (.var 9)) (.c2 .and (.c2 .eq (.num 0) (.var 10)) (.c2 .and (.c2 .eq (.num 0) (.var 11)) (.c2 .and (.c2 .eq (.num 0) (.var 12)) (.c2 .and (.c2 .eq (.num 0) (.var 13)) (.c2 .and (.c2 .eq (.num 0) (.var 14)) (.c2 .and (.c2 .eq (.num 0) (.var 15)) (.c2 .and (.c2 .eq (.num 0) (.var 16)) (.c2 .and (.c2 .eq (.num 0) (.var 17)) (.c2 .and (.c2 .eq (.num 0) (.var 18)) (.c2 .and (.c2 .eq (.num 0) (.var 19)) (.c2 .and (.c2 .eq (.num 0) (.var 20)) (.c2 .and (.c2 .eq (.num 0) (.var 21)) (.c2 .and (.c2 .eq (.num 0) (.var 22)) (.c2 .and (.c2 .eq (.num 0) (.var 23)) (.c2 .and (.c2 .eq (.num 0) (.var 24)) (.c2 .and (.c2 .eq (.num 0) (.var 25)) (.c2 .and (.c2 .eq (.num 0) (.var 26)) (.c2 .and (.c2 .eq (.num 0) (.var 27)) (.c2 .and (.c2 .eq (.num 0) (.var 28)) (.c2 .and (.c2 .eq (.num 0) (.var 29)) (.c2 .and (.c2 .eq (.num 0) (.var 30)) (.c2 .and (.c2 .eq (.num 0) (.var 31)) (.c2 .and (.c2 .eq (.num 0) (.var 32)) (.c2 .and (.c2 .eq (.num 0) (.var 33)) (.c2 .and (.c2 .eq (.num 0) (.var 34)) (.c2 .and (.c2 .eq (.num 0) (.var 35)) (.c2 .and (.c2 .eq (.num 0) (.var 36)) (.c2 .and (.c2 .eq (.num 0) (.var 37)) (.c2 .and (.c2 .eq (.num 0) (.var 38)) (.c2 .and (.c2 .eq (.num 0) (.var 39)) (.c2 .and (.c2 .eq (.num 0) (.var 40)) (.c2 .and (.c2 .eq (.num 0) (.var 41)) (.c2 .and (.c2 .eq (.num 0) (.var 42)) (.c2 .and (.c2 .eq (.num 0) (.var 43)) (.c2 .and (.c2 .eq (.num 0) (.var 44)) (.c2 .and (.c2 .eq (.num 0) (.var 45)) (.c2 .and (.c2 .eq (.num 0) (.var 46)) (.c2 .and (.c2 .eq (.num 0) (.var 47)) (.c2 .and (.c2 .eq (.num 0) (.var 48)) (.c2 .and (.c2 .eq (.num 0) (.var 49)) (.c2 .and (.c2 .eq (.num 0) (.var 50)) (.c2 .and (.c2 .eq (.num 0) (.var 51)) (.c2 .and (.c2 .eq (.num 0) (.var 52)) (.c2 .and (.c2 .eq (.num 0) (.var 53)) (.c2 .and (.c2 .eq (.num 0) (.var 54)) (.c2 .and (.c2 .eq (.num 0) (.var 55)) (.c2 .and (.c2 .eq (.num 0) (.var 56)) (.c2 .and (.c2 .eq (.num 0) (.var 57)) (.c2 .and (.c2 .eq (.num 0) (.var 58)) (.c2 .and (.c2 .eq (.num 0) (.var 59)) (.c2 .and (.c2 .eq (.num 0) (.var 60)) (.c2 .and (.c2 .eq (.num 0) (.var 61)) (.c2 .and (.c2 .eq (.num 0) (.var 62)) (.c2 .and (.c2 .eq (.num 0) (.var 63)) (.c2 .and (.c2 .eq (.num 0) (.var 64)) (.c2 .and (.c2 .eq (.num 0) (.var 71)) (.c2 .eq (.num 0) (.var 72))))))))))))))))))))))))))))))))))))))))))))))))))))))))))))))))))))
        (.ret (.w (.c (.i .i64 (.num 120))), ⟨[], [], 10, 73, []⟩))
        (.split (.c2 .le (.num 64) (.var 69))
         (.ret (.w (.c (.i .i64 (.num 90))), ⟨[], [], 12, 73, []⟩))
         (.ret (.w (.c (.i .i64 (.num 0))), ⟨[], [], 12, 73, []⟩))))
       (.split (.c2 .eq (.var 0) (.num 6))
        (.split (.c1 .not (.c2 .and (.c2 .eq (.num 0) (.var 1)) (.c2 .and (.c2 .eq (.num 0) (.var 2)) (.c2 .and (.c2 .eq (.num 0) (.var 3)) (.c2 .and (.c2 .eq (.num 0) (.var 4)) (.c2 .and (.c2 .eq (.num 0) (.var 5)) (.c2 .and (.c2 .eq (.num 0) (.var 6)) (.c2 .and (.c2 .eq (.num 0) (.var 7)) (.c2 .and (.c2 .eq (.num 0) (.var 8)) (.c2 .and (.c2 .eq (.num 0) (.var 9)) (.c2 .and (.c2 .eq (.num 0) (.var 10)) (.c2 .and (.c2 .eq (.num 0) (.var 11)) (.c2 .and (.c2 .eq (.num 0) (.var 12)) (.c2 .and (.c2 .eq (.num 0) (.var 13)) (.c2 .and (.c2 .eq (.num 0) (.var 14)) (.c2 .and (.c2 .eq (.num 0) (.var 15)) (.c2 .and (.c2 .eq (.num 0) (.var 16)) (.c2 .and (.c2 .eq (.num 0) (.var 17)) (.c2 .and (.c2 .eq (.num 0) (.var 18)) (.c2 .and (.c2 .eq (.num 0) (.var 19)) (.c2 .and (.c2 .eq (.num 0) (.var 20)) (.c2 .and (.c2 .eq (.num 0) (.var 21)) (.c2 .and (.c2 .eq (.num 0) (.var 22)) (.c2 .and (.c2 .eq (.num 0) (.var 23)) (.c2 .and (.c2 .eq (.num 0) (.var 24)) (.c2 .and (.c2 .eq (.num 0) (.var 25)) (.c2 .and (.c2 .eq (.num 0) (.var 26)) (.c2 .and (.c2 .eq (.num 0) (.var 27)) (.c2 .and (.c2 .eq (.num 0) (.var 28)) (.c2 .and (.c2 .eq (.num 0) (.var 29)) (.c2 .and (.c2 .eq (.num 0) (.var 30)) (.c2 .and (.c2 .eq (.num 0) (.var 31)) (.c2 .and (.c2 .eq (.num 0) (.var 32)) (.c2 .and (.c2 .eq (.num 0) (.var 33)) (.c2 .and (.c2 .eq (.num 0) (.var 34)) (.c2 .and (.c2 .eq (.num 0) (.var 35)) (.c2 .and (.c2 .eq (.num 0) (.var 36)) (.c2 .and (.c2 .eq (.num 0) (.var 37)) (.c2 .and (.c2 .eq (.num 0) (.var 38)) (.c2 .and (.c2 .eq (.num 0) (.var 39)) (.c2 .and (.c2 .eq (.num 0) (.var 40)) (.c2 .and (.c2 .eq (.num 0) (.var 41)) (.c2 .and (.c2 .eq (.num 0) (.var 42)) (.c2 .and (.c2 .eq (.num 0) (.var 43)) (.c2 .and (.c2 .eq (.num 0) (.var 44)) (.c2 .and (.c2 .eq (.num 0) (.var 45)) (.c2 .and (.c2 .eq (.num 0) (.var 46)) (.c2 .and (.c2 .eq (.num 0) (.var 47)) (.c2 .and (.c2 .eq (.num 0) (.var 48)) (.c2 .and (.c2 .eq (.num 0) (.var 49)) (.c2 .and (.c2 .eq (.num 0) (.var 50)) (.c2 .and (.c2 .eq (.num 0) (.var 51)) (.c2 .and (.c2 .eq (.num 0) (.var 52)) (.c2 .and (.c2 .eq (.num 0) (.var 53)) (.c2 .and (.c2 .eq (.num 0) (.var 54)) (.c2 .and (.c2 .eq (.num 0) (.var 55)) (.c2 .and (.c2 .eq (.num 0) (.var 56)) (.c2 .and (.c2 .eq (.num 0) (.var 57)) (.c2 .and (.c2 .eq (.num 0) (.var 58)) (.c2 .and (.c2 .eq (.num 0) (.var 59)) (.c2 .and (.c2 .eq (.num 0) (.var 60)) (.c2 .and (.c2 .eq (.num 0) (.var 61)) (.c2 .and (.c2 .eq (.num 0) (.var 62)) (.c2 .and (.c2 .eq (.num 0) (.var 63)) (.c2 .and (.c2 .eq (.num 0) (.var 64)) (.c2 .and (.c2 .eq (.num 0) (.var 65)) (.c2 .and (.c2 .eq (.num 0) (.var 66)) (.c2 .and (.c2 .eq (.num 0) (.var 67)) (.c2 .and (.c2 .eq (.num 0) (.var 68)) (.c2 .and (.c2 .eq (.num 0) (.var 69)) (.c2 .eq (.num 0) (.var 70))))))))))))))))))))))))))))))))))))))))))))))))))))))))))))))))))))))))
         (.ret (.w (.c (.i .i64 (.num 120))), ⟨[], [], 10, 73, []⟩))
         (.ret (.w (.c (.i .i64 (.num 0))), ⟨[], [], 12, 73, []⟩)))
        (.fail 11)))))))))
theorem treeWcChk_is : funTree (ctxN Go.Proofs.Tryz.prog annsWr [] 8) annsWr 21 tCheck.vs tCheck.bs tCheck.n (preF tCheck.res) = treeWcChk := by kernel_rfl
end Go.Proofs.YtfhjlimdakphcaaGreat.Sx
/- Sx: what Go function 36 does, as a tree of conditions (printed by a tool of this claim, proved by the kernel). Conditions: none. -/
set_option maxRecDepth 100000
namespace Go.Proofs.YtfhjlimdakphcaaGreat.Sx
open Go
def xWcChkR0 : T := (.c2 .and (.c2 .eq (.num 0) (.var 65)) (.c2 .and (.c2 .eq (.num 0) (.var 66)) (.c2 .and (.c2 .eq (.num 0) (.var 67)) (.c2 .and (.c2 .eq (.num 0) (.var 68)) (.c2 .and (.c2 .eq (.num 0) (.var 69)) (.c2 .and (.c2 .eq (.num 0) (.var 70)) (.c2 .and (.c2 .eq (.num 0) (.var 71)) (.c2 .eq (.num 0) (.var 72)))))))))
def xWcChkR1 : T := (.c2 .and (.c2 .eq (.num 0) (.var 29)) (.c2 .and (.c2 .eq (.num 0) (.var 30)) (.c2 .and (.c2 .eq (.num 0) (.var 31)) (.c2 .and (.c2 .eq (.num 0) (.var 32)) (.c2 .and (.c2 .eq (.num 0) (.var 33)) (.c2 .and (.c2 .eq (.num 0) (.var 34)) (.c2 .and (.c2 .eq (.num 0) (.var 35)) (.c2 .and (.c2 .eq (.num 0) (.var 36)) (.c2 .and (.c2 .eq (.num 0) (.var 37)) (.c2 .and (.c2 .eq (.num 0) (.var 38)) (.c2 .and (.c2 .eq (.num 0) (.var 39)) (.c2 .and (.c2 .eq (.num 0) (.var 40)) (.c2 .and (.c2 .eq (.num 0) (.var 41)) (.c2 .and (.c2 .eq (.num 0) (.var 42)) (.c2 .and (.c2 .eq (.num 0) (.var 43)) (.c2 .and (.c2 .eq (.num 0) (.var 44)) (.c2 .and (.c2 .eq (.num 0) (.var 45)) (.c2 .and (.c2 .eq (.num 0) (.var 46)) (.c2 .and (.c2 .eq (.num 0) (.var 47)) (.c2 .and (.c2 .eq (.num 0) (.var 48)) (.c2 .and (.c2 .eq (.num 0) (.var 49)) (.c2 .and (.c2 .eq (.num 0) (.var 50)) (.c2 .and (.c2 .eq (.num 0) (.var 51)) (.c2 .and (.c2 .eq (.num 0) (.var 52)) (.c2 .and (.c2 .eq (.num 0) (.var 53)) (.c2 .and (.c2 .eq (.num 0) (.var 54)) (.c2 .and (.c2 .eq (.num 0) (.var 55)) (.c2 .and (.c2 .eq (.num 0) (.var 56)) (.c2 .and (.c2 .eq (.num 0) (.var 57)) (.c2 .and (.c2 .eq (.num 0) (.var 58)) (.c2 .and (.c2 .eq (.num 0) (.var 59)) (.c2 .and (.c2 .eq (.num 0) (.var 60)) (.c2 .and (.c2 .eq (.num 0) (.var 61)) (.c2 .and (.c2 .eq (.num 0) (.var 62)) (.c2 .and (.c2 .eq (.num 0) (.var 63)) (.c2 .and (.c2 .eq (.num 0) (.var 64)) xWcChkR0))))))))))))))))))))))))))))))))))))
def xWcChkR2 : T := (.c2 .and (.c2 .eq (.num 0) (.var 17)) (.c2 .and (.c2 .eq (.num 0) (.var 18)) (.c2 .and (.c2 .eq (.num 0) (.var 19)) (.c2 .and (.c2 .eq (.num 0) (.var 20)) (.c2 .and (.c2 .eq (.num 0) (.var 21)) (.c2 .and (.c2 .eq (.num 0) (.var 22)) (.c2 .and (.c2 .eq (.num 0) (.var 23)) (.c2 .and (.c2 .eq (.num 0) (.var 24)) (.c2 .and (.c2 .eq (.num 0) (.var 25)) (.c2 .and (.c2 .eq (.num 0) (.var 26)) (.c2 .and (.c2 .eq (.num 0) (.var 27)) (.c2 .and (.c2 .eq (.num 0) (.var 28)) xWcChkR1))))))))))))
def treeWcChkR : M (V × St) :=
(.split (.c2 .lt (.num 6) (.var 0))
 (.ret (.w (.c (.i .i64 (.num 120))), ⟨[], [], 2, 73, []⟩))
 (.split (.c2 .eq (.c2 .rd (.cons (.num 0) (.cons (.num 14) (.cons (.num 4) (.cons (.num 20) (.cons (.num 40) (.cons (.num 20) (.cons (.num 8) .nil))))))) (.var 0)) (.num 0))
  (.ret (.w (.c (.i .i64 (.num 120))), ⟨[], [], 2, 73, []⟩))
  (.split (.c2 .eq (.var 0) (.num 1))
   (.split (.c1 .not (.c2 .and (.c2 .eq (.num 0) (.var 14)) (.c2 .and (.c2 .eq (.num 0) (.var 15)) (.c2 .and (.c2 .eq (.num 0) (.var 16)) xWcChkR2))))
    (.ret (.w (.c (.i .i64 (.num 120))), ⟨[], [], 5, 73, []⟩))
    (.ret (.w (.c (.i .i64 (.num 0))), ⟨[], [], 5, 73, []⟩)))
   (.split (.c2 .eq (.var 0) (.num 2))
    (.split (.c1 .not (.c2 .and (.c2 .eq (.num 0) (.var 1)) (.c2 .and (.c2 .eq (.num 0) (.var 2)) (.c2 .and (.c2 .eq (.num 0) (.var 3)) (.c2 .and (.c2 .eq (.num 0) (.var 4)) (.c2 .and (.c2 .eq (.num 0) (.var 5)) (.c2 .and (.c2 .eq (.num 0) (.var 6)) (.c2 .and (.c2 .eq (.num 0) (.var 7)) (.c2 .and (.c2 .eq (.num 0) (.var 8)) (.c2 .and (.c2 .eq (.num 0) (.var 9)) (.c2 .and (.c2 .eq (.num 0) (.var 10)) (.c2 .and (.c2 .eq (.num 0) (.var 11)) (.c2 .and (.c2 .eq (.num 0) (.var 12)) (.c2 .and (.c2 .eq (.num 0) (.var 13)) xWcChkR2))))))))))))))
     (.ret (.w (.c (.i .i64 (.num 120))), ⟨[], [], 5, 73, []⟩))
     (.split (.c2 .lt (.num 7) (.var 14))
      (.ret (.w (.c (.i .i64 (.num 60))), ⟨[], [], 6, 73, []⟩))
      (.split (.c2 .lt (.num 4095) (.var 15))
       (.ret (.w (.c (.i .i64 (.num 60))), ⟨[], [], 6, 73, []⟩))
       (.ret (.w (.c (.i .i64 (.num 0))), ⟨[], [], 6, 73, []⟩)))))
    (.split (.c2 .eq (.var 0) (.num 3))
     (.split (.c1 .not (.c2 .and (.c2 .eq (.num 0) (.var 1)) (.c2 .and (.c2 .eq (.num 0) (.var 2)) (.c2 .and (.c2 .eq (.num 0) (.var 3)) (.c2 .and (.c2 .eq (.num 0) (.var 4)) (.c2 .and (.c2 .eq (.num 0) (.var 5)) (.c2 .and (.c2 .eq (.num 0) (.var 6)) (.c2 .and (.c2 .eq (.num 0) (.var 7)) (.c2 .and (.c2 .eq (.num 0) (.var 8)) (.c2 .and (.c2 .eq (.num 0) (.var 9)) (.c2 .and (.c2 .eq (.num 0) (.var 10)) (.c2 .and (.c2 .eq (.num 0) (.var 11)) (.c2 .and (.c2 .eq (.num 0) (.var 12)) (.c2 .and (.c2 .eq (.num 0) (.var 13)) (.c2 .and (.c2 .eq (.num 0) (.var 14)) (.c2 .and (.c2 .eq (.num 0) (.var 15)) (.c2 .and (.c2 .eq (.num 0) (.var 16)) xWcChkR1)))))))))))))))))
      (.ret (.w (.c (.i .i64 (.num 120))), ⟨[], [], 5, 73, []⟩))
      (.ret (.w (.c (.i .i64 (.num 0))), ⟨[], [], 5, 73, []⟩)))
     (.split (.c2 .eq (.var 0) (.num 4))
      (.split (.c1 .not (.c2 .and (.c2 .eq (.num 0) (.var 1)) (.c2 .and (.c2 .eq (.num 0) (.var 2)) (.c2 .and (.c2 .eq (.num 0) (.var 3)) (.c2 .and (.c2 .eq (.num 0) (.var 4)) (.c2 .and (.c2 .eq (.num 0) (.var 5)) (.c2 .and (.c2 .eq (.num 0) (.var 6)) (.c2 .and (.c2 .eq (.num 0) (.var 7)) (.c2 .and (.c2 .eq (.num 0) (.var 8)) (.c2 .and (.c2 .eq (.num 0) (.var 9)) (.c2 .and (.c2 .eq (.num 0) (.var 10)) (.c2 .and (.c2 .eq (.num 0) (.var 11)) (.c2 .and (.c2 .eq (.num 0) (.var 12)) (.c2 .and (.c2 .eq (.num 0) (.var 13)) (.c2 .and (.c2 .eq (.num 0) (.var 14)) (.c2 .and (.c2 .eq (.num 0) (.var 15)) (.c2 .and (.c2 .eq (.num 0) (.var 16)) (.c2 .and (.c2 .eq (.num 0) (.var 17)) (.c2 .and (.c2 .eq (.num 0) (.var 18)) (.c2 .and (.c2 .eq (.num 0) (.var 19)) (.c2 .and (.c2 .eq (.num 0) (.var 20)) (.c2 .and (.c2 .eq (.num 0) (.var 21)) (.c2 .and (.c2 .eq (.num 0) (.var 22)) (.c2 .and (.c2 .eq (.num 0) (.var 23)) (.c2 .and (.c2 .eq (.num 0) (.var 24)) (.c2 .and (.c2 .eq (.num 0) (.var 25)) (.c2 .and (.c2 .eq (.num 0) (.var 26)) (.c2 .and (.c2 .eq (.num 0) (.var 27)) (.c2 .and (.c2 .eq (.num 0) (.var 28)) xWcChkR0)))))))))))))))))))))))))))))
       (.ret (.w (.c (.i .i64 (.num 120))), ⟨[], [], 5, 73, []⟩))
       (.split (.c2 .le (.num 1048576) (.var 30))
        (.ret (.w (.c (.i .i64 (.num 80))), ⟨[], [], 6, 73, []⟩))
        (.ret (.w (.c (.i .i64 (.num 0))), ⟨[], [], 6, 73, []⟩))))
      (.split (.c2 .eq (.var 0) (.num 5))
       (.split (.c1 .not (.c2 .and (.c2 .eq (.num 0) (.var 1)) (.c2 .and (.c2 .eq (.num 0) (.var 2)) (.c2 .and (.c2 .eq (.num 0) (.var 3)) (.c2 .and (.c2 .eq (.num 0) (.var 4)) (.c2 .and (.c2 .eq (.num 0) (.var 5)) (.c2 .and (.c2 .eq (.num 0) (.var 6)) (.c2 .and (.c2 .eq (.num 0) (.var 7)) (.c2 .and (.c2 .eq (.num 0) (.var 8)) (.c2 .and (.c2 .eq (.num 0) (.var 9)) (.c2 .and (.c2 .eq (.num 0) (.var 10)) (.c2 .and (.c2 .eq (.num 0) (.var 11)) (.c2 .and (.c2 .eq (.num 0) (.var 12)) (.c2 .and (.c2 .eq (.num 0) (.var 13)) (.c2 .and (.c2 .eq (.num 0) (.var 14)) (.c2 .and (.c2 .eq (.num 0) (.var 15)) (.c2 .and (.c2 .eq (.num 0) (.var 16)) (.c2 .and (.c2 .eq (.num 0) (.var 17)) (.c2 .and (.c2 .eq (.num 0) (.var 18)) (.c2 .and (.c2 .eq (.num 0) (.var 19)) (.c2 .and (.c2 .eq (.num 0) (.var 20)) (.c2 .and (.c2 .eq (.num 0) (.var 21)) (.c2 .and (.c2 .eq (.num 0) (.var 22)) (.c2 .and (.c2 .eq (.num 0) (.var 23)) (.c2 .and (.c2 .eq (.num 0) (.var 24)) (.c2 .and (.c2 .eq (.num 0) (.var 25)) (.c2 .and (.c2 .eq (.num 0) (.var 26)) (.c2 .and (.c2 .eq (.num 0) (.var 27)) (.c2 .and (.c2 .eq (.num 0) (.var 28)) (.c2 .and (.c2 .eq (.num 0) (.var 29)) (.c2 .and (.c2 .eq (.num 0) (.var 30)) (.c2 .and (.c2 .eq (.num 0) (.var 31)) (.c2 .and (.c2 .eq (.num 0) (.var 32)) (.c2 .and (.c2 .eq (.num 0) (.var 33)) (.c2 .and (.c2 .eq (.num 0) (.var 34)) (.c2 .and (.c2 .eq (.num 0) (.var 35)) (.c2 .and (.c2 .eq (.num 0) (.var 36)) (.c2 .and (.c2 .eq (.num 0) (.var 37)) (.c2 .and (.c2 .eq (.num 0) (.var 38)) (.c2 .and (.c2 .eq (.num 0) (.var 39)) (.c2 .and (.c2 .eq (.num 0) (.var 40)) (.c2 .and (.c2 .eq (.num 0) (.var 41)) (.c2 .and (.c2 .eq (.num 0) (.var 42)) (.c2 .and (.c2 .eq (.num 0) (.var 43)) (.c2 .and (.c2 .eq (.num 0) (.var 44)) (.c2 .and (.c2 .eq (.num 0) (.var 45)) (.c2 .and (.c2 .eq (.num 0) (.var 46)) (.c2 .and (.c2 .eq (.num 0) (.var 47)) (.c2 .and (.c2 .eq (.num 0) (.var 48)) (.c2 .and (.c2 .eq (.num 0) (.var 49)) (.c2 .and (.c2 .eq (.num 0) (.var 50)) (.c2 .and (.c2 .eq (.num 0) (.var 51)) (.c2 .and (.c2 .eq (.num 0) (.var 52)) (.c2 .and (.c2 .eq (.num 0) (.var 53)) (.c2 .and (.c2 .eq (.num 0) (.var 54)) (.c2 .and (.c2 .eq (.num 0) (.var 55)) (.c2 .and (.c2 .eq (.num 0) (.var 56)) (.c2 .and (.c2 .eq (.num 0) (.var 57)) (.c2 .and (.c2 .eq (.num 0) (.var 58)) (.c2 .and (.c2 .eq (.num 0) (.var 59)) (.c2 .and (.c2 .eq (.num 0) (.var 60)) (.c2 .and (.c2 .eq (.num 0) (.var 61)) (.c2 .and (.c2 .eq (.num 0) (.var 62)) (.c2 .and (.c2 .eq (.num 0) (.var 63)) (.c2 .and (.c2 .eq (.num 0) (.var 64)) (.c2 .and (.c2 .eq (.num 0) (.var 71)) (.c2 .eq (.num 0) (.var 72))))))))))))))))))))))))))))))))))))))))))))))))))))))))))))))))))))
        (.ret (.w (.c (.i .i64 (.num 120))), ⟨[], [], 5, 73, []⟩))
        (.split (.c2 .le (.num 64) (.var 69))
         (.ret (.w (.c (.i .i64 (.num 90))), ⟨[], [], 6, 73, []⟩))
         (.ret (.w (.c (.i .i64 (.num 0))), ⟨[], [], 6, 73, []⟩))))
       (.split (.c2 .eq (.var 0) (.num 6))
        (.split (.c1 .not (.c2 .and (.c2 .eq (.num 0) (.var 1)) (.c2 .and (.c2 .eq (.num 0) (.var 2)) (.c2 .and (.c2 .eq (.num 0) (.var 3)) (.c2 .and (.c2 .eq (.num 0) (.var 4)) (.c2 .and (.c2 .eq (.num 0) (.var 5)) (.c2 .and (.c2 .eq (.num 0) (.var 6)) (.c2 .and (.c2 .eq (.num 0) (.var 7)) (.c2 .and (.c2 .eq (.num 0) (.var 8)) (.c2 .and (.c2 .eq (.num 0) (.var 9)) (.c2 .and (.c2 .eq (.num 0) (.var 10)) (.c2 .and (.c2 .eq (.num 0) (.var 11)) (.c2 .and (.c2 .eq (.num 0) (.var 12)) (.c2 .and (.c2 .eq (.num 0) (.var 13)) (.c2 .and (.c2 .eq (.num 0) (.var 14)) (.c2 .and (.c2 .eq (.num 0) (.var 15)) (.c2 .and (.c2 .eq (.num 0) (.var 16)) (.c2 .and (.c2 .eq (.num 0) (.var 17)) (.c2 .and (.c2 .eq (.num 0) (.var 18)) (.c2 .and (.c2 .eq (.num 0) (.var 19)) (.c2 .and (.c2 .eq (.num 0) (.var 20)) (.c2 .and (.c2 .eq (.num 0) (.var 21)) (.c2 .and (.c2 .eq (.num 0) (.var 22)) (.c2 .and (.c2 .eq (.num 0) (.var 23)) (.c2 .and (.c2 .eq (.num 0) (.var 24)) (.c2 .and (.c2 .eq (.num 0) (.var 25)) (.c2 .and (.c2 .eq (.num 0) (.var 26)) (.c2 .and (.c2 .eq (.num 0) (.var 27)) (.c2 .and (.c2 .eq (.num 0) (.var 28)) (.c2 .and (.c2 .eq (.num 0) (.var 29)) (.c2 .and (.c2 .eq (.num 0) (.var 30)) (.c2 .and (.c2 .eq (.num 0) (.var 31)) (.c2 .and (.c2 .eq (.num 0) (.var 32)) (.c2 .and (.c2 .eq (.num 0) (.var 33)) (.c2 .and (.c2 .eq (.num 0) (.var 34)) (.c2 .and (.c2 .eq (.num 0) (.var 35)) (.c2 .and (.c2 .eq (.num 0) (.var 36)) (.c2 .and (.c2 .eq (.num 0) (.var 37)) (.c2 .and (.c2 .eq (.num 0) (.var 38)) (.c2 .and (.c2 .eq (.num 0) (.var 39)) (.c2 .and (.c2 .eq (.num 0) (.var 40)) (.c2 .and (.c2 .eq (.num 0) (.var 41)) (.c2 .and (.c2 .eq (.num 0) (.var 42)) (.c2 .and (.c2 .eq (.num 0) (.var 43)) (.c2 .and (.c2 .eq (.num 0) (.var 44)) (.c2 .and (.c2 .eq (.num 0) (.var 45)) (.c2 .and (.c2 .eq (.num 0) (.var 46)) (.c2 .and (.c2 .eq (.num 0) (.var 47)) (.c2 .and (.c2 .eq (.num 0) (.var 48)) (.c2 .and (.c2 .eq (.num 0) (.var 49)) (.c2 .and (.c2 .eq (.num 0) (.var 50)) (.c2 .and (.c2 .eq (.num 0) (.var 51)) (.c2 .and (.c2 .eq (.num 0) (.var 52)) (.c2 .and (.c2 .eq (.num 0) (.var 53)) (.c2 .and (.c2 .eq (.num 0) (.var 54)) (.c2 .and (.c2 .eq (.num 0) (.var 55)) (.c2 .and (.c2 .eq (.num 0) (.var 56)) (.c2 .and (.c2 .eq (.num 0) (.var 57)) (.c2 .and (.c2 .eq (.num 0) (.var 58)) (.c2 .and (.c2 .eq (.num 0) (.var 59)) (.c2 .and (.c2 .eq (.num 0) (.var 60)) (.c2 .and (.c2 .eq (.num 0) (.var 61)) (.c2 .and (.c2 .eq (.num 0) (.var 62)) (.c2 .and (.c2 .eq (.num 0) (.var 63)) (.c2 .and (.c2 .eq (.num 0) (.var 64)) (.c2 .and (.c2 .eq (.num 0) (.var 65)) (.c2 .and (.c2 .eq (.num 0) (.var 66)) (.c2 .and (.c2 .eq (.num 0) (.var 67)) (.c2 .and (.c2 .eq (.num 0) (.var 68)) (.c2 .and (.c2 .eq (.num 0) (.var 69)) (.c2 .eq (.num 0) (.var 70))))))))))))))))))))))))))))))))))))))))))))))))))))))))))))))))))))))))
         (.ret (.w (.c (.i .i64 (.num 120))), ⟨[], [], 5, 73, []⟩))
         (.ret (.w (.c (.i .i64 (.num 0))), ⟨[], [], 5, 73, []⟩)))
        (.split (.c1 .not (.c2 .and (.c2 .eq (.num 0) (.var 1)) (.c2 .and (.c2 .eq (.num 0) (.var 2)) (.c2 .and (.c2 .eq (.num 0) (.var 3)) (.c2 .and (.c2 .eq (.num 0) (.var 4)) (.c2 .and (.c2 .eq (.num 0) (.var 5)) (.c2 .and (.c2 .eq (.num 0) (.var 6)) (.c2 .and (.c2 .eq (.num 0) (.var 7)) (.c2 .and (.c2 .eq (.num 0) (.var 8)) (.c2 .and (.c2 .eq (.num 0) (.var 9)) (.c2 .and (.c2 .eq (.num 0) (.var 10)) (.c2 .and (.c2 .eq (.num 0) (.var 11)) (.c2 .and (.c2 .eq (.num 0) (.var 12)) (.c2 .and (.c2 .eq (.num 0) (.var 13)) (.c2 .and (.c2 .eq (.num 0) (.var 14)) (.c2 .and (.c2 .eq (.num 0) (.var 15)) (.c2 .and (.c2 .eq (.num 0) (.var 16)) xWcChkR2)))))))))))))))))
         (.ret (.w (.c (.i .i64 (.num 120))), ⟨[], [], 5, 73, []⟩))
         (.ret (.w (.c (.i .i64 (.num 0))), ⟨[], [], 5, 73, []⟩)))))))))))
theorem treeWcChkR_is : funTree (ctxN Go.Proofs.Tryz.prog annsWr [] 8) annsWr 36 tCheck.vs tCheck.bs tCheck.n (preF tCheck.res) = treeWcChkR := by kernel_rfl
end Go.Proofs.YtfhjlimdakphcaaGreat.Sx
/- Sx: what Go function 41 does, as a tree of conditions (printed by a tool of this claim, proved by the kernel). Conditions: none. -/
set_option maxRecDepth 100000
namespace Go.Proofs.YtfhjlimdakphcaaGreat.Sx
open Go
def xWuPush0 : T := (.c2 .and (.c2 .eq (.num 0) (.var 65)) (.c2 .and (.c2 .eq (.num 0) (.var 66)) (.c2 .and (.c2 .eq (.num 0) (.var 67)) (.c2 .and (.c2 .eq (.num 0) (.var 68)) (.c2 .and (.c2 .eq (.num 0) (.var 69)) (.c2 .and (.c2 .eq (.num 0) (.var 70)) (.c2 .and (.c2 .eq (.num 0) (.var 71)) (.c2 .eq (.num 0) (.var 72)))))))))
def xWuPush1 : T := (.c2 .and (.c2 .eq (.num 0) (.var 29)) (.c2 .and (.c2 .eq (.num 0) (.var 30)) (.c2 .and (.c2 .eq (.num 0) (.var 31)) (.c2 .and (.c2 .eq (.num 0) (.var 32)) (.c2 .and (.c2 .eq (.num 0) (.var 33)) (.c2 .and (.c2 .eq (.num 0) (.var 34)) (.c2 .and (.c2 .eq (.num 0) (.var 35)) (.c2 .and (.c2 .eq (.num 0) (.var 36)) (.c2 .and (.c2 .eq (.num 0) (.var 37)) (.c2 .and (.c2 .eq (.num 0) (.var 38)) (.c2 .and (.c2 .eq (.num 0) (.var 39)) (.c2 .and (.c2 .eq (.num 0) (.var 40)) (.c2 .and (.c2 .eq (.num 0) (.var 41)) (.c2 .and (.c2 .eq (.num 0) (.var 42)) (.c2 .and (.c2 .eq (.num 0) (.var 43)) (.c2 .and (.c2 .eq (.num 0) (.var 44)) (.c2 .and (.c2 .eq (.num 0) (.var 45)) (.c2 .and (.c2 .eq (.num 0) (.var 46)) (.c2 .and (.c2 .eq (.num 0) (.var 47)) (.c2 .and (.c2 .eq (.num 0) (.var 48)) (.c2 .and (.c2 .eq (.num 0) (.var 49)) (.c2 .and (.c2 .eq (.num 0) (.var 50)) (.c2 .and (.c2 .eq (.num 0) (.var 51)) (.c2 .and (.c2 .eq (.num 0) (.var 52)) (.c2 .and (.c2 .eq (.num 0) (.var 53)) (.c2 .and (.c2 .eq (.num 0) (.var 54)) (.c2 .and (.c2 .eq (.num 0) (.var 55)) (.c2 .and (.c2 .eq (.num 0) (.var 56)) (.c2 .and (.c2 .eq (.num 0) (.var 57)) (.c2 .and (.c2 .eq (.num 0) (.var 58)) (.c2 .and (.c2 .eq (.num 0) (.var 59)) (.c2 .and (.c2 .eq (.num 0) (.var 60)) (.c2 .and (.c2 .eq (.num 0) (.var 61)) (.c2 .and (.c2 .eq (.num 0) (.var 62)) (.c2 .and (.c2 .eq (.num 0) (.var 63)) (.c2 .and (.c2 .eq (.num 0) (.var 64)) xWuPush0))))))))))))))))))))))))))))))))))))
def xWuPush2 : T := (.c2 .and (.c2 .eq (.num 0) (.var 17)) (.c2 .and (.c2 .eq (.num 0) (.var 18)) (.c2 .and (.c2 .eq (.num 0) (.var 19)) (.c2 .and (.c2 .eq (.num 0) (.var 20)) (.c2 .and (.c2 .eq (.num 0) (.var 21)) (.c2 .and (.c2 .eq (.num 0) (.var 22)) (.c2 .and (.c2 .eq (.num 0) (.var 23)) (.c2 .and (.c2 .eq (.num 0) (.var 24)) (.c2 .and (.c2 .eq (.num 0) (.var 25)) (.c2 .and (.c2 .eq (.num 0) (.var 26)) (.c2 .and (.c2 .eq (.num 0) (.var 27)) (.c2 .and (.c2 .eq (.num 0) (.var 28)) xWuPush1))))))))))))
def xWuPush3 : T := (.cons (.var 1) (.cons (.var 2) (.cons (.var 3) (.cons (.var 4) (.cons (.var 5) (.cons (.var 6) (.cons (.var 7) (.cons (.var 8) (.cons (.var 9) (.cons (.var 10) (.cons (.var 11) (.cons (.var 12) (.cons (.var 13) .nil)))))))))))))
def xWuPush4 : T := (.cons (.var 17) (.cons (.var 18) (.cons (.var 19) (.cons (.var 20) (.cons (.var 21) (.cons (.var 22) (.cons (.var 23) (.cons (.var 24) (.cons (.var 25) (.cons (.var 26) (.cons (.var 27) (.cons (.var 28) .nil))))))))))))
def xWuPush5 : T := (.cons (.var 29) (.cons (.var 30) (.cons (.var 31) (.cons (.var 32) (.cons (.var 33) (.cons (.var 34) (.cons (.var 35) (.cons (.var 36) (.cons (.var 37) (.cons (.var 38) (.cons (.var 39) (.cons (.var 40) (.cons (.var 41) (.cons (.var 42) (.cons (.var 43) (.cons (.var 44) (.cons (.var 45) (.cons (.var 46) (.cons (.var 47) (.cons (.var 48) (.cons (.var 49) (.cons (.var 50) (.cons (.var 51) (.cons (.var 52) (.cons (.var 53) (.cons (.var 54) (.cons (.var 55) (.cons (.var 56) (.cons (.var 57) (.cons (.var 58) (.cons (.var 59) (.cons (.var 60) (.cons (.var 61) (.cons (.var 62) (.cons (.var 63) (.cons (.var 64) .nil))))))))))))))))))))))))))))))))))))
def treeWuPush : M (V × St) :=
(.split (.c2 .lt (.var 0) (.num 1))
 (.ret (.t [.c (.sn), .c (.i .i64 (.num 120))], ⟨[], [], 7, 74, []⟩))
 (.split (.c2 .lt (.num 6) (.var 0))
  (.ret (.t [.c (.sn), .c (.i .i64 (.num 120))], ⟨[], [], 7, 74, []⟩))
  (.split (.c2 .eq (.var 0) (.num 1))
   (.split (.c1 .not (.c2 .and (.c2 .eq (.num 0) (.var 14)) (.c2 .and (.c2 .eq (.num 0) (.var 15)) (.c2 .and (.c2 .eq (.num 0) (.var 16)) xWuPush2))))
    (.ret (.t [.c (.sn), .c (.i .i64 (.num 120))], ⟨[], [], 11, 74, []⟩))
    (.chk (.c2 .le (.num 0) (.var 1))
    (.chk (.c2 .le (.var 1) (.num 255))
    (.chk (.c2 .le (.num 0) (.var 2))
    (.chk (.c2 .le (.var 2) (.num 255))
    (.chk (.c2 .le (.num 0) (.var 3))
    (.chk (.c2 .le (.var 3) (.num 255))
    (.chk (.c2 .le (.num 0) (.var 4))
    (.chk (.c2 .le (.var 4) (.num 255))
    (.chk (.c2 .le (.num 0) (.var 5))
    (.chk (.c2 .le (.var 5) (.num 255))
    (.chk (.c2 .le (.num 0) (.var 6))
    (.chk (.c2 .le (.var 6) (.num 255))
    (.chk (.c2 .le (.num 0) (.var 7))
    (.chk (.c2 .le (.var 7) (.num 255))
    (.chk (.c2 .le (.num 0) (.var 8))
    (.chk (.c2 .le (.var 8) (.num 255))
    (.chk (.c2 .le (.num 0) (.var 9))
    (.chk (.c2 .le (.var 9) (.num 255))
    (.chk (.c2 .le (.num 0) (.var 10))
    (.chk (.c2 .le (.var 10) (.num 255))
    (.chk (.c2 .le (.num 0) (.var 11))
    (.chk (.c2 .le (.var 11) (.num 255))
    (.chk (.c2 .le (.num 0) (.var 12))
    (.chk (.c2 .le (.var 12) (.num 255))
    (.chk (.c2 .le (.num 0) (.var 13))
    (.chk (.c2 .le (.var 13) (.num 65535))
    (.split (.c2 .eq (.fn 41 xWuPush3 (.var 73) .nil) (.num 0))
     (.chk (.c1 (.kin [.u8]) (.fn 31 xWuPush3 (.var 73) .nil))
     (.chk (.c2 .eq (.c1 .len (.fn 31 xWuPush3 (.var 73) .nil)) (.num 14))
     (.ret (.t [.c (.s 74 1 0 (.num 0) (.c2 .add (.num 14) (.c1 .len (.var 73)))), .c (.i .i64 (.num 0))], ⟨[], [(74, some ⟨true, .row [.u8] (.c2 .app (.c2 .take (.num 14) (.fn 31 xWuPush3 (.var 73) .nil)) (.var 73))⟩)], 75, 74, []⟩))))
     (.ret (.t [.c (.sn), .c (.i .i64 (.fn 41 xWuPush3 (.var 73) .nil))], ⟨[], [], 74, 74, []⟩))))))))))))))))))))))))))))))
   (.split (.c2 .eq (.var 0) (.num 2))
    (.split (.c1 .not (.c2 .and (.c2 .eq (.num 0) (.var 1)) (.c2 .and (.c2 .eq (.num 0) (.var 2)) (.c2 .and (.c2 .eq (.num 0) (.var 3)) (.c2 .and (.c2 .eq (.num 0) (.var 4)) (.c2 .and (.c2 .eq (.num 0) (.var 5)) (.c2 .and (.c2 .eq (.num 0) (.var 6)) (.c2 .and (.c2 .eq (.num 0) (.var 7)) (.c2 .and (.c2 .eq (.num 0) (.var 8)) (.c2 .and (.c2 .eq (.num 0) (.var 9)) (.c2 .and (.c2 .eq (.num 0) (.var 10)) (.c2 .and (.c2 .eq (.num 0) (.var 11)) (.c2 .and (.c2 .eq (.num 0) (.var 12)) (.c2 .and (.c2 .eq (.num 0) (.var 13)) xWuPush2))))))))))))))
     (.ret (.t [.c (.sn), .c (.i .i64 (.num 120))], ⟨[], [], 11, 74, []⟩))
     (.split (.c2 .lt (.num 7) (.var 14))
      (.ret (.t [.c (.sn), .c (.i .i64 (.num 60))], ⟨[], [], 13, 74, []⟩))
      (.split (.c2 .lt (.num 4095) (.var 15))
       (.ret (.t [.c (.sn), .c (.i .i64 (.num 60))], ⟨[], [], 13, 74, []⟩))
       (.chk (.c2 .le (.num 0) (.var 14))
       (.chk (.c2 .le (.num 0) (.var 15))
       (.chk (.c2 .le (.num 0) (.var 16))
       (.chk (.c2 .le (.var 16) (.num 65535))
       (.split (.c2 .eq (.fn 42 (.cons (.var 14) (.cons (.var 15) (.cons (.var 16) .nil))) (.var 73) .nil) (.num 0))
        (.chk (.c1 (.kin [.u8]) (.fn 32 (.cons (.var 14) (.cons (.var 15) (.cons (.var 16) .nil))) (.var 73) .nil))
        (.chk (.c2 .eq (.c1 .len (.fn 32 (.cons (.var 14) (.cons (.var 15) (.cons (.var 16) .nil))) (.var 73) .nil)) (.num 4))
        (.ret (.t [.c (.s 74 1 0 (.num 0) (.c2 .add (.num 4) (.c1 .len (.var 73)))), .c (.i .i64 (.num 0))], ⟨[], [(74, some ⟨true, .row [.u8] (.c2 .app (.c2 .take (.num 4) (.fn 32 (.cons (.var 14) (.cons (.var 15) (.cons (.var 16) .nil))) (.var 73) .nil)) (.var 73))⟩)], 75, 74, []⟩))))
        (.ret (.t [.c (.sn), .c (.i .i64 (.fn 42 (.cons (.var 14) (.cons (.var 15) (.cons (.var 16) .nil))) (.var 73) .nil))], ⟨[], [], 74, 74, []⟩))))))))))
    (.split (.c2 .eq (.var 0) (.num 3))
     (.split (.c1 .not (.c2 .and (.c2 .eq (.num 0) (.var 1)) (.c2 .and (.c2 .eq (.num 0) (.var 2)) (.c2 .and (.c2 .eq (.num 0) (.var 3)) (.c2 .and (.c2 .eq (.num 0) (.var 4)) (.c2 .and (.c2 .eq (.num 0) (.var 5)) (.c2 .and (.c2 .eq (.num 0) (.var 6)) (.c2 .and (.c2 .eq (.num 0) (.var 7)) (.c2 .and (.c2 .eq (.num 0) (.var 8)) (.c2 .and (.c2 .eq (.num 0) (.var 9)) (.c2 .and (.c2 .eq (.num 0) (.var 10)) (.c2 .and (.c2 .eq (.num 0) (.var 11)) (.c2 .and (.c2 .eq (.num 0) (.var 12)) (.c2 .and (.c2 .eq (.num 0) (.var 13)) (.c2 .and (.c2 .eq (.num 0) (.var 14)) (.c2 .and (.c2 .eq (.num 0) (.var 15)) (.c2 .and (.c2 .eq (.num 0) (.var 16)) xWuPush1)))))))))))))))))
      (.ret (.t [.c (.sn), .c (.i .i64 (.num 120))], ⟨[], [], 11, 74, []⟩))
      (.chk (.c2 .le (.num 0) (.var 17))
      (.chk (.c2 .le (.var 17) (.num 255))
      (.chk (.c2 .le (.num 0) (.var 18))
      (.chk (.c2 .le (.var 18) (.num 255))
      (.chk (.c2 .le (.num 0) (.var 19))
      (.chk (.c2 .le (.var 19) (.num 255))
      (.chk (.c2 .le (.num 0) (.var 20))
      (.chk (.c2 .le (.var 20) (.num 65535))
      (.chk (.c2 .le (.num 0) (.var 21))
      (.chk (.c2 .le (.var 21) (.num 255))
      (.chk (.c2 .le (.num 0) (.var 22))
      (.chk (.c2 .le (.var 22) (.num 255))
      (.chk (.c2 .le (.num 0) (.var 23))
      (.chk (.c2 .le (.var 23) (.num 255))
      (.chk (.c2 .le (.num 0) (.var 24))
      (.chk (.c2 .le (.var 24) (.num 255))
      (.chk (.c2 .le (.num 0) (.var 25))
      (.chk (.c2 .le (.var 25) (.num 255))
      (.chk (.c2 .le (.num 0) (.var 26))
      (.chk (.c2 .le (.var 26) (.num 255))
      (.chk (.c2 .le (.num 0) (.var 27))
      (.chk (.c2 .le (.var 27) (.num 255))
      (.chk (.c2 .le (.num 0) (.var 28))
      (.chk (.c2 .le (.var 28) (.num 255))
      (.split (.c2 .eq (.fn 43 xWuPush4 (.var 73) .nil) (.num 0))
       (.chk (.c1 (.kin [.u8]) (.fn 33 xWuPush4 (.var 73) .nil))
       (.chk (.c2 .eq (.c1 .len (.fn 33 xWuPush4 (.var 73) .nil)) (.num 20))
       (.ret (.t [.c (.s 74 1 0 (.num 0) (.c2 .add (.num 20) (.c1 .len (.var 73)))), .c (.i .i64 (.num 0))], ⟨[], [(74, some ⟨true, .row [.u8] (.c2 .app (.c2 .take (.num 20) (.fn 33 xWuPush4 (.var 73) .nil)) (.var 73))⟩)], 75, 74, []⟩))))
       (.ret (.t [.c (.sn), .c (.i .i64 (.fn 43 xWuPush4 (.var 73) .nil))], ⟨[], [], 74, 74, []⟩))))))))))))))))))))))))))))
     (.split (.c2 .eq (.var 0) (.num 4))
      (.split (.c1 .not (.c2 .and (.c2 .eq (.num 0) (.var 1)) (.c2 .and (.c2 .eq (.num 0) (.var 2)) (.c2 .and (.c2 .eq (.num 0) (.var 3)) (.c2 .and (.c2 .eq (.num 0) (.var 4)) (.c2 .and (.c2 .eq (.num 0) (.var 5)) (.c2 .and (.c2 .eq (.num 0) (.var 6)) (.c2 .and (.c2 .eq (.num 0) (.var 7)) (.c2 .and (.c2 .eq (.num 0) (.var 8)) (.c2 .and (.c2 .eq (.num 0) (.var 9)) (.c2 .and (.c2 .eq (.num 0) (.var 10)) (.c2 .and (.c2 .eq (.num 0) (.var 11)) (.c2 .and (.c2 .eq (.num 0) (.var 12)) (.c2 .and (.c2 .eq (.num 0) (.var 13)) (.c2 .and (.c2 .eq (.num 0) (.var 14)) (.c2 .and (.c2 .eq (.num 0) (.var 15)) (.c2 .and (.c2 .eq (.num 0) (.var 16)) (.c2 .and (.c2 .eq (.num 0) (.var 17)) (.c2 .and (.c2 .eq (.num 0) (.var 18)) (.c2 .and (.c2 .eq (.num 0) (.var 19)) (.c2 .and (.c2 .eq (.num 0) (.var 20)) (.c2 .and (.c2 .eq (.num 0) (.var 21)) (.c2 .and (.c2 .eq (.num 0) (.var 22)) (.c2 .and (.c2 .eq (.num 0) (.var 23)) (.c2 .and (.c2 .eq (.num 0) (.var 24)) (.c2 .and (.c2 .eq (.num 0) (.var 25)) (.c2 .and (.c2 .eq (.num 0) (.var 26)) (.c2 .and (.c2 .eq (.num 0) (.var 27)) (.c2 .and (.c2 .eq (.num 0) (.var 28)) xWuPush0)))))))))))))))))))))))))))))
       (.ret (.t [.c (.sn), .c (.i .i64 (.num 120))], ⟨[], [], 11, 74, []⟩))
       (.split (.c2 .le (.num 1048576) (.var 30))
        (.ret (.t [.c (.sn), .c (.i .i64 (.num 80))], ⟨[], [], 13, 74, []⟩))
        (.chk (.c2 .le (.num 0) (.var 29))
        (.chk (.c2 .le (.var 29) (.num 255))
        (.chk (.c2 .le (.num 0) (.var 30))
        (.chk (.c2 .le (.num 0) (.var 31))
        (.chk (.c2 .le (.var 31) (.num 255))
        (.chk (.c2 .le (.num 0) (.var 32))
        (.chk (.c2 .le (.var 32) (.num 255))
        (.chk (.c2 .le (.num 0) (.var 33))
        (.chk (.c2 .le (.var 33) (.num 255))
        (.chk (.c2 .le (.num 0) (.var 34))
        (.chk (.c2 .le (.var 34) (.num 255))
        (.chk (.c2 .le (.num 0) (.var 35))
        (.chk (.c2 .le (.var 35) (.num 255))
        (.chk (.c2 .le (.num 0) (.var 36))
        (.chk (.c2 .le (.var 36) (.num 255))
        (.chk (.c2 .le (.num 0) (.var 37))
        (.chk (.c2 .le (.var 37) (.num 255))
        (.chk (.c2 .le (.num 0) (.var 38))
        (.chk (.c2 .le (.var 38) (.num 255))
        (.chk (.c2 .le (.num 0) (.var 39))
        (.chk (.c2 .le (.var 39) (.num 255))
        (.chk (.c2 .le (.num 0) (.var 40))
        (.chk (.c2 .le (.var 40) (.num 255))
        (.chk (.c2 .le (.num 0) (.var 41))
        (.chk (.c2 .le (.var 41) (.num 255))
        (.chk (.c2 .le (.num 0) (.var 42))
        (.chk (.c2 .le (.var 42) (.num 255))
        (.chk (.c2 .le (.num 0) (.var 43))
        (.chk (.c2 .le (.var 43) (.num 255))
        (.chk (.c2 .le (.num 0) (.var 44))
        (.chk (.c2 .le (.var 44) (.num 255))
        (.chk (.c2 .le (.num 0) (.var 45))
        (.chk (.c2 .le (.var 45) (.num 255))
        (.chk (.c2 .le (.num 0) (.var 46))
        (.chk (.c2 .le (.var 46) (.num 255))
        (.chk (.c2 .le (.num 0) (.var 47))
        (.chk (.c2 .le (.var 47) (.num 255))
        (.chk (.c2 .le (.num 0) (.var 48))
        (.chk (.c2 .le (.var 48) (.num 255))
        (.chk (.c2 .le (.num 0) (.var 49))
        (.chk (.c2 .le (.var 49) (.num 255))
        (.chk (.c2 .le (.num 0) (.var 50))
        (.chk (.c2 .le (.var 50) (.num 255))
        (.chk (.c2 .le (.num 0) (.var 51))
        (.chk (.c2 .le (.var 51) (.num 255))
        (.chk (.c2 .le (.num 0) (.var 52))
        (.chk (.c2 .le (.var 52) (.num 255))
        (.chk (.c2 .le (.num 0) (.var 53))
        (.chk (.c2 .le (.var 53) (.num 255))
        (.chk (.c2 .le (.num 0) (.var 54))
        (.chk (.c2 .le (.var 54) (.num 255))
        (.chk (.c2 .le (.num 0) (.var 55))
        (.chk (.c2 .le (.var 55) (.num 255))
        (.chk (.c2 .le (.num 0) (.var 56))
        (.chk (.c2 .le (.var 56) (.num 255))
        (.chk (.c2 .le (.num 0) (.var 57))
        (.chk (.c2 .le (.var 57) (.num 255))
        (.chk (.c2 .le (.num 0) (.var 58))
        (.chk (.c2 .le (.var 58) (.num 255))
        (.chk (.c2 .le (.num 0) (.var 59))
        (.chk (.c2 .le (.var 59) (.num 255))
        (.chk (.c2 .le (.num 0) (.var 60))
        (.chk (.c2 .le (.var 60) (.num 255))
        (.chk (.c2 .le (.num 0) (.var 61))
        (.chk (.c2 .le (.var 61) (.num 255))
        (.chk (.c2 .le (.num 0) (.var 62))
        (.chk (.c2 .le (.var 62) (.num 255))
        (.chk (.c2 .le (.num 0) (.var 63))
        (.chk (.c2 .le (.var 63) (.num 255))
        (.chk (.c2 .le (.num 0) (.var 64))
        (.chk (.c2 .le (.var 64) (.num 255))
        (.split (.c2 .eq (.fn 44 xWuPush5 (.var 73) .nil) (.num 0))
         (.chk (.c1 (.kin [.u8]) (.fn 34 xWuPush5 (.var 73) .nil))
         (.chk (.c2 .eq (.c1 .len (.fn 34 xWuPush5 (.var 73) .nil)) (.num 40))
         (.ret (.t [.c (.s 74 1 0 (.num 0) (.c2 .add (.num 40) (.c1 .len (.var 73)))), .c (.i .i64 (.num 0))], ⟨[], [(74, some ⟨true, .row [.u8] (.c2 .app (.c2 .take (.num 40) (.fn 34 xWuPush5 (.var 73) .nil)) (.var 73))⟩)], 75, 74, []⟩))))
         (.ret (.t [.c (.sn), .c (.i .i64 (.fn 44 xWuPush5 (.var 73) .nil))], ⟨[], [], 74, 74, []⟩))))))))))))))))))))))))))))))))))))))))))))))))))))))))))))))))))))))))))))
      (.split (.c2 .eq (.var 0) (.num 5))
       (.split (.c1 .not (.c2 .and (.c2 .eq (.num 0) (.var 1)) (.c2 .and (.c2 .eq (.num 0) (.var 2)) (.c2 .and (.c2 .eq (.num 0) (.var 3)) (.c2 .and (.c2 .eq (.num 0) (.var 4)) (.c2 .and (.c2 .eq (.num 0) (.var 5)) (.c2 .and (.c2 .eq (.num 0) (.var 6)) (.c2 .and (.c2 .eq (.num 0) (.var 7)) (.c2 .and (.c2 .eq (.num 0) (.var 8)) (.c2 .and (.c2 .eq (.num 0) (.var 9)) (.c2 .and (.c2 .eq (.num 0) (.var 10)) (.c2 .and (.c2 .eq (.num 0) (.var 11)) (.c2 .and (.c2 .eq (.num 0) (.var 12)) (.c2 .and (.c2 .eq (.num 0) (.var 13)) (.c2 .and (.c2 .eq (.num 0) (.var 14)) (.c2 .and (.c2 .eq (.num 0) (.var 15)) (.c2 .and (.c2 .eq (.num 0) (.var 16)) (.c2 .and (.c2 .eq (.num 0) (.var 17)) (.c2 .and (.c2 .eq (.num 0) (.var 18)) (.c2 .and (.c2 .eq (.num 0) (.var 19)) (.c2 .and (.c2 .eq (.num 0) (.var 20)) (.c2 .and (.c2 .eq (.num 0) (.var 21)) (.c2 .and (.c2 .eq (.num 0) (.var 22)) (.c2 .and (.c2 .eq (.num 0) (.var 23)) (.c2 .and (.c2 .eq (.num 0) (.var 24)) (.c2 .and (.c2 .eq (.num 0) (.var 25)) (.c2 .and (.c2 .eq (.num 0) (.var 26)) (.c2 .and (.c2 .eq (.num 0) (.var 27)) (.c2 .and (.c2 .eq (.num 0) (.var 28)) (.c2 .and (.c2 .eq (.num 0) (.var 29)) (.c2 .and (.c2 .eq (.num 0) (.var 30)) (.c2 .and (.c2 .eq (.num 0) (.var 31)) (.c2 .and (.c2 .eq (.num 0) (.var 32)) (.c2 .and (.c2 .eq (.num 0) (.var 33)) (.c2 .and (.c2 .eq (.num 0) (.var 34)) (.c2 .and (.c2 .eq (.num 0) (.var 35)) (.c2 .and (.c2 .eq (.num 0) (.var 36)) (.c2 .and (.c2 .eq (.num 0) (.var 37)) (.c2 .and (.c2 .eq (.num 0) (.var 38)) (.c2 .and (.c2 .eq (.num 0) (.var 39)) (.c2 .and (.c2 .eq (.num 0) (.var 40)) (.c2 .and (.c2 .eq (.num 0) (.var 41)) (.c2 .and (.c2 .eq (.num 0) (.var 42)) (.c2 .and (.c2 .eq (.num 0) (.var 43)) (.c2 .and (.c2 .eq (.num 0) (.var 44)) (.c2 .and (.c2 .eq (.num 0) (.var 45)) (.c2 .and (.c2 .eq (.num 0) (.var 46)) (.c2 .and (.c2 .eq (.num 0) (.var 47)) (.c2 .and (.c2 .eq (.num 0) (.var 48)) (.c2 .and (.c2 .eq (.num 0) (.var 49)) (.c2 .and (.c2 .eq (.num 0) (.var 50)) (.c2 .and (.c2 .eq (.num 0) (.var 51)) (.c2 .and (.c2 .eq (.num 0) (.var 52)) (.c2 .and (.c2 .eq (.num 0) (.var 53)) (.c2 .and (.c2 .eq (.num 0) (.var 54)) (.c2 .and (.c2 .eq (.num 0) (.var 55)) (.c2 .and (.c2 .eq (.num 0) (.var 56)) (.c2 .and (.c2 .eq (.num 0) (.var 57)) (.c2 .and (.c2 .eq (.num 0) (.var 58)) (.c2 .and (.c2 .eq (.num 0) (.var 59)) (.c2 .and (.c2 .eq (.num 0) (.var 60)) (.c2 .and (.c2 .eq (.num 0) (.var 61)) (.c2 .and (.c2 .eq (.num 0) (.var 62)) (.c2 .and (.c2 .eq (.num 0) (.var 63)) (.c2 .and (.c2 .eq (.num 0) (.var 64)) (.c2 .and (.c2 .eq (.num 0) (.var 71)) (.c2 .eq (.num 0) (.var 72))))))))))))))))))))))))))))))))))))))))))))))))))))))))))))))))))))
        (.ret (.t [.c (.sn), .c (.i .i64 (.num 120))], ⟨[], [], 11, 74, []⟩))
        (.split (.c2 .le (.num 64) (.var 69))
         (.ret (.t [.c (.sn), .c (.i .i64 (.num 90))], ⟨[], [], 13, 74, []⟩))
         (.chk (.c2 .le (.num 0) (.var 65))
         (.chk (.c2 .le (.var 65) (.num 65535))
         (.chk (.c2 .le (.num 0) (.var 66))
         (.chk (.c2 .le (.var 66) (.num 65535))
         (.chk (.c2 .le (.num 0) (.var 67))
         (.chk (.c2 .le (.var 67) (.num 4294967295))
         (.chk (.c2 .le (.num 0) (.var 68))
         (.chk (.c2 .le (.var 68) (.num 4294967295))
         (.chk (.c2 .le (.num 0) (.var 69))
         (.chk (.c2 .le (.num 0) (.var 70))
         (.chk (.c2 .le (.var 70) (.num 65535))
         (.split (.c2 .eq (.fn 45 (.cons (.var 65) (.cons (.var 66) (.cons (.var 67) (.cons (.var 68) (.cons (.var 69) (.cons (.var 70) .nil)))))) (.var 73) .nil) (.num 0))
          (.chk (.c1 (.kin [.u8]) (.fn 35 (.cons (.var 65) (.cons (.var 66) (.cons (.var 67) (.cons (.var 68) (.cons (.var 69) (.cons (.var 70) .nil)))))) (.var 73) .nil))
          (.chk (.c2 .eq (.c1 .len (.fn 35 (.cons (.var 65) (.cons (.var 66) (.cons (.var 67) (.cons (.var 68) (.cons (.var 69) (.cons (.var 70) .nil)))))) (.var 73) .nil)) (.num 20))
          (.ret (.t [.c (.s 74 1 0 (.num 0) (.c2 .add (.num 20) (.c1 .len (.var 73)))), .c (.i .i64 (.num 0))], ⟨[], [(74, some ⟨true, .row [.u8] (.c2 .app (.c2 .take (.num 20) (.fn 35 (.cons (.var 65) (.cons (.var 66) (.cons (.var 67) (.cons (.var 68) (.cons (.var 69) (.cons (.var 70) .nil)))))) (.var 73) .nil)) (.var 73))⟩)], 75, 74, []⟩))))
          (.ret (.t [.c (.sn), .c (.i .i64 (.fn 45 (.cons (.var 65) (.cons (.var 66) (.cons (.var 67) (.cons (.var 68) (.cons (.var 69) (.cons (.var 70) .nil)))))) (.var 73) .nil))], ⟨[], [], 74, 74, []⟩))))))))))))))))
       (.split (.c2 .eq (.var 0) (.num 6))
        (.split (.c1 .not (.c2 .and (.c2 .eq (.num 0) (.var 1)) (.c2 .and (.c2 .eq (.num 0) (.var 2)) (.c2 .and (.c2 .eq (.num 0) (.var 3)) (.c2 .and (.c2 .eq (.num 0) (.var 4)) (.c2 .and (.c2 .eq (.num 0) (.var 5)) (.c2 .and (.c2 .eq (.num 0) (.var 6)) (.c2 .and (.c2 .eq (.num 0) (.var 7)) (.c2 .and (.c2 .eq (.num 0) (.var 8)) (.c2 .and (.c2 .eq (.num 0) (.var 9)) (.c2 .and (.c2 .eq (.num 0) (.var 10)) (.c2 .and (.c2 .eq (.num 0) (.var 11)) (.c2 .and (.c2 .eq (.num 0) (.var 12)) (.c2 .and (.c2 .eq (.num 0) (.var 13)) (.c2 .and (.c2 .eq (.num 0) (.var 14)) (.c2 .and (.c2 .eq (.num 0) (.var 15)) (.c2 .and (.c2 .eq (.num 0) (.var 16)) (.c2 .and (.c2 .eq (.num 0) (.var 17)) (.c2 .and (.c2 .eq (.num 0) (.var 18)) (.c2 .and (.c2 .eq (.num 0) (.var 19)) (.c2 .and (.c2 .eq (.num 0) (.var 20)) (.c2 .and (.c2 .eq (.num 0) (.var 21)) (.c2 .and (.c2 .eq (.num 0) (.var 22)) (.c2 .and (.c2 .eq (.num 0) (.var 23)) (.c2 .and (.c2 .eq (.num 0) (.var 24)) (.c2 .and (.c2 .eq (.num 0) (.var 25)) (.c2 .and (.c2 .eq (.num 0) (.var 26)) (.c2 .and (.c2 .eq (.num 0) (.var 27)) (.c2 .and (.c2 .eq (.num 0) (.var 28)) (.c2 .and (.c2 .eq (.num 0) (.var 29)) (.c2 .and (.c2 .eq (.num 0) (.var 30)) (.c2 .and (.c2 .eq (.num 0) (.var 31)) (.c2 .and (.c2 .eq (.num 0) (.var 32)) (.c2 .and (.c2 .eq (.num 0) (.var 33)) (.c2 .and (.c2 .eq (.num 0) (.var 34)) (.c2 .and (.c2 .eq (.num 0) (.var 35)) (.c2 .and (.c2 .eq (.num 0) (.var 36)) (.c2 .and (.c2 .eq (.num 0) (.var 37)) (.c2 .and (.c2 .eq (.num 0) (.var 38)) (.c2 .and (.c2 .eq (.num 0) (.var 39)) (.c2 .and (.c2 .eq (.num 0) (.var 40)) (.c2 .and (.c2 .eq (.num 0) (.var 41)) (.c2 .and (.c2 .eq (.num 0) (.var 42)) (.c2 .and (.c2 .eq (.num 0) (.var 43)) (.c2 .and (.c2 .eq (.num 0) (.var 44)) (.c2 .and (.c2 .eq (.num 0) (.var 45)) (.c2 .and (.c2 .eq (.num 0) (.var 46)) (.c2 .and (.c2 .eq (.num 0) (.var 47)) (.c2 .and (.c2 .eq (.num 0) (.var 48)) (.c2 .and (.c2 .eq (.num 0) (.var 49)) (.c2 .and (.c2 .eq (.num 0) (.var 50)) (.c2 .and (.c2 .eq (.num 0) (.var 51)) (.c2 .and (.c2 .eq (.num 0) (.var 52)) (.c2 .and (.c2 .eq (.num 0) (.var 53)) (.c2 .and (.c2 .eq (.num 0) (.var 54)) (.c2 .and (.c2 .eq (.num 0) (.var 55)) (.c2 .and (.c2 .eq (.num 0) (.var 56)) (.c2 .and (.c2 .eq (.num 0) (.var 57)) (.c2 .and (.c2 .eq (.num 0) (.var 58)) (.c2 .and (.c2 .eq (.num 0) (.var 59)) (.c2 .and (.c2 .eq (.num 0) (.var 60)) (.c2 .and (.c2 .eq (.num 0) (.var 61)) (.c2 .and (.c2 .eq (.num 0) (.var 62)) (.c2 .and (.c2 .eq (.num 0) (.var 63)) (.c2 .and (.c2 .eq (.num 0) (.var 64)) (.c2 .and (.c2 .eq (.num 0) (.var 65)) (.c2 .and (.c2 .eq (.num 0) (.var 66)) (.c2 .and (.c2 .eq (.num 0) (.var 67)) (.c2 .and (.c2 .eq (.num 0) (.var 68)) (.c2 .and (.c2 .eq (.num 0) (.var 69)) (.c2 .eq (.num 0) (.var 70))))))))))))))))))))))))))))))))))))))))))))))))))))))))))))))))))))))))
         (.ret (.t [.c (.sn), .c (.i .i64 (.num 120))], ⟨[], [], 11, 74, []⟩))
         (.chk (.c2 .le (.num 0) (.var 71))
         (.chk (.c2 .le (.var 71) (.num 65535))
         (.chk (.c2 .le (.num 0) (.var 72))
         (.chk (.c2 .le (.var 72) (.num 65535))
         (.split (.c2 .eq (.fn 46 (.cons (.var 71) (.cons (.var 72) .nil)) (.var 73) .nil) (.num 0))
          (.chk (.c1 (.kin [.u8]) (.fn 36 (.cons (.var 71) (.cons (.var 72) .nil)) (.var 73) .nil))
          (.chk (.c2 .eq (.c1 .len (.fn 36 (.cons (.var 71) (.cons (.var 72) .nil)) (.var 73) .nil)) (.num 8))
          (.ret (.t [.c (.s 74 1 0 (.num 0) (.c2 .add (.num 8) (.c1 .len (.var 73)))), .c (.i .i64 (.num 0))], ⟨[], [(74, some ⟨true, .row [.u8] (.c2 .app (.c2 .take (.num 8) (.fn 36 (.cons (.var 71) (.cons (.var 72) .nil)) (.var 73) .nil)) (.var 73))⟩)], 75, 74, []⟩))))
          (.ret (.t [.c (.sn), .c (.i .i64 (.fn 46 (.cons (.var 71) (.cons (.var 72) .nil)) (.var 73) .nil))], ⟨[], [], 74, 74, []⟩))))))))
        (.fail 11)))))))))
theorem treeWuPush_is : funTree (ctxN Go.Proofs.Tryz.prog annsWr consW1 8) annsWr 41 (tPush 74).vs (tPush 74).bs (tPush 74).n (preF (tPush 74).res) = treeWuPush := by kernel_rfl
end Go.Proofs.YtfhjlimdakphcaaGreat.Sx
/- Sx: what Go function 12 does, as a tree of conditions (printed by a tool of this claim, proved by the kernel). Conditions: none. -/
set_option maxRecDepth 100000
namespace Go.Proofs.YtfhjlimdakphcaaGreat.Sx
open Go
def xWuPushR0 : T := (.c2 .and (.c2 .eq (.num 0) (.var 65)) (.c2 .and (.c2 .eq (.num 0) (.var 66)) (.c2 .and (.c2 .eq (.num 0) (.var 67)) (.c2 .and (.c2 .eq (.num 0) (.var 68)) (.c2 .and (.c2 .eq (.num 0) (.var 69)) (.c2 .and (.c2 .eq (.num 0) (.var 70)) (.c2 .and (.c2 .eq (.num 0) (.var 71)) (.c2 .eq (.num 0) (.var 72)))))))))
def xWuPushR1 : T := (.c2 .and (.c2 .eq (.num 0) (.var 29)) (.c2 .and (.c2 .eq (.num 0) (.var 30)) (.c2 .and (.c2 .eq (.num 0) (.var 31)) (.c2 .and (.c2 .eq (.num 0) (.var 32)) (.c2 .and (.c2 .eq (.num 0) (.var 33)) (.c2 .and (.c2 .eq (.num 0) (.var 34)) (.c2 .and (.c2 .eq (.num 0) (.var 35)) (.c2 .and (.c2 .eq (.num 0) (.var 36)) (.c2 .and (.c2 .eq (.num 0) (.var 37)) (.c2 .and (.c2 .eq (.num 0) (.var 38)) (.c2 .and (.c2 .eq (.num 0) (.var 39)) (.c2 .and (.c2 .eq (.num 0) (.var 40)) (.c2 .and (.c2 .eq (.num 0) (.var 41)) (.c2 .and (.c2 .eq (.num 0) (.var 42)) (.c2 .and (.c2 .eq (.num 0) (.var 43)) (.c2 .and (.c2 .eq (.num 0) (.var 44)) (.c2 .and (.c2 .eq (.num 0) (.var 45)) (.c2 .and (.c2 .eq (.num 0) (.var 46)) (.c2 .and (.c2 .eq (.num 0) (.var 47)) (.c2 .and (.c2 .eq (.num 0) (.var 48)) (.c2 .and (.c2 .eq (.num 0) (.var 49)) (.c2 .and (.c2 .eq (.num 0) (.var 50)) (.c2 .and (.c2 .eq (.num 0) (.var 51)) (.c2 .and (.c2 .eq (.num 0) (.var 52)) (.c2 .and (.c2 .eq (.num 0) (.var 53)) (.c2 .and (.c2 .eq (.num 0) (.var 54)) (.c2 .and (.c2 .eq (.num 0) (.var 55)) (.c2 .and (.c2 .eq (.num 0) (.var 56)) (.c2 .and (.c2 .eq (.num 0) (.var 57)) (.c2 .and (.c2 .eq (.num 0) (.var 58)) (.c2 .and (.c2 .eq (.num 0) (.var 59)) (.c2 .and (.c2 .eq (.num 0) (.var 60)) (.c2 .and (.c2 .eq (.num 0) (.var 61)) (.c2 .and (.c2 .eq (.num 0) (.var 62)) (.c2 .and (.c2 .eq (.num 0) (.var 63)) (.c2 .and (.c2 .eq (.num 0) (.var 64)) xWuPushR0))))))))))))))))))))))))))))))))))))
def xWuPushR2 : T := (.c2 .and (.c2 .eq (.num 0) (.var 17)) (.c2 .and (.c2 .eq (.num 0) (.var 18)) (.c2 .and (.c2 .eq (.num 0) (.var 19)) (.c2 .and (.c2 .eq (.num 0) (.var 20)) (.c2 .and (.c2 .eq (.num 0) (.var 21)) (.c2 .and (.c2 .eq (.num 0) (.var 22)) (.c2 .and (.c2 .eq (.num 0) (.var 23)) (.c2 .and (.c2 .eq (.num 0) (.var 24)) (.c2 .and (.c2 .eq (.num 0) (.var 25)) (.c2 .and (.c2 .eq (.num 0) (.var 26)) (.c2 .and (.c2 .eq (.num 0) (.var 27)) (.c2 .and (.c2 .eq (.num 0) (.var 28)) xWuPushR1))))))))))))
def xWuPushR3 : T := (.cons (.var 1) (.cons (.var 2) (.cons (.var 3) (.cons (.var 4) (.cons (.var 5) (.cons (.var 6) (.cons (.var 7) (.cons (.var 8) (.cons (.var 9) (.cons (.var 10) (.cons (.var 11) (.cons (.var 12) (.cons (.var 13) .nil)))))))))))))
def xWuPushR4 : T := (.cons (.var 17) (.cons (.var 18) (.cons (.var 19) (.cons (.var 20) (.cons (.var 21) (.cons (.var 22) (.cons (.var 23) (.cons (.var 24) (.cons (.var 25) (.cons (.var 26) (.cons (.var 27) (.cons (.var 28) .nil))))))))))))
def xWuPushR5 : T := (.cons (.var 29) (.cons (.var 30) (.cons (.var 31) (.cons (.var 32) (.cons (.var 33) (.cons (.var 34) (.cons (.var 35) (.cons (.var 36) (.cons (.var 37) (.cons (.var 38) (.cons (.var 39) (.cons (.var 40) (.cons (.var 41) (.cons (.var 42) (.cons (.var 43) (.cons (.var 44) (.cons (.var 45) (.cons (.var 46) (.cons (.var 47) (.cons (.var 48) (.cons (.var 49) (.cons (.var 50) (.cons (.var 51) (.cons (.var 52) (.cons (.var 53) (.cons (.var 54) (.cons (.var 55) (.cons (.var 56) (.cons (.var 57) (.cons (.var 58) (.cons (.var 59) (.cons (.var 60) (.cons (.var 61) (.cons (.var 62) (.cons (.var 63) (.cons (.var 64) .nil))))))))))))))))))))))))))))))))))))
def treeWuPushR : M (V × St) :=
(.split (.c2 .lt (.num 6) (.var 0))
 (.ret (.t [.c (.sn), .c (.i .i64 (.num 120))], ⟨[], [], 4, 74, []⟩))
 (.split (.c2 .eq (.c2 .rd (.cons (.num 0) (.cons (.num 14) (.cons (.num 4) (.cons (.num 20) (.cons (.num 40) (.cons (.num 20) (.cons (.num 8) .nil))))))) (.var 0)) (.num 0))
  (.ret (.t [.c (.sn), .c (.i .i64 (.num 120))], ⟨[], [], 4, 74, []⟩))
  (.split (.c2 .eq (.var 0) (.num 1))
   (.split (.c1 .not (.c2 .and (.c2 .eq (.num 0) (.var 14)) (.c2 .and (.c2 .eq (.num 0) (.var 15)) (.c2 .and (.c2 .eq (.num 0) (.var 16)) xWuPushR2))))
    (.ret (.t [.c (.sn), .c (.i .i64 (.num 120))], ⟨[], [], 7, 74, []⟩))
    (.chk (.c2 .le (.num 0) (.var 1))
    (.chk (.c2 .le (.var 1) (.num 255))
    (.chk (.c2 .le (.num 0) (.var 2))
    (.chk (.c2 .le (.var 2) (.num 255))
    (.chk (.c2 .le (.num 0) (.var 3))
    (.chk (.c2 .le (.var 3) (.num 255))
    (.chk (.c2 .le (.num 0) (.var 4))
    (.chk (.c2 .le (.var 4) (.num 255))
    (.chk (.c2 .le (.num 0) (.var 5))
    (.chk (.c2 .le (.var 5) (.num 255))
    (.chk (.c2 .le (.num 0) (.var 6))
    (.chk (.c2 .le (.var 6) (.num 255))
    (.chk (.c2 .le (.num 0) (.var 7))
    (.chk (.c2 .le (.var 7) (.num 255))
    (.chk (.c2 .le (.num 0) (.var 8))
    (.chk (.c2 .le (.var 8) (.num 255))
    (.chk (.c2 .le (.num 0) (.var 9))
    (.chk (.c2 .le (.var 9) (.num 255))
    (.chk (.c2 .le (.num 0) (.var 10))
    (.chk (.c2 .le (.var 10) (.num 255))
    (.chk (.c2 .le (.num 0) (.var 11))
    (.chk (.c2 .le (.var 11) (.num 255))
    (.chk (.c2 .le (.num 0) (.var 12))
    (.chk (.c2 .le (.var 12) (.num 255))
    (.chk (.c2 .le (.num 0) (.var 13))
    (.chk (.c2 .le (.var 13) (.num 65535))
    (.split (.c2 .eq (.fn 41 xWuPushR3 (.var 73) .nil) (.num 0))
     (.chk (.c1 (.kin [.u8]) (.fn 31 xWuPushR3 (.var 73) .nil))
     (.chk (.c2 .eq (.c1 .len (.fn 31 xWuPushR3 (.var 73) .nil)) (.num 14))
     (.ret (.t [.c (.s 68 1 0 (.num 0) (.c2 .add (.num 14) (.c1 .len (.var 73)))), .c (.i .i64 (.num 0))], ⟨[], [(68, some ⟨true, .row [.u8] (.c2 .app (.c2 .take (.num 14) (.fn 31 xWuPushR3 (.var 73) .nil)) (.var 73))⟩)], 69, 74, []⟩))))
     (.ret (.t [.c (.sn), .c (.i .i64 (.fn 41 xWuPushR3 (.var 73) .nil))], ⟨[], [], 68, 74, []⟩))))))))))))))))))))))))))))))
   (.split (.c2 .eq (.var 0) (.num 2))
    (.split (.c1 .not (.c2 .and (.c2 .eq (.num 0) (.var 1)) (.c2 .and (.c2 .eq (.num 0) (.var 2)) (.c2 .and (.c2 .eq (.num 0) (.var 3)) (.c2 .and (.c2 .eq (.num 0) (.var 4)) (.c2 .and (.c2 .eq (.num 0) (.var 5)) (.c2 .and (.c2 .eq (.num 0) (.var 6)) (.c2 .and (.c2 .eq (.num 0) (.var 7)) (.c2 .and (.c2 .eq (.num 0) (.var 8)) (.c2 .and (.c2 .eq (.num 0) (.var 9)) (.c2 .and (.c2 .eq (.num 0) (.var 10)) (.c2 .and (.c2 .eq (.num 0) (.var 11)) (.c2 .and (.c2 .eq (.num 0) (.var 12)) (.c2 .and (.c2 .eq (.num 0) (.var 13)) xWuPushR2))))))))))))))
     (.ret (.t [.c (.sn), .c (.i .i64 (.num 120))], ⟨[], [], 7, 74, []⟩))
     (.split (.c2 .lt (.num 7) (.var 14))
      (.ret (.t [.c (.sn), .c (.i .i64 (.num 60))], ⟨[], [], 8, 74, []⟩))
      (.split (.c2 .lt (.num 4095) (.var 15))
       (.ret (.t [.c (.sn), .c (.i .i64 (.num 60))], ⟨[], [], 8, 74, []⟩))
       (.chk (.c2 .le (.num 0) (.var 14))
       (.chk (.c2 .le (.num 0) (.var 15))
       (.chk (.c2 .le (.num 0) (.var 16))
       (.chk (.c2 .le (.var 16) (.num 65535))
       (.split (.c2 .eq (.fn 42 (.cons (.var 14) (.cons (.var 15) (.cons (.var 16) .nil))) (.var 73) .nil) (.num 0))
        (.chk (.c1 (.kin [.u8]) (.fn 32 (.cons (.var 14) (.cons (.var 15) (.cons (.var 16) .nil))) (.var 73) .nil))
        (.chk (.c2 .eq (.c1 .len (.fn 32 (.cons (.var 14) (.cons (.var 15) (.cons (.var 16) .nil))) (.var 73) .nil)) (.num 4))
        (.ret (.t [.c (.s 69 1 0 (.num 0) (.c2 .add (.num 4) (.c1 .len (.var 73)))), .c (.i .i64 (.num 0))], ⟨[], [(69, some ⟨true, .row [.u8] (.c2 .app (.c2 .take (.num 4) (.fn 32 (.cons (.var 14) (.cons (.var 15) (.cons (.var 16) .nil))) (.var 73) .nil)) (.var 73))⟩)], 70, 74, []⟩))))
        (.ret (.t [.c (.sn), .c (.i .i64 (.fn 42 (.cons (.var 14) (.cons (.var 15) (.cons (.var 16) .nil))) (.var 73) .nil))], ⟨[], [], 69, 74, []⟩))))))))))
    (.split (.c2 .eq (.var 0) (.num 3))
     (.split (.c1 .not (.c2 .and (.c2 .eq (.num 0) (.var 1)) (.c2 .and (.c2 .eq (.num 0) (.var 2)) (.c2 .and (.c2 .eq (.num 0) (.var 3)) (.c2 .and (.c2 .eq (.num 0) (.var 4)) (.c2 .and (.c2 .eq (.num 0) (.var 5)) (.c2 .and (.c2 .eq (.num 0) (.var 6)) (.c2 .and (.c2 .eq (.num 0) (.var 7)) (.c2 .and (.c2 .eq (.num 0) (.var 8)) (.c2 .and (.c2 .eq (.num 0) (.var 9)) (.c2 .and (.c2 .eq (.num 0) (.var 10)) (.c2 .and (.c2 .eq (.num 0) (.var 11)) (.c2 .and (.c2 .eq (.num 0) (.var 12)) (.c2 .and (.c2 .eq (.num 0) (.var 13)) (.c2 .and (.c2 .eq (.num 0) (.var 14)) (.c2 .and (.c2 .eq (.num 0) (.var 15)) (.c2 .and (.c2 .eq (.num 0) (.var 16)) xWuPushR1)))))))))))))))))
      (.ret (.t [.c (.sn), .c (.i .i64 (.num 120))], ⟨[], [], 7, 74, []⟩))
      (.chk (.c2 .le (.num 0) (.var 17))
      (.chk (.c2 .le (.var 17) (.num 255))
      (.chk (.c2 .le (.num 0) (.var 18))
      (.chk (.c2 .le (.var 18) (.num 255))
      (.chk (.c2 .le (.num 0) (.var 19))
      (.chk (.c2 .le (.var 19) (.num 255))
      (.chk (.c2 .le (.num 0) (.var 20))
      (.chk (.c2 .le (.var 20) (.num 65535))
      (.chk (.c2 .le (.num 0) (.var 21))
      (.chk (.c2 .le (.var 21) (.num 255))
      (.chk (.c2 .le (.num 0) (.var 22))
      (.chk (.c2 .le (.var 22) (.num 255))
      (.chk (.c2 .le (.num 0) (.var 23))
      (.chk (.c2 .le (.var 23) (.num 255))
      (.chk (.c2 .le (.num 0) (.var 24))
      (.chk (.c2 .le (.var 24) (.num 255))
      (.chk (.c2 .le (.num 0) (.var 25))
      (.chk (.c2 .le (.var 25) (.num 255))
      (.chk (.c2 .le (.num 0) (.var 26))
      (.chk (.c2 .le (.var 26) (.num 255))
      (.chk (.c2 .le (.num 0) (.var 27))
      (.chk (.c2 .le (.var 27) (.num 255))
      (.chk (.c2 .le (.num 0) (.var 28))
      (.chk (.c2 .le (.var 28) (.num 255))
      (.split (.c2 .eq (.fn 43 xWuPushR4 (.var 73) .nil) (.num 0))
       (.chk (.c1 (.kin [.u8]) (.fn 33 xWuPushR4 (.var 73) .nil))
       (.chk (.c2 .eq (.c1 .len (.fn 33 xWuPushR4 (.var 73) .nil)) (.num 20))
       (.ret (.t [.c (.s 68 1 0 (.num 0) (.c2 .add (.num 20) (.c1 .len (.var 73)))), .c (.i .i64 (.num 0))], ⟨[], [(68, some ⟨true, .row [.u8] (.c2 .app (.c2 .take (.num 20) (.fn 33 xWuPushR4 (.var 73) .nil)) (.var 73))⟩)], 69, 74, []⟩))))
       (.ret (.t [.c (.sn), .c (.i .i64 (.fn 43 xWuPushR4 (.var 73) .nil))], ⟨[], [], 68, 74, []⟩))))))))))))))))))))))))))))
     (.split (.c2 .eq (.var 0) (.num 4))
      (.split (.c1 .not (.c2 .and (.c2 .eq (.num 0) (.var 1)) (.c2 .and (.c2 .eq (.num 0) (.var 2)) (.c2 .and (.c2 .eq (.num 0) (.var 3)) (.c2 .and (.c2 .eq (.num 0) (.var 4)) (.c2 .and (.c2 .eq (.num 0) (.var 5)) (.c2 .and (.c2 .eq (.num 0) (.var 6)) (.c2 .and (.c2 .eq (.num 0) (.var 7)) (.c2 .and (.c2 .eq (.num 0) (.var 8)) (.c2 .and (.c2 .eq (.num 0) (.var 9)) (.c2 .and (.c2 .eq (.num 0) (.var 10)) (.c2 .and (.c2 .eq (.num 0) (.var 11)) (.c2 .and (.c2 .eq (.num 0) (.var 12)) (.c2 .and (.c2 .eq (.num 0) (.var 13)) (.c2 .and (.c2 .eq (.num 0) (.var 14)) (.c2 .and (.c2 .eq (.num 0) (.var 15)) (.c2 .and (.c2 .eq (.num 0) (.var 16)) (.c2 .and (.c2 .eq (.num 0) (.var 17)) (.c2 .and (.c2 .eq (.num 0) (.var 18)) (.c2 .and (.c2 .eq (.num 0) (.var 19)) (.c2 .and (.c2 .eq (.num 0) (.var 20)) (.c2 .and (.c2 .eq (.num 0) (.var 21)) (.c2 .and (.c2 .eq (.num 0) (.var 22)) (.c2 .and (.c2 .eq (.num 0) (.var 23)) (.c2 .and (.c2 .eq (.num 0) (.var 24)) (.c2 .and (.c2 .eq (.num 0) (.var 25)) (.c2 .and (.c2 .eq (.num 0) (.var 26)) (.c2 .and (.c2 .eq (.num 0) (.var 27)) (.c2 .and (.c2 .eq (.num 0) (.var 28)) xWuPushR0)))))))))))))))))))))))))))))
       (.ret (.t [.c (.sn), .c (.i .i64 (.num 120))], ⟨[], [], 7, 74, []⟩))
       (.split (.c2 .le (.num 1048576) (.var 30))
        (.ret (.t [.c (.sn), .c (.i .i64 (.num 80))], ⟨[], [], 8, 74, []⟩))
        (.chk (.c2 .le (.num 0) (.var 29))
        (.chk (.c2 .le (.var 29) (.num 255))
        (.chk (.c2 .le (.num 0) (.var 30))
        (.chk (.c2 .le (.num 0) (.var 31))
        (.chk (.c2 .le (.var 31) (.num 255))
        (.chk (.c2 .le (.num 0) (.var 32))
        (.chk (.c2 .le (.var 32) (.num 255))
        (.chk (.c2 .le (.num 0) (.var 33))
        (.chk (.c2 .le (.var 33) (.num 255))
        (.chk (.c2 .le (.num 0) (.var 34))
        (.chk (.c2 .le (.var 34) (.num 255))
        (.chk (.c2 .le (.num 0) (.var 35))
        (.chk (.c2 .le (.var 35) (.num 255))
        (.chk (.c2 .le (.num 0) (.var 36))
        (.chk (.c2 .le (.var 36) (.num 255))
        (.chk (.c2 .le (.num 0) (.var 37))
        (.chk (.c2 .le (.var 37) (.num 255))
        (.chk (.c2 .le (.num 0) (.var 38))
        (.chk (.c2 .le (.var 38) (.num 255))
        (.chk (.c2 .le (.num 0) (.var 39))
        (.chk (.c2 .le (.var 39) (.num 255))
        (.chk (.c2 .le (.num 0) (.var 40))
        (.chk (.c2 .le (.var 40) (.num 255))
        (.chk (.c2 .le (.num 0) (.var 41))
        (.chk (.c2 .le (.var 41) (.num 255))
        (.chk (.c2 .le (.num 0) (.var 42))
        (.chk (.c2 .le (.var 42) (.num 255))
        (.chk (.c2 .le (.num 0) (.var 43))
        (.chk (.c2 .le (.var 43) (.num 255))
        (.chk (.c2 .le (.num 0) (.var 44))
        (.chk (.c2 .le (.var 44) (.num 255))
        (.chk (.c2 .le (.num 0) (.var 45))
        (.chk (.c2 .le (.var 45) (.num 255))
        (.chk (.c2 .le (.num 0) (.var 46))
        (.chk (.c2 .le (.var 46) (.num 255))
        (.chk (.c2 .le (.num 0) (.var 47))
        (.chk (.c2 .le (.var 47) (.num 255))
        (.chk (.c2 .le (.num 0) (.var 48))
        (.chk (.c2 .le (.var 48) (.num 255))
        (.chk (.c2 .le (.num 0) (.var 49))
        (.chk (.c2 .le (.var 49) (.num 255))
        (.chk (.c2 .le (.num 0) (.var 50))
        (.chk (.c2 .le (.var 50) (.num 255))
        (.chk (.c2 .le (.num 0) (.var 51))
        (.chk (.c2 .le (.var 51) (.num 255))
        (.chk (.c2 .le (.num 0) (.var 52))
        (.chk (.c2 .le (.var 52) (.num 255))
        (.chk (.c2 .le (.num 0) (.var 53))
        (.chk (.c2 .le (.var 53) (.num 255))
        (.chk (.c2 .le (.num 0) (.var 54))
        (.chk (.c2 .le (.var 54) (.num 255))
        (.chk (.c2 .le (.num 0) (.var 55))
        (.chk (.c2 .le (.var 55) (.num 255))
        (.chk (.c2 .le (.num 0) (.var 56))
        (.chk (.c2 .le (.var 56) (.num 255))
        (.chk (.c2 .le (.num 0) (.var 57))
        (.chk (.c2 .le (.var 57) (.num 255))
        (.chk (.c2 .le (.num 0) (.var 58))
        (.chk (.c2 .le (.var 58) (.num 255))
        (.chk (.c2 .le (.num 0) (.var 59))
        (.chk (.c2 .le (.var 59) (.num 255))
        (.chk (.c2 .le (.num 0) (.var 60))
        (.chk (.c2 .le (.var 60) (.num 255))
        (.chk (.c2 .le (.num 0) (.var 61))
        (.chk (.c2 .le (.var 61) (.num 255))
        (.chk (.c2 .le (.num 0) (.var 62))
        (.chk (.c2 .le (.var 62) (.num 255))
        (.chk (.c2 .le (.num 0) (.var 63))
        (.chk (.c2 .le (.var 63) (.num 255))
        (.chk (.c2 .le (.num 0) (.var 64))
        (.chk (.c2 .le (.var 64) (.num 255))
        (.split (.c2 .eq (.fn 44 xWuPushR5 (.var 73) .nil) (.num 0))
         (.chk (.c1 (.kin [.u8]) (.fn 34 xWuPushR5 (.var 73) .nil))
         (.chk (.c2 .eq (.c1 .len (.fn 34 xWuPushR5 (.var 73) .nil)) (.num 40))
         (.ret (.t [.c (.s 69 1 0 (.num 0) (.c2 .add (.num 40) (.c1 .len (.var 73)))), .c (.i .i64 (.num 0))], ⟨[], [(69, some ⟨true, .row [.u8] (.c2 .app (.c2 .take (.num 40) (.fn 34 xWuPushR5 (.var 73) .nil)) (.var 73))⟩)], 70, 74, []⟩))))
         (.ret (.t [.c (.sn), .c (.i .i64 (.fn 44 xWuPushR5 (.var 73) .nil))], ⟨[], [], 69, 74, []⟩))))))))))))))))))))))))))))))))))))))))))))))))))))))))))))))))))))))))))))
      (.split (.c2 .eq (.var 0) (.num 5))
       (.split (.c1 .not (.c2 .and (.c2 .eq (.num 0) (.var 1)) (.c2 .and (.c2 .eq (.num 0) (.var 2)) (.c2 .and (.c2 .eq (.num 0) (.var 3)) (.c2 .and (.c2 .eq (.num 0) (.var 4)) (.c2 .and (.c2 .eq (.num 0) (.var 5)) (.c2 .and (.c2 .eq (.num 0) (.var 6)) (.c2 .and (.c2 .eq (.num 0) (.var 7)) (.c2 .and (.c2 .eq (.num 0) (.var 8)) (.c2 .and (.c2 .eq (.num 0) (.var 9)) (.c2 .and (.c2 .eq (.num 0) (.var 10)) (.c2 .and (.c2 .eq (.num 0) (.var 11)) (.c2 .and (.c2 .eq (.num 0) (.var 12)) (.c2 .and (.c2 .eq (.num 0) (.var 13)) (.c2 .and (.c2 .eq (.num 0) (.var 14)) (.c2 .and (.c2 .eq (.num 0) (.var 15)) (.c2 .and (.c2 .eq (.num 0) (.var 16)) (.c2 .and (.c2 .eq (.num 0) (.var 17)) (.c2 .and (.c2 .eq (.num 0) (.var 18)) (.c2 .and (.c2 .eq (.num 0) (.var 19)) (.c2 .and (.c2 .eq (.num 0) (.var 20)) (.c2 .and (.c2 .eq (.num 0) (.var 21)) (.c2 .and (.c2 .eq (.num 0) (.var 22)) (.c2 .and (.c2 .eq (.num 0) (.var 23)) (.c2 .and (.c2 .eq (.num 0) (.var 24)) (.c2 .and (.c2 .eq (.num 0) (.var 25)) (.c2 .and (.c2 .eq (.num 0) (.var 26)) (.c2 .and (.c2 .eq (.num 0) (.var 27)) (.c2 .and (.c2 .eq (.num 0) (.var 28)) (.c2 .and (.c2 .eq (.num 0) (.var 29)) (.c2 .and (.c2 .eq (.num 0) (.var 30)) (.c2 .and (.c2 .eq (.num 0) (.var 31)) (.c2 .and (.c2 .eq (.num 0) (.var 32)) (.c2 .and (.c2 .eq (.num 0) (.var 33)) (.c2 .and (.c2 .eq (.num 0) (.var 34)) (.c2 .and (.c2 .eq (.num 0) (.var 35)) (.c2 .and (.c2 .eq (.num 0) (.var 36)) (.c2 .and (.c2 .eq (.num 0) (.var 37)) (.c2 .and (.c2 .eq (.num 0) (.var 38)) (.c2 .and (.c2 .eq (.num 0) (.var 39)) (.c2 .and (.c2 .eq (.num 0) (.var 40)) (.c2 .and (.c2 .eq (.num 0) (.var 41)) (.c2 .and (.c2 .eq (.num 0) (.var 42)) (.c2 .and (.c2 .eq (.num 0) (.var 43)) (.c2 .and (.c2 .eq (.num 0) (.var 44)) (.c2 .and (.c2 .eq (.num 0) (.var 45)) (.c2 .and (.c2 .eq (.num 0) (.var 46)) (.c2 .and (.c2 .eq (.num 0) (.var 47)) (.c2 .and (.c2 .eq (.num 0) (.var 48)) (.c2 .and (.c2 .eq (.num 0) (.var 49)) (.c2 .and (.c2 .eq (.num 0) (.var 50)) (.c2 .and (.c2 .eq (.num 0) (.var 51)) (.c2 .and (.c2 .eq (.num 0) (.var 52)) (.c2 .and (.c2 .eq (.num 0) (.var 53)) (.c2 .and (.c2 .eq (.num 0) (.var 54)) (.c2 .and (.c2 .eq (.num 0) (.var 55)) (.c2 .and (.c2 .eq (.num 0) (.var 56)) (.c2 .and (.c2 .eq (.num 0) (.var 57)) (.c2 .and (.c2 .eq (.num 0) (.var 58)) (.c2 .and (.c2 .eq (.num 0) (.var 59)) (.c2 .and (.c2 .eq (.num 0) (.var 60)) (.c2 .and (.c2 .eq (.num 0) (.var 61)) (.c2 .and (.c2 .eq (.num 0) (.var 62)) (.c2 .and (.c2 .eq (.num 0) (.var 63)) (.c2 .and (.c2 .eq (.num 0) (.var 64)) (.c2 .and (.c2 .eq (.num 0) (.var 71)) (.c2 .eq (.num 0) (.var 72))))))))))))))))))))))))))))))))))))))))))))))))))))))))))))))))))))
        (.ret (.t [.c (.sn), .c (.i .i64 (.num 120))], ⟨[], [], 7, 74, []⟩))
        (.split (.c2 .le (.num 64) (.var 69))
         (.ret (.t [.c (.sn), .c (.i .i64 (.num 90))], ⟨[], [], 8, 74, []⟩))
         (.chk (.c2 .le (.num 0) (.var 65))
         (.chk (.c2 .le (.var 65) (.num 65535))
         (.chk (.c2 .le (.num 0) (.var 66))
         (.chk (.c2 .le (.var 66) (.num 65535))
         (.chk (.c2 .le (.num 0) (.var 67))
         (.chk (.c2 .le (.var 67) (.num 4294967295))
         (.chk (.c2 .le (.num 0) (.var 68))
         (.chk (.c2 .le (.var 68) (.num 4294967295))
         (.chk (.c2 .le (.num 0) (.var 69))
         (.chk (.c2 .le (.num 0) (.var 70))
         (.chk (.c2 .le (.var 70) (.num 65535))
         (.split (.c2 .eq (.fn 45 (.cons (.var 65) (.cons (.var 66) (.cons (.var 67) (.cons (.var 68) (.cons (.var 69) (.cons (.var 70) .nil)))))) (.var 73) .nil) (.num 0))
          (.chk (.c1 (.kin [.u8]) (.fn 35 (.cons (.var 65) (.cons (.var 66) (.cons (.var 67) (.cons (.var 68) (.cons (.var 69) (.cons (.var 70) .nil)))))) (.var 73) .nil))
          (.chk (.c2 .eq (.c1 .len (.fn 35 (.cons (.var 65) (.cons (.var 66) (.cons (.var 67) (.cons (.var 68) (.cons (.var 69) (.cons (.var 70) .nil)))))) (.var 73) .nil)) (.num 20))
          (.ret (.t [.c (.s 69 1 0 (.num 0) (.c2 .add (.num 20) (.c1 .len (.var 73)))), .c (.i .i64 (.num 0))], ⟨[], [(69, some ⟨true, .row [.u8] (.c2 .app (.c2 .take (.num 20) (.fn 35 (.cons (.var 65) (.cons (.var 66) (.cons (.var 67) (.cons (.var 68) (.cons (.var 69) (.cons (.var 70) .nil)))))) (.var 73) .nil)) (.var 73))⟩)], 70, 74, []⟩))))
          (.ret (.t [.c (.sn), .c (.i .i64 (.fn 45 (.cons (.var 65) (.cons (.var 66) (.cons (.var 67) (.cons (.var 68) (.cons (.var 69) (.cons (.var 70) .nil)))))) (.var 73) .nil))], ⟨[], [], 69, 74, []⟩))))))))))))))))
       (.split (.c2 .eq (.var 0) (.num 6))
        (.split (.c1 .not (.c2 .and (.c2 .eq (.num 0) (.var 1)) (.c2 .and (.c2 .eq (.num 0) (.var 2)) (.c2 .and (.c2 .eq (.num 0) (.var 3)) (.c2 .and (.c2 .eq (.num 0) (.var 4)) (.c2 .and (.c2 .eq (.num 0) (.var 5)) (.c2 .and (.c2 .eq (.num 0) (.var 6)) (.c2 .and (.c2 .eq (.num 0) (.var 7)) (.c2 .and (.c2 .eq (.num 0) (.var 8)) (.c2 .and (.c2 .eq (.num 0) (.var 9)) (.c2 .and (.c2 .eq (.num 0) (.var 10)) (.c2 .and (.c2 .eq (.num 0) (.var 11)) (.c2 .and (.c2 .eq (.num 0) (.var 12)) (.c2 .and (.c2 .eq (.num 0) (.var 13)) (.c2 .and (.c2 .eq (.num 0) (.var 14)) (.c2 .and (.c2 .eq (.num 0) (.var 15)) (.c2 .and (.c2 .eq (.num 0) (.var 16)) (.c2 .and (.c2 .eq (.num 0) (.var 17)) (.c2 .and (.c2 .eq (.num 0) (.var 18)) (.c2 .and (.c2 .eq (.num 0) (.var 19)) (.c2 .and (.c2 .eq (.num 0) (.var 20)) (.c2 .and (.c2 .eq (.num 0) (.var 21)) (.c2 .and (.c2 .eq (.num 0) (.var 22)) (.c2 .and (.c2 .eq (.num 0) (.var 23)) (.c2 .and (.c2 .eq (.num 0) (.var 24)) (.c2 .and (.c2 .eq (.num 0) (.var 25)) (.c2 .and (.c2 .eq (.num 0) (.var 26)) (.c2 .and (.c2 .eq (.num 0) (.var 27)) (.c2 .and (.c2 .eq (.num 0) (.var 28)) (.c2 .and (.c2 .eq (.num 0) (.var 29)) (.c2 .and (.c2 .eq (.num 0) (.var 30)) (.c2 .and (.c2 .eq (.num 0) (.var 31)) (.c2 .and (.c2 .eq (.num 0) (.var 32)) (.c2 .and (.c2 .eq (.num 0) (.var 33)) (.c2 .and (.c2 .eq (.num 0) (.var 34)) (.c2 .and (.c2 .eq (.num 0) (.var 35)) (.c2 .and (.c2 .eq (.num 0) (.var 36)) (.c2 .and (.c2 .eq (.num 0) (.var 37)) (.c2 .and (.c2 .eq (.num 0) (.var 38)) (.c2 .and (.c2 .eq (.num 0) (.var 39)) (.c2 .and (.c2 .eq (.num 0) (.var 40)) (.c2 .and (.c2 .eq (.num 0) (.var 41)) (.c2 .and (.c2 .eq (.num 0) (.var 42)) (.c2 .and (.c2 .eq (.num 0) (.var 43)) (.c2 .and (.c2 .eq (.num 0) (.var 44)) (.c2 .and (.c2 .eq (.num 0) (.var 45)) (.c2 .and (.c2 .eq (.num 0) (.var 46)) (.c2 .and (.c2 .eq (.num 0) (.var 47)) (.c2 .and (.c2 .eq (.num 0) (.var 48)) (.c2 .and (.c2 .eq (.num 0) (.var 49)) (.c2 .and (.c2 .eq (.num 0) (.var 50)) (.c2 .and (.c2 .eq (.num 0) (.var 51)) (.c2 .and (.c2 .eq (.num 0) (.var 52)) (.c2 .and (.c2 .eq (.num 0) (.var 53)) (.c2 .and (.c2 .eq (.num 0) (.var 54)) (.c2 .and (.c2 .eq (.num 0) (.var 55)) (.c2 .and (.c2 .eq (.num 0) (.var 56)) (.c2 .and (.c2 .eq (.num 0) (.var 57)) (.c2 .and (.c2 .eq (.num 0) (.var 58)) (.c2 .and (.c2 .eq (.num 0) (.var 59)) (.c2 .and (.c2 .eq (.num 0) (.var 60)) (.c2 .and (.c2 .eq (.num 0) (.var 61)) (.c2 .and (.c2 .eq (.num 0) (.var 62)) (.c2 .and (.c2 .eq (.num 0) (.var 63)) (.c2 .and (.c2 .eq (.num 0) (.var 64)) (.c2 .and (.c2 .eq (.num 0) (.var 65)) (.c2 .and (.c2 .eq (.num 0) (.var 66)) (.c2 .and (.c2 .eq (.num 0) (.var 67)) (.c2 .and (.c2 .eq (.num 0) (.var 68)) (.c2 .and (.c2 .eq (.num 0) (.var 69)) (.c2 .eq (.num 0) (.var 70))))))))))))))))))))))))))))))))))))))))))))))))))))))))))))))))))))))))
         (.ret (.t [.c (.sn), .c (.i .i64 (.num 120))], ⟨[], [], 7, 74, []⟩))
         (.chk (.c2 .le (.num 0) (.var 71))
         (.chk (.c2 .le (.var 71) (.num 65535))
         (.chk (.c2 .le (.num 0) (.var 72))
         (.chk (.c2 .le (.var 72) (.num 65535))
         (.split (.c2 .eq (.fn 46 (.cons (.var 71) (.cons (.var 72) .nil)) (.var 73) .nil) (.num 0))
          (.chk (.c1 (.kin [.u8]) (.fn 36 (.cons (.var 71) (.cons (.var 72) .nil)) (.var 73) .nil))
          (.chk (.c2 .eq (.c1 .len (.fn 36 (.cons (.var 71) (.cons (.var 72) .nil)) (.var 73) .nil)) (.num 8))
          (.ret (.t [.c (.s 68 1 0 (.num 0) (.c2 .add (.num 8) (.c1 .len (.var 73)))), .c (.i .i64 (.num 0))], ⟨[], [(68, some ⟨true, .row [.u8] (.c2 .app (.c2 .take (.num 8) (.fn 36 (.cons (.var 71) (.cons (.var 72) .nil)) (.var 73) .nil)) (.var 73))⟩)], 69, 74, []⟩))))
          (.ret (.t [.c (.sn), .c (.i .i64 (.fn 46 (.cons (.var 71) (.cons (.var 72) .nil)) (.var 73) .nil))], ⟨[], [], 68, 74, []⟩))))))))
        (.split (.c1 .not (.c2 .and (.c2 .eq (.num 0) (.var 1)) (.c2 .and (.c2 .eq (.num 0) (.var 2)) (.c2 .and (.c2 .eq (.num 0) (.var 3)) (.c2 .and (.c2 .eq (.num 0) (.var 4)) (.c2 .and (.c2 .eq (.num 0) (.var 5)) (.c2 .and (.c2 .eq (.num 0) (.var 6)) (.c2 .and (.c2 .eq (.num 0) (.var 7)) (.c2 .and (.c2 .eq (.num 0) (.var 8)) (.c2 .and (.c2 .eq (.num 0) (.var 9)) (.c2 .and (.c2 .eq (.num 0) (.var 10)) (.c2 .and (.c2 .eq (.num 0) (.var 11)) (.c2 .and (.c2 .eq (.num 0) (.var 12)) (.c2 .and (.c2 .eq (.num 0) (.var 13)) (.c2 .and (.c2 .eq (.num 0) (.var 14)) (.c2 .and (.c2 .eq (.num 0) (.var 15)) (.c2 .and (.c2 .eq (.num 0) (.var 16)) xWuPushR2)))))))))))))))))
         (.ret (.t [.c (.sn), .c (.i .i64 (.num 120))], ⟨[], [], 7, 74, []⟩))
         (.chk (.c2 .le (.num 0) (.var 71))
         (.chk (.c2 .le (.var 71) (.num 65535))
         (.chk (.c2 .le (.num 0) (.var 72))
         (.chk (.c2 .le (.var 72) (.num 65535))
         (.split (.c2 .eq (.fn 46 (.cons (.var 71) (.cons (.var 72) .nil)) (.var 73) .nil) (.num 0))
          (.chk (.c1 (.kin [.u8]) (.fn 36 (.cons (.var 71) (.cons (.var 72) .nil)) (.var 73) .nil))
          (.chk (.c2 .eq (.c1 .len (.fn 36 (.cons (.var 71) (.cons (.var 72) .nil)) (.var 73) .nil)) (.num 8))
          (.ret (.t [.c (.s 68 1 0 (.num 0) (.c2 .add (.num 8) (.c1 .len (.var 73)))), .c (.i .i64 (.num 0))], ⟨[], [(68, some ⟨true, .row [.u8] (.c2 .app (.c2 .take (.num 8) (.fn 36 (.cons (.var 71) (.cons (.var 72) .nil)) (.var 73) .nil)) (.var 73))⟩)], 69, 74, []⟩))))
          (.ret (.t [.c (.sn), .c (.i .i64 (.fn 46 (.cons (.var 71) (.cons (.var 72) .nil)) (.var 73) .nil))], ⟨[], [], 68, 74, []⟩))))))))))))))))
theorem treeWuPushR_is : funTree (ctxN Go.Proofs.Tryz.prog annsWr consW2 8) annsWr 12 (tPush 68).vs (tPush 68).bs (tPush 68).n (preF (tPush 68).res) = treeWuPushR := by kernel_rfl
end Go.Proofs.YtfhjlimdakphcaaGreat.Sx
/- Sx: what Go function 28 does, as a tree of conditions (printed by a tool of this claim, proved by the kernel). Conditions: none. -/
set_option maxRecDepth 100000
namespace Go.Proofs.YtfhjlimdakphcaaGreat.Sx
open Go
def treeWoPop : M (V × St) :=
(.split (.c2 .lt (.var 1) (.num 1))
 (.ret (.t [.g [.i .u8 (.num 0), .i .u8 (.num 0), .i .u8 (.num 0), .i .u8 (.num 0), .i .u8 (.num 0), .i .u8 (.num 0), .i .u8 (.num 0), .i .u8 (.num 0), .i .u8 (.num 0), .i .u8 (.num 0), .i .u8 (.num 0), .i .u8 (.num 0), .i .u8 (.num 0), .i .u16 (.num 0), .i .u8 (.num 0), .i .u16 (.num 0), .i .u16 (.num 0), .i .u8 (.num 0), .i .u8 (.num 0), .i .u8 (.num 0), .i .u16 (.num 0), .i .u8 (.num 0), .i .u8 (.num 0), .i .u8 (.num 0), .i .u8 (.num 0), .i .u8 (.num 0), .i .u8 (.num 0), .i .u8 (.num 0), .i .u8 (.num 0), .i .u8 (.num 0), .i .u32 (.num 0), .i .u8 (.num 0), .i .u8 (.num 0), .i .u8 (.num 0), .i .u8 (.num 0), .i .u8 (.num 0), .i .u8 (.num 0), .i .u8 (.num 0), .i .u8 (.num 0), .i .u8 (.num 0), .i .u8 (.num 0), .i .u8 (.num 0), .i .u8 (.num 0), .i .u8 (.num 0), .i .u8 (.num 0), .i .u8 (.num 0), .i .u8 (.num 0), .i .u8 (.num 0), .i .u8 (.num 0), .i .u8 (.num 0), .i .u8 (.num 0), .i .u8 (.num 0), .i .u8 (.num 0), .i .u8 (.num 0), .i .u8 (.num 0), .i .u8 (.num 0), .i .u8 (.num 0), .i .u8 (.num 0), .i .u8 (.num 0), .i .u8 (.num 0), .i .u8 (.num 0), .i .u8 (.num 0), .i .u8 (.num 0), .i .u8 (.num 0), .i .u8 (.num 0), .i .u16 (.num 0), .i .u16 (.num 0), .i .u32 (.num 0), .i .u32 (.num 0), .i .u8 (.num 0), .i .u16 (.num 0), .i .u16 (.num 0), .i .u16 (.num 0)], .c (.sn), .c (.i .i64 (.num 120))], ⟨[], [], 6, 2, []⟩))
 (.split (.c2 .lt (.num 6) (.var 1))
  (.ret (.t [.g [.i .u8 (.num 0), .i .u8 (.num 0), .i .u8 (.num 0), .i .u8 (.num 0), .i .u8 (.num 0), .i .u8 (.num 0), .i .u8 (.num 0), .i .u8 (.num 0), .i .u8 (.num 0), .i .u8 (.num 0), .i .u8 (.num 0), .i .u8 (.num 0), .i .u8 (.num 0), .i .u16 (.num 0), .i .u8 (.num 0), .i .u16 (.num 0), .i .u16 (.num 0), .i .u8 (.num 0), .i .u8 (.num 0), .i .u8 (.num 0), .i .u16 (.num 0), .i .u8 (.num 0), .i .u8 (.num 0), .i .u8 (.num 0), .i .u8 (.num 0), .i .u8 (.num 0), .i .u8 (.num 0), .i .u8 (.num 0), .i .u8 (.num 0), .i .u8 (.num 0), .i .u32 (.num 0), .i .u8 (.num 0), .i .u8 (.num 0), .i .u8 (.num 0), .i .u8 (.num 0), .i .u8 (.num 0), .i .u8 (.num 0), .i .u8 (.num 0), .i .u8 (.num 0), .i .u8 (.num 0), .i .u8 (.num 0), .i .u8 (.num 0), .i .u8 (.num 0), .i .u8 (.num 0), .i .u8 (.num 0), .i .u8 (.num 0), .i .u8 (.num 0), .i .u8 (.num 0), .i .u8 (.num 0), .i .u8 (.num 0), .i .u8 (.num 0), .i .u8 (.num 0), .i .u8 (.num 0), .i .u8 (.num 0), .i .u8 (.num 0), .i .u8 (.num 0), .i .u8 (.num 0), .i .u8 (.num 0), .i .u8 (.num 0), .i .u8 (.num 0), .i .u8 (.num 0), .i .u8 (.num 0), .i .u8 (.num 0), .i .u8 (.num 0), .i .u8 (.num 0), .i .u16 (.num 0), .i .u16 (.num 0), .i .u32 (.num 0), .i .u32 (.num 0), .i .u8 (.num 0), .i .u16 (.num 0), .i .u16 (.num 0), .i .u16 (.num 0)], .c (.sn), .c (.i .i64 (.num 120))], ⟨[], [], 6, 2, []⟩))
  (.split (.c2 .eq (.var 1) (.num 1))
   (.split (.c1 .not (.c2 .eq (.fn 21 (.var 0) .nil .nil) (.num 0)))
    (.ret (.t [.g [.i .u8 (.num 0), .i .u8 (.num 0), .i .u8 (.num 0), .i .u8 (.num 0), .i .u8 (.num 0), .i .u8 (.num 0), .i .u8 (.num 0), .i .u8 (.num 0), .i .u8 (.num 0), .i .u8 (.num 0), .i .u8 (.num 0), .i .u8 (.num 0), .i .u8 (.num 0), .i .u16 (.num 0), .i .u8 (.num 0), .i .u16 (.num 0), .i .u16 (.num 0), .i .u8 (.num 0), .i .u8 (.num 0), .i .u8 (.num 0), .i .u16 (.num 0), .i .u8 (.num 0), .i .u8 (.num 0), .i .u8 (.num 0), .i .u8 (.num 0), .i .u8 (.num 0), .i .u8 (.num 0), .i .u8 (.num 0), .i .u8 (.num 0), .i .u8 (.num 0), .i .u32 (.num 0), .i .u8 (.num 0), .i .u8 (.num 0), .i .u8 (.num 0), .i .u8 (.num 0), .i .u8 (.num 0), .i .u8 (.num 0), .i .u8 (.num 0), .i .u8 (.num 0), .i .u8 (.num 0), .i .u8 (.num 0), .i .u8 (.num 0), .i .u8 (.num 0), .i .u8 (.num 0), .i .u8 (.num 0), .i .u8 (.num 0), .i .u8 (.num 0), .i .u8 (.num 0), .i .u8 (.num 0), .i .u8 (.num 0), .i .u8 (.num 0), .i .u8 (.num 0), .i .u8 (.num 0), .i .u8 (.num 0), .i .u8 (.num 0), .i .u8 (.num 0), .i .u8 (.num 0), .i .u8 (.num 0), .i .u8 (.num 0), .i .u8 (.num 0), .i .u8 (.num 0), .i .u8 (.num 0), .i .u8 (.num 0), .i .u8 (.num 0), .i .u8 (.num 0), .i .u16 (.num 0), .i .u16 (.num 0), .i .u32 (.num 0), .i .u32 (.num 0), .i .u8 (.num 0), .i .u16 (.num 0), .i .u16 (.num 0), .i .u16 (.num 0)], .c (.sn), .c (.i .i64 (.fn 21 (.var 0) .nil .nil))], ⟨[], [], 69, 2, []⟩))
    (.chk (.c2 .le (.num 14) (.c1 .len (.var 0)))
    (.ret (.t [.g [.i .u8 (.var 1), .i .u8 (.wr .u8 (.c2 .rd (.fn 11 (.var 0) .nil .nil) (.num 0))), .i .u8 (.wr .u8 (.c2 .rd (.fn 11 (.var 0) .nil .nil) (.num 1))), .i .u8 (.wr .u8 (.c2 .rd (.fn 11 (.var 0) .nil .nil) (.num 2))), .i .u8 (.wr .u8 (.c2 .rd (.fn 11 (.var 0) .nil .nil) (.num 3))), .i .u8 (.wr .u8 (.c2 .rd (.fn 11 (.var 0) .nil .nil) (.num 4))), .i .u8 (.wr .u8 (.c2 .rd (.fn 11 (.var 0) .nil .nil) (.num 5))), .i .u8 (.wr .u8 (.c2 .rd (.fn 11 (.var 0) .nil .nil) (.num 6))), .i .u8 (.wr .u8 (.c2 .rd (.fn 11 (.var 0) .nil .nil) (.num 7))), .i .u8 (.wr .u8 (.c2 .rd (.fn 11 (.var 0) .nil .nil) (.num 8))), .i .u8 (.wr .u8 (.c2 .rd (.fn 11 (.var 0) .nil .nil) (.num 9))), .i .u8 (.wr .u8 (.c2 .rd (.fn 11 (.var 0) .nil .nil) (.num 10))), .i .u8 (.wr .u8 (.c2 .rd (.fn 11 (.var 0) .nil .nil) (.num 11))), .i .u16 (.wr .u16 (.c2 .rd (.fn 11 (.var 0) .nil .nil) (.num 12))), .i .u8 (.num 0), .i .u16 (.num 0), .i .u16 (.num 0), .i .u8 (.num 0), .i .u8 (.num 0), .i .u8 (.num 0), .i .u16 (.num 0), .i .u8 (.num 0), .i .u8 (.num 0), .i .u8 (.num 0), .i .u8 (.num 0), .i .u8 (.num 0), .i .u8 (.num 0), .i .u8 (.num 0), .i .u8 (.num 0), .i .u8 (.num 0), .i .u32 (.num 0), .i .u8 (.num 0), .i .u8 (.num 0), .i .u8 (.num 0), .i .u8 (.num 0), .i .u8 (.num 0), .i .u8 (.num 0), .i .u8 (.num 0), .i .u8 (.num 0), .i .u8 (.num 0), .i .u8 (.num 0), .i .u8 (.num 0), .i .u8 (.num 0), .i .u8 (.num 0), .i .u8 (.num 0), .i .u8 (.num 0), .i .u8 (.num 0), .i .u8 (.num 0), .i .u8 (.num 0), .i .u8 (.num 0), .i .u8 (.num 0), .i .u8 (.num 0), .i .u8 (.num 0), .i .u8 (.num 0), .i .u8 (.num 0), .i .u8 (.num 0), .i .u8 (.num 0), .i .u8 (.num 0), .i .u8 (.num 0), .i .u8 (.num 0), .i .u8 (.num 0), .i .u8 (.num 0), .i .u8 (.num 0), .i .u8 (.num 0), .i .u8 (.num 0), .i .u16 (.num 0), .i .u16 (.num 0), .i .u32 (.num 0), .i .u32 (.num 0), .i .u8 (.num 0), .i .u16 (.num 0), .i .u16 (.num 0), .i .u16 (.num 0)], .c (.s 70 1 0 (.num 0) (.c2 .sub (.c1 .len (.var 0)) (.num 14))), .c (.i .i64 (.num 0))], ⟨[], [(70, some ⟨true, .row [.u8] (.c2 .drop (.num 14) (.var 0))⟩)], 71, 2, []⟩))))
   (.split (.c2 .eq (.var 1) (.num 2))
    (.split (.c1 .not (.c2 .eq (.fn 22 (.var 0) .nil .nil) (.num 0)))
     (.ret (.t [.g [.i .u8 (.num 0), .i .u8 (.num 0), .i .u8 (.num 0), .i .u8 (.num 0), .i .u8 (.num 0), .i .u8 (.num 0), .i .u8 (.num 0), .i .u8 (.num 0), .i .u8 (.num 0), .i .u8 (.num 0), .i .u8 (.num 0), .i .u8 (.num 0), .i .u8 (.num 0), .i .u16 (.num 0), .i .u8 (.num 0), .i .u16 (.num 0), .i .u16 (.num 0), .i .u8 (.num 0), .i .u8 (.num 0), .i .u8 (.num 0), .i .u16 (.num 0), .i .u8 (.num 0), .i .u8 (.num 0), .i .u8 (.num 0), .i .u8 (.num 0), .i .u8 (.num 0), .i .u8 (.num 0), .i .u8 (.num 0), .i .u8 (.num 0), .i .u8 (.num 0), .i .u32 (.num 0), .i .u8 (.num 0), .i .u8 (.num 0), .i .u8 (.num 0), .i .u8 (.num 0), .i .u8 (.num 0), .i .u8 (.num 0), .i .u8 (.num 0), .i .u8 (.num 0), .i .u8 (.num 0), .i .u8 (.num 0), .i .u8 (.num 0), .i .u8 (.num 0), .i .u8 (.num 0), .i .u8 (.num 0), .i .u8 (.num 0), .i .u8 (.num 0), .i .u8 (.num 0), .i .u8 (.num 0), .i .u8 (.num 0), .i .u8 (.num 0), .i .u8 (.num 0), .i .u8 (.num 0), .i .u8 (.num 0), .i .u8 (.num 0), .i .u8 (.num 0), .i .u8 (.num 0), .i .u8 (.num 0), .i .u8 (.num 0), .i .u8 (.num 0), .i .u8 (.num 0), .i .u8 (.num 0), .i .u8 (.num 0), .i .u8 (.num 0), .i .u8 (.num 0), .i .u16 (.num 0), .i .u16 (.num 0), .i .u32 (.num 0), .i .u32 (.num 0), .i .u8 (.num 0), .i .u16 (.num 0), .i .u16 (.num 0), .i .u16 (.num 0)], .c (.sn), .c (.i .i64 (.fn 22 (.var 0) .nil .nil))], ⟨[], [], 69, 2, []⟩))
     (.chk (.c2 .le (.num 4) (.c1 .len (.var 0)))
     (.ret (.t [.g [.i .u8 (.var 1), .i .u8 (.num 0), .i .u8 (.num 0), .i .u8 (.num 0), .i .u8 (.num 0), .i .u8 (.num 0), .i .u8 (.num 0), .i .u8 (.num 0), .i .u8 (.num 0), .i .u8 (.num 0), .i .u8 (.num 0), .i .u8 (.num 0), .i .u8 (.num 0), .i .u16 (.num 0), .i .u8 (.wr .u8 (.c2 .rd (.fn 12 (.var 0) .nil .nil) (.num 0))), .i .u16 (.wr .u16 (.c2 .rd (.fn 12 (.var 0) .nil .nil) (.num 1))), .i .u16 (.wr .u16 (.c2 .rd (.fn 12 (.var 0) .nil .nil) (.num 2))), .i .u8 (.num 0), .i .u8 (.num 0), .i .u8 (.num 0), .i .u16 (.num 0), .i .u8 (.num 0), .i .u8 (.num 0), .i .u8 (.num 0), .i .u8 (.num 0), .i .u8 (.num 0), .i .u8 (.num 0), .i .u8 (.num 0), .i .u8 (.num 0), .i .u8 (.num 0), .i .u32 (.num 0), .i .u8 (.num 0), .i .u8 (.num 0), .i .u8 (.num 0), .i .u8 (.num 0), .i .u8 (.num 0), .i .u8 (.num 0), .i .u8 (.num 0), .i .u8 (.num 0), .i .u8 (.num 0), .i .u8 (.num 0), .i .u8 (.num 0), .i .u8 (.num 0), .i .u8 (.num 0), .i .u8 (.num 0), .i .u8 (.num 0), .i .u8 (.num 0), .i .u8 (.num 0), .i .u8 (.num 0), .i .u8 (.num 0), .i .u8 (.num 0), .i .u8 (.num 0), .i .u8 (.num 0), .i .u8 (.num 0), .i .u8 (.num 0), .i .u8 (.num 0), .i .u8 (.num 0), .i .u8 (.num 0), .i .u8 (.num 0), .i .u8 (.num 0), .i .u8 (.num 0), .i .u8 (.num 0), .i .u8 (.num 0), .i .u8 (.num 0), .i .u8 (.num 0), .i .u16 (.num 0), .i .u16 (.num 0), .i .u32 (.num 0), .i .u32 (.num 0), .i .u8 (.num 0), .i .u16 (.num 0), .i .u16 (.num 0), .i .u16 (.num 0)], .c (.s 70 1 0 (.num 0) (.c2 .sub (.c1 .len (.var 0)) (.num 4))), .c (.i .i64 (.num 0))], ⟨[], [(70, some ⟨true, .row [.u8] (.c2 .drop (.num 4) (.var 0))⟩)], 71, 2, []⟩))))
    (.split (.c2 .eq (.var 1) (.num 3))
     (.split (.c1 .not (.c2 .eq (.fn 23 (.var 0) .nil .nil) (.num 0)))
      (.ret (.t [.g [.i .u8 (.num 0), .i .u8 (.num 0), .i .u8 (.num 0), .i .u8 (.num 0), .i .u8 (.num 0), .i .u8 (.num 0), .i .u8 (.num 0), .i .u8 (.num 0), .i .u8 (.num 0), .i .u8 (.num 0), .i .u8 (.num 0), .i .u8 (.num 0), .i .u8 (.num 0), .i .u16 (.num 0), .i .u8 (.num 0), .i .u16 (.num 0), .i .u16 (.num 0), .i .u8 (.num 0), .i .u8 (.num 0), .i .u8 (.num 0), .i .u16 (.num 0), .i .u8 (.num 0), .i .u8 (.num 0), .i .u8 (.num 0), .i .u8 (.num 0), .i .u8 (.num 0), .i .u8 (.num 0), .i .u8 (.num 0), .i .u8 (.num 0), .i .u8 (.num 0), .i .u32 (.num 0), .i .u8 (.num 0), .i .u8 (.num 0), .i .u8 (.num 0), .i .u8 (.num 0), .i .u8 (.num 0), .i .u8 (.num 0), .i .u8 (.num 0), .i .u8 (.num 0), .i .u8 (.num 0), .i .u8 (.num 0), .i .u8 (.num 0), .i .u8 (.num 0), .i .u8 (.num 0), .i .u8 (.num 0), .i .u8 (.num 0), .i .u8 (.num 0), .i .u8 (.num 0), .i .u8 (.num 0), .i .u8 (.num 0), .i .u8 (.num 0), .i .u8 (.num 0), .i .u8 (.num 0), .i .u8 (.num 0), .i .u8 (.num 0), .i .u8 (.num 0), .i .u8 (.num 0), .i .u8 (.num 0), .i .u8 (.num 0), .i .u8 (.num 0), .i .u8 (.num 0), .i .u8 (.num 0), .i .u8 (.num 0), .i .u8 (.num 0), .i .u8 (.num 0), .i .u16 (.num 0), .i .u16 (.num 0), .i .u32 (.num 0), .i .u32 (.num 0), .i .u8 (.num 0), .i .u16 (.num 0), .i .u16 (.num 0), .i .u16 (.num 0)], .c (.sn), .c (.i .i64 (.fn 23 (.var 0) .nil .nil))], ⟨[], [], 69, 2, []⟩))
      (.chk (.c2 .le (.num 20) (.c1 .len (.var 0)))
      (.ret (.t [.g [.i .u8 (.var 1), .i .u8 (.num 0), .i .u8 (.num 0), .i .u8 (.num 0), .i .u8 (.num 0), .i .u8 (.num 0), .i .u8 (.num 0), .i .u8 (.num 0), .i .u8 (.num 0), .i .u8 (.num 0), .i .u8 (.num 0), .i .u8 (.num 0), .i .u8 (.num 0), .i .u16 (.num 0), .i .u8 (.num 0), .i .u16 (.num 0), .i .u16 (.num 0), .i .u8 (.wr .u8 (.c2 .rd (.fn 13 (.var 0) .nil .nil) (.num 0))), .i .u8 (.wr .u8 (.c2 .rd (.fn 13 (.var 0) .nil .nil) (.num 1))), .i .u8 (.wr .u8 (.c2 .rd (.fn 13 (.var 0) .nil .nil) (.num 2))), .i .u16 (.wr .u16 (.c2 .rd (.fn 13 (.var 0) .nil .nil) (.num 3))), .i .u8 (.wr .u8 (.c2 .rd (.fn 13 (.var 0) .nil .nil) (.num 4))), .i .u8 (.wr .u8 (.c2 .rd (.fn 13 (.var 0) .nil .nil) (.num 5))), .i .u8 (.wr .u8 (.c2 .rd (.fn 13 (.var 0) .nil .nil) (.num 6))), .i .u8 (.wr .u8 (.c2 .rd (.fn 13 (.var 0) .nil .nil) (.num 7))), .i .u8 (.wr .u8 (.c2 .rd (.fn 13 (.var 0) .nil .nil) (.num 8))), .i .u8 (.wr .u8 (.c2 .rd (.fn 13 (.var 0) .nil .nil) (.num 9))), .i .u8 (.wr .u8 (.c2 .rd (.fn 13 (.var 0) .nil .nil) (.num 10))), .i .u8 (.wr .u8 (.c2 .rd (.fn 13 (.var 0) .nil .nil) (.num 11))), .i .u8 (.num 0), .i .u32 (.num 0), .i .u8 (.num 0), .i .u8 (.num 0), .i .u8 (.num 0), .i .u8 (.num 0), .i .u8 (.num 0), .i .u8 (.num 0), .i .u8 (.num 0), .i .u8 (.num 0), .i .u8 (.num 0), .i .u8 (.num 0), .i .u8 (.num 0), .i .u8 (.num 0), .i .u8 (.num 0), .i .u8 (.num 0), .i .u8 (.num 0), .i .u8 (.num 0), .i .u8 (.num 0), .i .u8 (.num 0), .i .u8 (.num 0), .i .u8 (.num 0), .i .u8 (.num 0), .i .u8 (.num 0), .i .u8 (.num 0), .i .u8 (.num 0), .i .u8 (.num 0), .i .u8 (.num 0), .i .u8 (.num 0), .i .u8 (.num 0), .i .u8 (.num 0), .i .u8 (.num 0), .i .u8 (.num 0), .i .u8 (.num 0), .i .u8 (.num 0), .i .u8 (.num 0), .i .u16 (.num 0), .i .u16 (.num 0), .i .u32 (.num 0), .i .u32 (.num 0), .i .u8 (.num 0), .i .u16 (.num 0), .i .u16 (.num 0), .i .u16 (.num 0)], .c (.s 70 1 0 (.num 0) (.c2 .sub (.c1 .len (.var 0)) (.num 20))), .c (.i .i64 (.num 0))], ⟨[], [(70, some ⟨true, .row [.u8] (.c2 .drop (.num 20) (.var 0))⟩)], 71, 2, []⟩))))
     (.split (.c2 .eq (.var 1) (.num 4))
      (.split (.c1 .not (.c2 .eq (.fn 24 (.var 0) .nil .nil) (.num 0)))
       (.ret (.t [.g [.i .u8 (.num 0), .i .u8 (.num 0), .i .u8 (.num 0), .i .u8 (.num 0), .i .u8 (.num 0), .i .u8 (.num 0), .i .u8 (.num 0), .i .u8 (.num 0), .i .u8 (.num 0), .i .u8 (.num 0), .i .u8 (.num 0), .i .u8 (.num 0), .i .u8 (.num 0), .i .u16 (.num 0), .i .u8 (.num 0), .i .u16 (.num 0), .i .u16 (.num 0), .i .u8 (.num 0), .i .u8 (.num 0), .i .u8 (.num 0), .i .u16 (.num 0), .i .u8 (.num 0), .i .u8 (.num 0), .i .u8 (.num 0), .i .u8 (.num 0), .i .u8 (.num 0), .i .u8 (.num 0), .i .u8 (.num 0), .i .u8 (.num 0), .i .u8 (.num 0), .i .u32 (.num 0), .i .u8 (.num 0), .i .u8 (.num 0), .i .u8 (.num 0), .i .u8 (.num 0), .i .u8 (.num 0), .i .u8 (.num 0), .i .u8 (.num 0), .i .u8 (.num 0), .i .u8 (.num 0), .i .u8 (.num 0), .i .u8 (.num 0), .i .u8 (.num 0), .i .u8 (.num 0), .i .u8 (.num 0), .i .u8 (.num 0), .i .u8 (.num 0), .i .u8 (.num 0), .i .u8 (.num 0), .i .u8 (.num 0), .i .u8 (.num 0), .i .u8 (.num 0), .i .u8 (.num 0), .i .u8 (.num 0), .i .u8 (.num 0), .i .u8 (.num 0), .i .u8 (.num 0), .i .u8 (.num 0), .i .u8 (.num 0), .i .u8 (.num 0), .i .u8 (.num 0), .i .u8 (.num 0), .i .u8 (.num 0), .i .u8 (.num 0), .i .u8 (.num 0), .i .u16 (.num 0), .i .u16 (.num 0), .i .u32 (.num 0), .i .u32 (.num 0), .i .u8 (.num 0), .i .u16 (.num 0), .i .u16 (.num 0), .i .u16 (.num 0)], .c (.sn), .c (.i .i64 (.fn 24 (.var 0) .nil .nil))], ⟨[], [], 69, 2, []⟩))
       (.chk (.c2 .le (.num 40) (.c1 .len (.var 0)))
       (.ret (.t [.g [.i .u8 (.var 1), .i .u8 (.num 0), .i .u8 (.num 0), .i .u8 (.num 0), .i .u8 (.num 0), .i .u8 (.num 0), .i .u8 (.num 0), .i .u8 (.num 0), .i .u8 (.num 0), .i .u8 (.num 0), .i .u8 (.num 0), .i .u8 (.num 0), .i .u8 (.num 0), .i .u16 (.num 0), .i .u8 (.num 0), .i .u16 (.num 0), .i .u16 (.num 0), .i .u8 (.num 0), .i .u8 (.num 0), .i .u8 (.num 0), .i .u16 (.num 0), .i .u8 (.num 0), .i .u8 (.num 0), .i .u8 (.num 0), .i .u8 (.num 0), .i .u8 (.num 0), .i .u8 (.num 0), .i .u8 (.num 0), .i .u8 (.num 0), .i .u8 (.wr .u8 (.c2 .rd (.fn 14 (.var 0) .nil .nil) (.num 0))), .i .u32 (.wr .u32 (.c2 .rd (.fn 14 (.var 0) .nil .nil) (.num 1))), .i .u8 (.wr .u8 (.c2 .rd (.fn 14 (.var 0) .nil .nil) (.num 2))), .i .u8 (.wr .u8 (.c2 .rd (.fn 14 (.var 0) .nil .nil) (.num 3))), .i .u8 (.wr .u8 (.c2 .rd (.fn 14 (.var 0) .nil .nil) (.num 4))), .i .u8 (.wr .u8 (.c2 .rd (.fn 14 (.var 0) .nil .nil) (.num 5))), .i .u8 (.wr .u8 (.c2 .rd (.fn 14 (.var 0) .nil .nil) (.num 6))), .i .u8 (.wr .u8 (.c2 .rd (.fn 14 (.var 0) .nil .nil) (.num 7))), .i .u8 (.wr .u8 (.c2 .rd (.fn 14 (.var 0) .nil .nil) (.num 8))), .i .u8 (.wr .u8 (.c2 .rd (.fn 14 (.var 0) .nil .nil) (.num 9))), .i .u8 (.wr .u8 (.c2 .rd (.fn 14 (.var 0) .nil .nil) (.num 10))), .i .u8 (.wr .u8 (.c2 .rd (.fn 14 (.var 0) .nil .nil) (.num 11))), .i .u8 (.wr .u8 (.c2 .rd (.fn 14 (.var 0) .nil .nil) (.num 12))), .i .u8 (.wr .u8 (.c2 .rd (.fn 14 (.var 0) .nil .nil) (.num 13))), .i .u8 (.wr .u8 (.c2 .rd (.fn 14 (.var 0) .nil .nil) (.num 14))), .i .u8 (.wr .u8 (.c2 .rd (.fn 14 (.var 0) .nil .nil) (.num 15))), .i .u8 (.wr .u8 (.c2 .rd (.fn 14 (.var 0) .nil .nil) (.num 16))), .i .u8 (.wr .u8 (.c2 .rd (.fn 14 (.var 0) .nil .nil) (.num 17))), .i .u8 (.wr .u8 (.c2 .rd (.fn 14 (.var 0) .nil .nil) (.num 18))), .i .u8 (.wr .u8 (.c2 .rd (.fn 14 (.var 0) .nil .nil) (.num 19))), .i .u8 (.wr .u8 (.c2 .rd (.fn 14 (.var 0) .nil .nil) (.num 20))), .i .u8 (.wr .u8 (.c2 .rd (.fn 14 (.var 0) .nil .nil) (.num 21))), .i .u8 (.wr .u8 (.c2 .rd (.fn 14 (.var 0) .nil .nil) (.num 22))), .i .u8 (.wr .u8 (.c2 .rd (.fn 14 (.var 0) .nil .nil) (.num 23))), .i .u8 (.wr .u8 (.c2 .rd (.fn 14 (.var 0) .nil .nil) (.num 24))), .i .u8 (.wr .u8 (.c2 .rd (.fn 14 (.var 0) .nil .nil) (.num 25))), .i .u8 (.wr .u8 (.c2 .rd (.fn 14 (.var 0) .nil .nil) (.num 26))), .i .u8 (.wr .u8 (.c2 .rd (.fn 14 (.var 0) .nil .nil) (.num 27))), .i .u8 (.wr .u8 (.c2 .rd (.fn 14 (.var 0) .nil .nil) (.num 28))), .i .u8 (.wr .u8 (.c2 .rd (.fn 14 (.var 0) .nil .nil) (.num 29))), .i .u8 (.wr .u8 (.c2 .rd (.fn 14 (.var 0) .nil .nil) (.num 30))), .i .u8 (.wr .u8 (.c2 .rd (.fn 14 (.var 0) .nil .nil) (.num 31))), .i .u8 (.wr .u8 (.c2 .rd (.fn 14 (.var 0) .nil .nil) (.num 32))), .i .u8 (.wr .u8 (.c2 .rd (.fn 14 (.var 0) .nil .nil) (.num 33))), .i .u8 (.wr .u8 (.c2 .rd (.fn 14 (.var 0) .nil .nil) (.num 34))), .i .u8 (.wr .u8 (.c2 .rd (.fn 14 (.var 0) .nil .nil) (.num 35))), .i .u16 (.num 0), .i .u16 (.num 0), .i .u32 (.num 0), .i .u32 (.num 0), .i .u8 (.num 0), .i .u16 (.num 0), .i .u16 (.num 0), .i .u16 (.num 0)], .c (.s 70 1 0 (.num 0) (.c2 .sub (.c1 .len (.var 0)) (.num 40))), .c (.i .i64 (.num 0))], ⟨[], [(70, some ⟨true, .row [.u8] (.c2 .drop (.num 40) (.var 0))⟩)], 71, 2, []⟩))))
      (.split (.c2 .eq (.var 1) (.num 5))
       (.split (.c1 .not (.c2 .eq (.fn 25 (.var 0) .nil .nil) (.num 0)))
        (.ret (.t [.g [.i .u8 (.num 0), .i .u8 (.num 0), .i .u8 (.num 0), .i .u8 (.num 0), .i .u8 (.num 0), .i .u8 (.num 0), .i .u8 (.num 0), .i .u8 (.num 0), .i .u8 (.num 0), .i .u8 (.num 0), .i .u8 (.num 0), .i .u8 (.num 0), .i .u8 (.num 0), .i .u16 (.num 0), .i .u8 (.num 0), .i .u16 (.num 0), .i .u16 (.num 0), .i .u8 (.num 0), .i .u8 (.num 0), .i .u8 (.num 0), .i .u16 (.num 0), .i .u8 (.num 0), .i .u8 (.num 0), .i .u8 (.num 0), .i .u8 (.num 0), .i .u8 (.num 0), .i .u8 (.num 0), .i .u8 (.num 0), .i .u8 (.num 0), .i .u8 (.num 0), .i .u32 (.num 0), .i .u8 (.num 0), .i .u8 (.num 0), .i .u8 (.num 0), .i .u8 (.num 0), .i .u8 (.num 0), .i .u8 (.num 0), .i .u8 (.num 0), .i .u8 (.num 0), .i .u8 (.num 0), .i .u8 (.num 0), .i .u8 (.num 0), .i .u8 (.num 0), .i .u8 (.num 0), .i .u8 (.num 0), .i .u8 (.num 0), .i .u8 (.num 0), .i .u8 (.num 0), .i .u8 (.num 0), .i .u8 (.num 0), .i .u8 (.num 0), .i .u8 (.num 0), .i .u8 (.num 0), .i .u8 (.num 0), .i .u8 (.num 0), .i .u8 (.num 0), .i .u8 (.num 0), .i .u8 (.num 0), .i .u8 (.num 0), .i .u8 (.num 0), .i .u8 (.num 0), .i .u8 (.num 0), .i .u8 (.num 0), .i .u8 (.num 0), .i .u8 (.num 0), .i .u16 (.num 0), .i .u16 (.num 0), .i .u32 (.num 0), .i .u32 (.num 0), .i .u8 (.num 0), .i .u16 (.num 0), .i .u16 (.num 0), .i .u16 (.num 0)], .c (.sn), .c (.i .i64 (.fn 25 (.var 0) .nil .nil))], ⟨[], [], 69, 2, []⟩))
        (.chk (.c2 .le (.num 20) (.c1 .len (.var 0)))
        (.ret (.t [.g [.i .u8 (.var 1), .i .u8 (.num 0), .i .u8 (.num 0), .i .u8 (.num 0), .i .u8 (.num 0), .i .u8 (.num 0), .i .u8 (.num 0), .i .u8 (.num 0), .i .u8 (.num 0), .i .u8 (.num 0), .i .u8 (.num 0), .i .u8 (.num 0), .i .u8 (.num 0), .i .u16 (.num 0), .i .u8 (.num 0), .i .u16 (.num 0), .i .u16 (.num 0), .i .u8 (.num 0), .i .u8 (.num 0), .i .u8 (.num 0), .i .u16 (.num 0), .i .u8 (.num 0), .i .u8 (.num 0), .i .u8 (.num 0), .i .u8 (.num 0), .i .u8 (.num 0), .i .u8 (.num 0), .i .u8 (.num 0), .i .u8 (.num 0), .i .u8 (.num 0), .i .u32 (.num 0), .i .u8 (.num 0), .i .u8 (.num 0), .i .u8 (.num 0), .i .u8 (.num 0), .i .u8 (.num 0), .i .u8 (.num 0), .i .u8 (.num 0), .i .u8 (.num 0), .i .u8 (.num 0), .i .u8 (.num 0), .i .u8 (.num 0), .i .u8 (.num 0), .i .u8 (.num 0), .i .u8 (.num 0), .i .u8 (.num 0), .i .u8 (.num 0), .i .u8 (.num 0), .i .u8 (.num 0), .i .u8 (.num 0), .i .u8 (.num 0), .i .u8 (.num 0), .i .u8 (.num 0), .i .u8 (.num 0), .i .u8 (.num 0), .i .u8 (.num 0), .i .u8 (.num 0), .i .u8 (.num 0), .i .u8 (.num 0), .i .u8 (.num 0), .i .u8 (.num 0), .i .u8 (.num 0), .i .u8 (.num 0), .i .u8 (.num 0), .i .u8 (.num 0), .i .u16 (.wr .u16 (.c2 .rd (.fn 15 (.var 0) .nil .nil) (.num 0))), .i .u16 (.wr .u16 (.c2 .rd (.fn 15 (.var 0) .nil .nil) (.num 1))), .i .u32 (.wr .u32 (.c2 .rd (.fn 15 (.var 0) .nil .nil) (.num 2))), .i .u32 (.wr .u32 (.c2 .rd (.fn 15 (.var 0) .nil .nil) (.num 3))), .i .u8 (.wr .u8 (.c2 .rd (.fn 15 (.var 0) .nil .nil) (.num 4))), .i .u16 (.wr .u16 (.c2 .rd (.fn 15 (.var 0) .nil .nil) (.num 5))), .i .u16 (.num 0), .i .u16 (.num 0)], .c (.s 70 1 0 (.num 0) (.c2 .sub (.c1 .len (.var 0)) (.num 20))), .c (.i .i64 (.num 0))], ⟨[], [(70, some ⟨true, .row [.u8] (.c2 .drop (.num 20) (.var 0))⟩)], 71, 2, []⟩))))
       (.split (.c2 .eq (.var 1) (.num 6))
        (.split (.c1 .not (.c2 .eq (.fn 26 (.var 0) .nil .nil) (.num 0)))
         (.ret (.t [.g [.i .u8 (.num 0), .i .u8 (.num 0), .i .u8 (.num 0), .i .u8 (.num 0), .i .u8 (.num 0), .i .u8 (.num 0), .i .u8 (.num 0), .i .u8 (.num 0), .i .u8 (.num 0), .i .u8 (.num 0), .i .u8 (.num 0), .i .u8 (.num 0), .i .u8 (.num 0), .i .u16 (.num 0), .i .u8 (.num 0), .i .u16 (.num 0), .i .u16 (.num 0), .i .u8 (.num 0), .i .u8 (.num 0), .i .u8 (.num 0), .i .u16 (.num 0), .i .u8 (.num 0), .i .u8 (.num 0), .i .u8 (.num 0), .i .u8 (.num 0), .i .u8 (.num 0), .i .u8 (.num 0), .i .u8 (.num 0), .i .u8 (.num 0), .i .u8 (.num 0), .i .u32 (.num 0), .i .u8 (.num 0), .i .u8 (.num 0), .i .u8 (.num 0), .i .u8 (.num 0), .i .u8 (.num 0), .i .u8 (.num 0), .i .u8 (.num 0), .i .u8 (.num 0), .i .u8 (.num 0), .i .u8 (.num 0), .i .u8 (.num 0), .i .u8 (.num 0), .i .u8 (.num 0), .i .u8 (.num 0), .i .u8 (.num 0), .i .u8 (.num 0), .i .u8 (.num 0), .i .u8 (.num 0), .i .u8 (.num 0), .i .u8 (.num 0), .i .u8 (.num 0), .i .u8 (.num 0), .i .u8 (.num 0), .i .u8 (.num 0), .i .u8 (.num 0), .i .u8 (.num 0), .i .u8 (.num 0), .i .u8 (.num 0), .i .u8 (.num 0), .i .u8 (.num 0), .i .u8 (.num 0), .i .u8 (.num 0), .i .u8 (.num 0), .i .u8 (.num 0), .i .u16 (.num 0), .i .u16 (.num 0), .i .u32 (.num 0), .i .u32 (.num 0), .i .u8 (.num 0), .i .u16 (.num 0), .i .u16 (.num 0), .i .u16 (.num 0)], .c (.sn), .c (.i .i64 (.fn 26 (.var 0) .nil .nil))], ⟨[], [], 69, 2, []⟩))
         (.chk (.c2 .le (.num 8) (.c1 .len (.var 0)))
         (.ret (.t [.g [.i .u8 (.var 1), .i .u8 (.num 0), .i .u8 (.num 0), .i .u8 (.num 0), .i .u8 (.num 0), .i .u8 (.num 0), .i .u8 (.num 0), .i .u8 (.num 0), .i .u8 (.num 0), .i .u8 (.num 0), .i .u8 (.num 0), .i .u8 (.num 0), .i .u8 (.num 0), .i .u16 (.num 0), .i .u8 (.num 0), .i .u16 (.num 0), .i .u16 (.num 0), .i .u8 (.num 0), .i .u8 (.num 0), .i .u8 (.num 0), .i .u16 (.num 0), .i .u8 (.num 0), .i .u8 (.num 0), .i .u8 (.num 0), .i .u8 (.num 0), .i .u8 (.num 0), .i .u8 (.num 0), .i .u8 (.num 0), .i .u8 (.num 0), .i .u8 (.num 0), .i .u32 (.num 0), .i .u8 (.num 0), .i .u8 (.num 0), .i .u8 (.num 0), .i .u8 (.num 0), .i .u8 (.num 0), .i .u8 (.num 0), .i .u8 (.num 0), .i .u8 (.num 0), .i .u8 (.num 0), .i .u8 (.num 0), .i .u8 (.num 0), .i .u8 (.num 0), .i .u8 (.num 0), .i .u8 (.num 0), .i .u8 (.num 0), .i .u8 (.num 0), .i .u8 (.num 0), .i .u8 (.num 0), .i .u8 (.num 0), .i .u8 (.num 0), .i .u8 (.num 0), .i .u8 (.num 0), .i .u8 (.num 0), .i .u8 (.num 0), .i .u8 (.num 0), .i .u8 (.num 0), .i .u8 (.num 0), .i .u8 (.num 0), .i .u8 (.num 0), .i .u8 (.num 0), .i .u8 (.num 0), .i .u8 (.num 0), .i .u8 (.num 0), .i .u8 (.num 0), .i .u16 (.num 0), .i .u16 (.num 0), .i .u32 (.num 0), .i .u32 (.num 0), .i .u8 (.num 0), .i .u16 (.num 0), .i .u16 (.wr .u16 (.c2 .rd (.fn 16 (.var 0) .nil .nil) (.num 0))), .i .u16 (.wr .u16 (.c2 .rd (.fn 16 (.var 0) .nil .nil) (.num 1)))], .c (.s 70 1 0 (.num 0) (.c2 .sub (.c1 .len (.var 0)) (.num 8))), .c (.i .i64 (.num 0))], ⟨[], [(70, some ⟨true, .row [.u8] (.c2 .drop (.num 8) (.var 0))⟩)], 71, 2, []⟩))))
        (.fail 11)))))))))
theorem treeWoPop_is : funTree (ctxN Go.Proofs.Tryz.prog annsWr consW1 8) annsWr 28 (tPop 70).vs (tPop 70).bs (tPop 70).n (preF (tPop 70).res) = treeWoPop := by kernel_rfl
end Go.Proofs.YtfhjlimdakphcaaGreat.Sx
/- Sx: what Go function 11 does, as a tree of conditions (printed by a tool of this claim, proved by the kernel). Conditions: none. -/
set_option maxRecDepth 100000
namespace Go.Proofs.YtfhjlimdakphcaaGreat.Sx
open Go
def treeWoPopR : M (V × St) :=
(.split (.c2 .lt (.num 6) (.var 1))
 (.ret (.t [.g [.i .u8 (.num 0), .i .u8 (.num 0), .i .u8 (.num 0), .i .u8 (.num 0), .i .u8 (.num 0), .i .u8 (.num 0), .i .u8 (.num 0), .i .u8 (.num 0), .i .u8 (.num 0), .i .u8 (.num 0), .i .u8 (.num 0), .i .u8 (.num 0), .i .u8 (.num 0), .i .u16 (.num 0), .i .u8 (.num 0), .i .u16 (.num 0), .i .u16 (.num 0), .i .u8 (.num 0), .i .u8 (.num 0), .i .u8 (.num 0), .i .u16 (.num 0), .i .u8 (.num 0), .i .u8 (.num 0), .i .u8 (.num 0), .i .u8 (.num 0), .i .u8 (.num 0), .i .u8 (.num 0), .i .u8 (.num 0), .i .u8 (.num 0), .i .u8 (.num 0), .i .u32 (.num 0), .i .u8 (.num 0), .i .u8 (.num 0), .i .u8 (.num 0), .i .u8 (.num 0), .i .u8 (.num 0), .i .u8 (.num 0), .i .u8 (.num 0), .i .u8 (.num 0), .i .u8 (.num 0), .i .u8 (.num 0), .i .u8 (.num 0), .i .u8 (.num 0), .i .u8 (.num 0), .i .u8 (.num 0), .i .u8 (.num 0), .i .u8 (.num 0), .i .u8 (.num 0), .i .u8 (.num 0), .i .u8 (.num 0), .i .u8 (.num 0), .i .u8 (.num 0), .i .u8 (.num 0), .i .u8 (.num 0), .i .u8 (.num 0), .i .u8 (.num 0), .i .u8 (.num 0), .i .u8 (.num 0), .i .u8 (.num 0), .i .u8 (.num 0), .i .u8 (.num 0), .i .u8 (.num 0), .i .u8 (.num 0), .i .u8 (.num 0), .i .u8 (.num 0), .i .u16 (.num 0), .i .u16 (.num 0), .i .u32 (.num 0), .i .u32 (.num 0), .i .u8 (.num 0), .i .u16 (.num 0), .i .u16 (.num 0), .i .u16 (.num 0)], .c (.sn), .c (.i .i64 (.num 120))], ⟨[], [], 3, 2, []⟩))
 (.split (.c2 .eq (.c2 .rd (.cons (.num 0) (.cons (.num 14) (.cons (.num 4) (.cons (.num 20) (.cons (.num 40) (.cons (.num 20) (.cons (.num 8) .nil))))))) (.var 1)) (.num 0))
  (.ret (.t [.g [.i .u8 (.num 0), .i .u8 (.num 0), .i .u8 (.num 0), .i .u8 (.num 0), .i .u8 (.num 0), .i .u8 (.num 0), .i .u8 (.num 0), .i .u8 (.num 0), .i .u8 (.num 0), .i .u8 (.num 0), .i .u8 (.num 0), .i .u8 (.num 0), .i .u8 (.num 0), .i .u16 (.num 0), .i .u8 (.num 0), .i .u16 (.num 0), .i .u16 (.num 0), .i .u8 (.num 0), .i .u8 (.num 0), .i .u8 (.num 0), .i .u16 (.num 0), .i .u8 (.num 0), .i .u8 (.num 0), .i .u8 (.num 0), .i .u8 (.num 0), .i .u8 (.num 0), .i .u8 (.num 0), .i .u8 (.num 0), .i .u8 (.num 0), .i .u8 (.num 0), .i .u32 (.num 0), .i .u8 (.num 0), .i .u8 (.num 0), .i .u8 (.num 0), .i .u8 (.num 0), .i .u8 (.num 0), .i .u8 (.num 0), .i .u8 (.num 0), .i .u8 (.num 0), .i .u8 (.num 0), .i .u8 (.num 0), .i .u8 (.num 0), .i .u8 (.num 0), .i .u8 (.num 0), .i .u8 (.num 0), .i .u8 (.num 0), .i .u8 (.num 0), .i .u8 (.num 0), .i .u8 (.num 0), .i .u8 (.num 0), .i .u8 (.num 0), .i .u8 (.num 0), .i .u8 (.num 0), .i .u8 (.num 0), .i .u8 (.num 0), .i .u8 (.num 0), .i .u8 (.num 0), .i .u8 (.num 0), .i .u8 (.num 0), .i .u8 (.num 0), .i .u8 (.num 0), .i .u8 (.num 0), .i .u8 (.num 0), .i .u8 (.num 0), .i .u8 (.num 0), .i .u16 (.num 0), .i .u16 (.num 0), .i .u32 (.num 0), .i .u32 (.num 0), .i .u8 (.num 0), .i .u16 (.num 0), .i .u16 (.num 0), .i .u16 (.num 0)], .c (.sn), .c (.i .i64 (.num 120))], ⟨[], [], 3, 2, []⟩))
  (.split (.c2 .eq (.var 1) (.num 1))
   (.split (.c1 .not (.c2 .eq (.fn 21 (.var 0) .nil .nil) (.num 0)))
    (.ret (.t [.g [.i .u8 (.num 0), .i .u8 (.num 0), .i .u8 (.num 0), .i .u8 (.num 0), .i .u8 (.num 0), .i .u8 (.num 0), .i .u8 (.num 0), .i .u8 (.num 0), .i .u8 (.num 0), .i .u8 (.num 0), .i .u8 (.num 0), .i .u8 (.num 0), .i .u8 (.num 0), .i .u16 (.num 0), .i .u8 (.num 0), .i .u16 (.num 0), .i .u16 (.num 0), .i .u8 (.num 0), .i .u8 (.num 0), .i .u8 (.num 0), .i .u16 (.num 0), .i .u8 (.num 0), .i .u8 (.num 0), .i .u8 (.num 0), .i .u8 (.num 0), .i .u8 (.num 0), .i .u8 (.num 0), .i .u8 (.num 0), .i .u8 (.num 0), .i .u8 (.num 0), .i .u32 (.num 0), .i .u8 (.num 0), .i .u8 (.num 0), .i .u8 (.num 0), .i .u8 (.num 0), .i .u8 (.num 0), .i .u8 (.num 0), .i .u8 (.num 0), .i .u8 (.num 0), .i .u8 (.num 0), .i .u8 (.num 0), .i .u8 (.num 0), .i .u8 (.num 0), .i .u8 (.num 0), .i .u8 (.num 0), .i .u8 (.num 0), .i .u8 (.num 0), .i .u8 (.num 0), .i .u8 (.num 0), .i .u8 (.num 0), .i .u8 (.num 0), .i .u8 (.num 0), .i .u8 (.num 0), .i .u8 (.num 0), .i .u8 (.num 0), .i .u8 (.num 0), .i .u8 (.num 0), .i .u8 (.num 0), .i .u8 (.num 0), .i .u8 (.num 0), .i .u8 (.num 0), .i .u8 (.num 0), .i .u8 (.num 0), .i .u8 (.num 0), .i .u8 (.num 0), .i .u16 (.num 0), .i .u16 (.num 0), .i .u32 (.num 0), .i .u32 (.num 0), .i .u8 (.num 0), .i .u16 (.num 0), .i .u16 (.num 0), .i .u16 (.num 0)], .c (.sn), .c (.i .i64 (.fn 21 (.var 0) .nil .nil))], ⟨[], [], 68, 2, []⟩))
    (.chk (.c2 .le (.c2 .rd (.cons (.num 0) (.cons (.num 14) (.cons (.num 4) (.cons (.num 20) (.cons (.num 40) (.cons (.num 20) (.cons (.num 8) .nil))))))) (.var 1)) (.c1 .len (.var 0)))
    (.ret (.t [.g [.i .u8 (.num 1), .i .u8 (.wr .u8 (.c2 .rd (.fn 11 (.var 0) .nil .nil) (.num 0))), .i .u8 (.wr .u8 (.c2 .rd (.fn 11 (.var 0) .nil .nil) (.num 1))), .i .u8 (.wr .u8 (.c2 .rd (.fn 11 (.var 0) .nil .nil) (.num 2))), .i .u8 (.wr .u8 (.c2 .rd (.fn 11 (.var 0) .nil .nil) (.num 3))), .i .u8 (.wr .u8 (.c2 .rd (.fn 11 (.var 0) .nil .nil) (.num 4))), .i .u8 (.wr .u8 (.c2 .rd (.fn 11 (.var 0) .nil .nil) (.num 5))), .i .u8 (.wr .u8 (.c2 .rd (.fn 11 (.var 0) .nil .nil) (.num 6))), .i .u8 (.wr .u8 (.c2 .rd (.fn 11 (.var 0) .nil .nil) (.num 7))), .i .u8 (.wr .u8 (.c2 .rd (.fn 11 (.var 0) .nil .nil) (.num 8))), .i .u8 (.wr .u8 (.c2 .rd (.fn 11 (.var 0) .nil .nil) (.num 9))), .i .u8 (.wr .u8 (.c2 .rd (.fn 11 (.var 0) .nil .nil) (.num 10))), .i .u8 (.wr .u8 (.c2 .rd (.fn 11 (.var 0) .nil .nil) (.num 11))), .i .u16 (.wr .u16 (.c2 .rd (.fn 11 (.var 0) .nil .nil) (.num 12))), .i .u8 (.num 0), .i .u16 (.num 0), .i .u16 (.num 0), .i .u8 (.num 0), .i .u8 (.num 0), .i .u8 (.num 0), .i .u16 (.num 0), .i .u8 (.num 0), .i .u8 (.num 0), .i .u8 (.num 0), .i .u8 (.num 0), .i .u8 (.num 0), .i .u8 (.num 0), .i .u8 (.num 0), .i .u8 (.num 0), .i .u8 (.num 0), .i .u32 (.num 0), .i .u8 (.num 0), .i .u8 (.num 0), .i .u8 (.num 0), .i .u8 (.num 0), .i .u8 (.num 0), .i .u8 (.num 0), .i .u8 (.num 0), .i .u8 (.num 0), .i .u8 (.num 0), .i .u8 (.num 0), .i .u8 (.num 0), .i .u8 (.num 0), .i .u8 (.num 0), .i .u8 (.num 0), .i .u8 (.num 0), .i .u8 (.num 0), .i .u8 (.num 0), .i .u8 (.num 0), .i .u8 (.num 0), .i .u8 (.num 0), .i .u8 (.num 0), .i .u8 (.num 0), .i .u8 (.num 0), .i .u8 (.num 0), .i .u8 (.num 0), .i .u8 (.num 0), .i .u8 (.num 0), .i .u8 (.num 0), .i .u8 (.num 0), .i .u8 (.num 0), .i .u8 (.num 0), .i .u8 (.num 0), .i .u8 (.num 0), .i .u8 (.num 0), .i .u16 (.num 0), .i .u16 (.num 0), .i .u32 (.num 0), .i .u32 (.num 0), .i .u8 (.num 0), .i .u16 (.num 0), .i .u16 (.num 0), .i .u16 (.num 0)], .c (.s 68 1 0 (.num 0) (.c2 .sub (.c1 .len (.var 0)) (.c2 .rd (.cons (.num 0) (.cons (.num 14) (.cons (.num 4) (.cons (.num 20) (.cons (.num 40) (.cons (.num 20) (.cons (.num 8) .nil))))))) (.var 1)))), .c (.i .i64 (.num 0))], ⟨[], [(68, some ⟨true, .row [.u8] (.c2 .take (.c2 .sub (.c1 .len (.var 0)) (.c2 .rd (.cons (.num 0) (.cons (.num 14) (.cons (.num 4) (.cons (.num 20) (.cons (.num 40) (.cons (.num 20) (.cons (.num 8) .nil))))))) (.var 1))) (.c2 .drop (.c2 .rd (.cons (.num 0) (.cons (.num 14) (.cons (.num 4) (.cons (.num 20) (.cons (.num 40) (.cons (.num 20) (.cons (.num 8) .nil))))))) (.var 1)) (.var 0)))⟩)], 69, 2, []⟩))))
   (.split (.c2 .eq (.var 1) (.num 2))
    (.split (.c1 .not (.c2 .eq (.fn 22 (.var 0) .nil .nil) (.num 0)))
     (.ret (.t [.g [.i .u8 (.num 0), .i .u8 (.num 0), .i .u8 (.num 0), .i .u8 (.num 0), .i .u8 (.num 0), .i .u8 (.num 0), .i .u8 (.num 0), .i .u8 (.num 0), .i .u8 (.num 0), .i .u8 (.num 0), .i .u8 (.num 0), .i .u8 (.num 0), .i .u8 (.num 0), .i .u16 (.num 0), .i .u8 (.num 0), .i .u16 (.num 0), .i .u16 (.num 0), .i .u8 (.num 0), .i .u8 (.num 0), .i .u8 (.num 0), .i .u16 (.num 0), .i .u8 (.num 0), .i .u8 (.num 0), .i .u8 (.num 0), .i .u8 (.num 0), .i .u8 (.num 0), .i .u8 (.num 0), .i .u8 (.num 0), .i .u8 (.num 0), .i .u8 (.num 0), .i .u32 (.num 0), .i .u8 (.num 0), .i .u8 (.num 0), .i .u8 (.num 0), .i .u8 (.num 0), .i .u8 (.num 0), .i .u8 (.num 0), .i .u8 (.num 0), .i .u8 (.num 0), .i .u8 (.num 0), .i .u8 (.num 0), .i .u8 (.num 0), .i .u8 (.num 0), .i .u8 (.num 0), .i .u8 (.num 0), .i .u8 (.num 0), .i .u8 (.num 0), .i .u8 (.num 0), .i .u8 (.num 0), .i .u8 (.num 0), .i .u8 (.num 0), .i .u8 (.num 0), .i .u8 (.num 0), .i .u8 (.num 0), .i .u8 (.num 0), .i .u8 (.num 0), .i .u8 (.num 0), .i .u8 (.num 0), .i .u8 (.num 0), .i .u8 (.num 0), .i .u8 (.num 0), .i .u8 (.num 0), .i .u8 (.num 0), .i .u8 (.num 0), .i .u8 (.num 0), .i .u16 (.num 0), .i .u16 (.num 0), .i .u32 (.num 0), .i .u32 (.num 0), .i .u8 (.num 0), .i .u16 (.num 0), .i .u16 (.num 0), .i .u16 (.num 0)], .c (.sn), .c (.i .i64 (.fn 22 (.var 0) .nil .nil))], ⟨[], [], 68, 2, []⟩))
     (.chk (.c2 .le (.c2 .rd (.cons (.num 0) (.cons (.num 14) (.cons (.num 4) (.cons (.num 20) (.cons (.num 40) (.cons (.num 20) (.cons (.num 8) .nil))))))) (.var 1)) (.c1 .len (.var 0)))
     (.ret (.t [.g [.i .u8 (.num 2), .i .u8 (.num 0), .i .u8 (.num 0), .i .u8 (.num 0), .i .u8 (.num 0), .i .u8 (.num 0), .i .u8 (.num 0), .i .u8 (.num 0), .i .u8 (.num 0), .i .u8 (.num 0), .i .u8 (.num 0), .i .u8 (.num 0), .i .u8 (.num 0), .i .u16 (.num 0), .i .u8 (.wr .u8 (.c2 .rd (.fn 12 (.var 0) .nil .nil) (.num 0))), .i .u16 (.wr .u16 (.c2 .rd (.fn 12 (.var 0) .nil .nil) (.num 1))), .i .u16 (.wr .u16 (.c2 .rd (.fn 12 (.var 0) .nil .nil) (.num 2))), .i .u8 (.num 0), .i .u8 (.num 0), .i .u8 (.num 0), .i .u16 (.num 0), .i .u8 (.num 0), .i .u8 (.num 0), .i .u8 (.num 0), .i .u8 (.num 0), .i .u8 (.num 0), .i .u8 (.num 0), .i .u8 (.num 0), .i .u8 (.num 0), .i .u8 (.num 0), .i .u32 (.num 0), .i .u8 (.num 0), .i .u8 (.num 0), .i .u8 (.num 0), .i .u8 (.num 0), .i .u8 (.num 0), .i .u8 (.num 0), .i .u8 (.num 0), .i .u8 (.num 0), .i .u8 (.num 0), .i .u8 (.num 0), .i .u8 (.num 0), .i .u8 (.num 0), .i .u8 (.num 0), .i .u8 (.num 0), .i .u8 (.num 0), .i .u8 (.num 0), .i .u8 (.num 0), .i .u8 (.num 0), .i .u8 (.num 0), .i .u8 (.num 0), .i .u8 (.num 0), .i .u8 (.num 0), .i .u8 (.num 0), .i .u8 (.num 0), .i .u8 (.num 0), .i .u8 (.num 0), .i .u8 (.num 0), .i .u8 (.num 0), .i .u8 (.num 0), .i .u8 (.num 0), .i .u8 (.num 0), .i .u8 (.num 0), .i .u8 (.num 0), .i .u8 (.num 0), .i .u16 (.num 0), .i .u16 (.num 0), .i .u32 (.num 0), .i .u32 (.num 0), .i .u8 (.num 0), .i .u16 (.num 0), .i .u16 (.num 0), .i .u16 (.num 0)], .c (.s 68 1 0 (.num 0) (.c2 .sub (.c1 .len (.var 0)) (.c2 .rd (.cons (.num 0) (.cons (.num 14) (.cons (.num 4) (.cons (.num 20) (.cons (.num 40) (.cons (.num 20) (.cons (.num 8) .nil))))))) (.var 1)))), .c (.i .i64 (.num 0))], ⟨[], [(68, some ⟨true, .row [.u8] (.c2 .take (.c2 .sub (.c1 .len (.var 0)) (.c2 .rd (.cons (.num 0) (.cons (.num 14) (.cons (.num 4) (.cons (.num 20) (.cons (.num 40) (.cons (.num 20) (.cons (.num 8) .nil))))))) (.var 1))) (.c2 .drop (.c2 .rd (.cons (.num 0) (.cons (.num 14) (.cons (.num 4) (.cons (.num 20) (.cons (.num 40) (.cons (.num 20) (.cons (.num 8) .nil))))))) (.var 1)) (.var 0)))⟩)], 69, 2, []⟩))))
    (.split (.c2 .eq (.var 1) (.num 3))
     (.split (.c1 .not (.c2 .eq (.fn 23 (.var 0) .nil .nil) (.num 0)))
      (.ret (.t [.g [.i .u8 (.num 0), .i .u8 (.num 0), .i .u8 (.num 0), .i .u8 (.num 0), .i .u8 (.num 0), .i .u8 (.num 0), .i .u8 (.num 0), .i .u8 (.num 0), .i .u8 (.num 0), .i .u8 (.num 0), .i .u8 (.num 0), .i .u8 (.num 0), .i .u8 (.num 0), .i .u16 (.num 0), .i .u8 (.num 0), .i .u16 (.num 0), .i .u16 (.num 0), .i .u8 (.num 0), .i .u8 (.num 0), .i .u8 (.num 0), .i .u16 (.num 0), .i .u8 (.num 0), .i .u8 (.num 0), .i .u8 (.num 0), .i .u8 (.num 0), .i .u8 (.num 0), .i .u8 (.num 0), .i .u8 (.num 0), .i .u8 (.num 0), .i .u8 (.num 0), .i .u32 (.num 0), .i .u8 (.num 0), .i .u8 (.num 0), .i .u8 (.num 0), .i .u8 (.num 0), .i .u8 (.num 0), .i .u8 (.num 0), .i .u8 (.num 0), .i .u8 (.num 0), .i .u8 (.num 0), .i .u8 (.num 0), .i .u8 (.num 0), .i .u8 (.num 0), .i .u8 (.num 0), .i .u8 (.num 0), .i .u8 (.num 0), .i .u8 (.num 0), .i .u8 (.num 0), .i .u8 (.num 0), .i .u8 (.num 0), .i .u8 (.num 0), .i .u8 (.num 0), .i .u8 (.num 0), .i .u8 (.num 0), .i .u8 (.num 0), .i .u8 (.num 0), .i .u8 (.num 0), .i .u8 (.num 0), .i .u8 (.num 0), .i .u8 (.num 0), .i .u8 (.num 0), .i .u8 (.num 0), .i .u8 (.num 0), .i .u8 (.num 0), .i .u8 (.num 0), .i .u16 (.num 0), .i .u16 (.num 0), .i .u32 (.num 0), .i .u32 (.num 0), .i .u8 (.num 0), .i .u16 (.num 0), .i .u16 (.num 0), .i .u16 (.num 0)], .c (.sn), .c (.i .i64 (.fn 23 (.var 0) .nil .nil))], ⟨[], [], 68, 2, []⟩))
      (.chk (.c2 .le (.c2 .rd (.cons (.num 0) (.cons (.num 14) (.cons (.num 4) (.cons (.num 20) (.cons (.num 40) (.cons (.num 20) (.cons (.num 8) .nil))))))) (.var 1)) (.c1 .len (.var 0)))
      (.ret (.t [.g [.i .u8 (.num 3), .i .u8 (.num 0), .i .u8 (.num 0), .i .u8 (.num 0), .i .u8 (.num 0), .i .u8 (.num 0), .i .u8 (.num 0), .i .u8 (.num 0), .i .u8 (.num 0), .i .u8 (.num 0), .i .u8 (.num 0), .i .u8 (.num 0), .i .u8 (.num 0), .i .u16 (.num 0), .i .u8 (.num 0), .i .u16 (.num 0), .i .u16 (.num 0), .i .u8 (.wr .u8 (.c2 .rd (.fn 13 (.var 0) .nil .nil) (.num 0))), .i .u8 (.wr .u8 (.c2 .rd (.fn 13 (.var 0) .nil .nil) (.num 1))), .i .u8 (.wr .u8 (.c2 .rd (.fn 13 (.var 0) .nil .nil) (.num 2))), .i .u16 (.wr .u16 (.c2 .rd (.fn 13 (.var 0) .nil .nil) (.num 3))), .i .u8 (.wr .u8 (.c2 .rd (.fn 13 (.var 0) .nil .nil) (.num 4))), .i .u8 (.wr .u8 (.c2 .rd (.fn 13 (.var 0) .nil .nil) (.num 5))), .i .u8 (.wr .u8 (.c2 .rd (.fn 13 (.var 0) .nil .nil) (.num 6))), .i .u8 (.wr .u8 (.c2 .rd (.fn 13 (.var 0) .nil .nil) (.num 7))), .i .u8 (.wr .u8 (.c2 .rd (.fn 13 (.var 0) .nil .nil) (.num 8))), .i .u8 (.wr .u8 (.c2 .rd (.fn 13 (.var 0) .nil .nil) (.num 9))), .i .u8 (.wr .u8 (.c2 .rd (.fn 13 (.var 0) .nil .nil) (.num 10))), .i .u8 (.wr .u8 (.c2 .rd (.fn 13 (.var 0) .nil .nil) (.num 11))), .i .u8 (.num 0), .i .u32 (.num 0), .i .u8 (.num 0), .i .u8 (.num 0), .i .u8 (.num 0), .i .u8 (.num 0), .i .u8 (.num 0), .i .u8 (.num 0), .i .u8 (.num 0), .i .u8 (.num 0), .i .u8 (.num 0), .i .u8 (.num 0), .i .u8 (.num 0), .i .u8 (.num 0), .i .u8 (.num 0), .i .u8 (.num 0), .i .u8 (.num 0), .i .u8 (.num 0), .i .u8 (.num 0), .i .u8 (.num 0), .i .u8 (.num 0), .i .u8 (.num 0), .i .u8 (.num 0), .i .u8 (.num 0), .i .u8 (.num 0), .i .u8 (.num 0), .i .u8 (.num 0), .i .u8 (.num 0), .i .u8 (.num 0), .i .u8 (.num 0), .i .u8 (.num 0), .i .u8 (.num 0), .i .u8 (.num 0), .i .u8 (.num 0), .i .u8 (.num 0), .i .u8 (.num 0), .i .u16 (.num 0), .i .u16 (.num 0), .i .u32 (.num 0), .i .u32 (.num 0), .i .u8 (.num 0), .i .u16 (.num 0), .i .u16 (.num 0), .i .u16 (.num 0)], .c (.s 68 1 0 (.num 0) (.c2 .sub (.c1 .len (.var 0)) (.c2 .rd (.cons (.num 0) (.cons (.num 14) (.cons (.num 4) (.cons (.num 20) (.cons (.num 40) (.cons (.num 20) (.cons (.num 8) .nil))))))) (.var 1)))), .c (.i .i64 (.num 0))], ⟨[], [(68, some ⟨true, .row [.u8] (.c2 .take (.c2 .sub (.c1 .len (.var 0)) (.c2 .rd (.cons (.num 0) (.cons (.num 14) (.cons (.num 4) (.cons (.num 20) (.cons (.num 40) (.cons (.num 20) (.cons (.num 8) .nil))))))) (.var 1))) (.c2 .drop (.c2 .rd (.cons (.num 0) (.cons (.num 14) (.cons (.num 4) (.cons (.num 20) (.cons (.num 40) (.cons (.num 20) (.cons (.num 8) .nil))))))) (.var 1)) (.var 0)))⟩)], 69, 2, []⟩))))
     (.split (.c2 .eq (.var 1) (.num 4))
      (.split (.c1 .not (.c2 .eq (.fn 24 (.var 0) .nil .nil) (.num 0)))
       (.ret (.t [.g [.i .u8 (.num 0), .i .u8 (.num 0), .i .u8 (.num 0), .i .u8 (.num 0), .i .u8 (.num 0), .i .u8 (.num 0), .i .u8 (.num 0), .i .u8 (.num 0), .i .u8 (.num 0), .i .u8 (.num 0), .i .u8 (.num 0), .i .u8 (.num 0), .i .u8 (.num 0), .i .u16 (.num 0), .i .u8 (.num 0), .i .u16 (.num 0), .i .u16 (.num 0), .i .u8 (.num 0), .i .u8 (.num 0), .i .u8 (.num 0), .i .u16 (.num 0), .i .u8 (.num 0), .i .u8 (.num 0), .i .u8 (.num 0), .i .u8 (.num 0), .i .u8 (.num 0), .i .u8 (.num 0), .i .u8 (.num 0), .i .u8 (.num 0), .i .u8 (.num 0), .i .u32 (.num 0), .i .u8 (.num 0), .i .u8 (.num 0), .i .u8 (.num 0), .i .u8 (.num 0), .i .u8 (.num 0), .i .u8 (.num 0), .i .u8 (.num 0), .i .u8 (.num 0), .i .u8 (.num 0), .i .u8 (.num 0), .i .u8 (.num 0), .i .u8 (.num 0), .i .u8 (.num 0), .i .u8 (.num 0), .i .u8 (.num 0), .i .u8 (.num 0), .i .u8 (.num 0), .i .u8 (.num 0), .i .u8 (.num 0), .i .u8 (.num 0), .i .u8 (.num 0), .i .u8 (.num 0), .i .u8 (.num 0), .i .u8 (.num 0), .i .u8 (.num 0), .i .u8 (.num 0), .i .u8 (.num 0), .i .u8 (.num 0), .i .u8 (.num 0), .i .u8 (.num 0), .i .u8 (.num 0), .i .u8 (.num 0), .i .u8 (.num 0), .i .u8 (.num 0), .i .u16 (.num 0), .i .u16 (.num 0), .i .u32 (.num 0), .i .u32 (.num 0), .i .u8 (.num 0), .i .u16 (.num 0), .i .u16 (.num 0), .i .u16 (.num 0)], .c (.sn), .c (.i .i64 (.fn 24 (.var 0) .nil .nil))], ⟨[], [], 68, 2, []⟩))
       (.chk (.c2 .le (.c2 .rd (.cons (.num 0) (.cons (.num 14) (.cons (.num 4) (.cons (.num 20) (.cons (.num 40) (.cons (.num 20) (.cons (.num 8) .nil))))))) (.var 1)) (.c1 .len (.var 0)))
       (.ret (.t [.g [.i .u8 (.num 4), .i .u8 (.num 0), .i .u8 (.num 0), .i .u8 (.num 0), .i .u8 (.num 0), .i .u8 (.num 0), .i .u8 (.num 0), .i .u8 (.num 0), .i .u8 (.num 0), .i .u8 (.num 0), .i .u8 (.num 0), .i .u8 (.num 0), .i .u8 (.num 0), .i .u16 (.num 0), .i .u8 (.num 0), .i .u16 (.num 0), .i .u16 (.num 0), .i .u8 (.num 0), .i .u8 (.num 0), .i .u8 (.num 0), .i .u16 (.num 0), .i .u8 (.num 0), .i .u8 (.num 0), .i .u8 (.num 0), .i .u8 (.num 0), .i .u8 (.num 0), .i .u8 (.num 0), .i .u8 (.num 0), .i .u8 (.num 0), .i .u8 (.wr .u8 (.c2 .rd (.fn 14 (.var 0) .nil .nil) (.num 0))), .i .u32 (.wr .u32 (.c2 .rd (.fn 14 (.var 0) .nil .nil) (.num 1))), .i .u8 (.wr .u8 (.c2 .rd (.fn 14 (.var 0) .nil .nil) (.num 2))), .i .u8 (.wr .u8 (.c2 .rd (.fn 14 (.var 0) .nil .nil) (.num 3))), .i .u8 (.wr .u8 (.c2 .rd (.fn 14 (.var 0) .nil .nil) (.num 4))), .i .u8 (.wr .u8 (.c2 .rd (.fn 14 (.var 0) .nil .nil) (.num 5))), .i .u8 (.wr .u8 (.c2 .rd (.fn 14 (.var 0) .nil .nil) (.num 6))), .i .u8 (.wr .u8 (.c2 .rd (.fn 14 (.var 0) .nil .nil) (.num 7))), .i .u8 (.wr .u8 (.c2 .rd (.fn 14 (.var 0) .nil .nil) (.num 8))), .i .u8 (.wr .u8 (.c2 .rd (.fn 14 (.var 0) .nil .nil) (.num 9))), .i .u8 (.wr .u8 (.c2 .rd (.fn 14 (.var 0) .nil .nil) (.num 10))), .i .u8 (.wr .u8 (.c2 .rd (.fn 14 (.var 0) .nil .nil) (.num 11))), .i .u8 (.wr .u8 (.c2 .rd (.fn 14 (.var 0) .nil .nil) (.num 12))), .i .u8 (.wr .u8 (.c2 .rd (.fn 14 (.var 0) .nil .nil) (.num 13))), .i .u8 (.wr .u8 (.c2 .rd (.fn 14 (.var 0) .nil .nil) (.num 14))), .i .u8 (.wr .u8 (.c2 .rd (.fn 14 (.var 0) .nil .nil) (.num 15))), .i .u8 (.wr .u8 (.c2 .rd (.fn 14 (.var 0) .nil .nil) (.num 16))), .i .u8 (.wr .u8 (.c2 .rd (.fn 14 (.var 0) .nil .nil) (.num 17))), .i .u8 (.wr .u8 (.c2 .rd (.fn 14 (.var 0) .nil .nil) (.num 18))), .i .u8 (.wr .u8 (.c2 .rd (.fn 14 (.var 0) .nil .nil) (.num 19))), .i .u8 (.wr .u8 (.c2 .rd (.fn 14 (.var 0) .nil .nil) (.num 20))), .i .u8 (.wr .u8 (.c2 .rd (.fn 14 (.var 0) .nil .nil) (.num 21))), .i .u8 (.wr .u8 (.c2 .rd (.fn 14 (.var 0) .nil .nil) (.num 22))), .i .u8 (.wr .u8 (.c2 .rd (.fn 14 (.var 0) .nil .nil) (.num 23))), .i .u8 (.wr .u8 (.c2 .rd (.fn 14 (.var 0) .nil .nil) (.num 24))), .i .u8 (.wr .u8 (.c2 .rd (.fn 14 (.var 0) .nil .nil) (.num 25))), .i .u8 (.wr .u8 (.c2 .rd (.fn 14 (.var 0) .nil .nil) (.num 26))), .i .u8 (.wr .u8 (.c2 .rd (.fn 14 (.var 0) .nil .nil) (.num 27))), .i .u8 (.wr .u8 (.c2 .rd (.fn 14 (.var 0) .nil .nil) (.num 28))), .i .u8 (.wr .u8 (.c2 .rd (.fn 14 (.var 0) .nil .nil) (.num 29))), .i .u8 (.wr .u8 (.c2 .rd (.fn 14 (.var 0) .nil .nil) (.num 30))), .i .u8 (.wr .u8 (.c2 .rd (.fn 14 (.var 0) .nil .nil) (.num 31))), .i .u8 (.wr .u8 (.c2 .rd (.fn 14 (.var 0) .nil .nil) (.num 32))), .i .u8 (.wr .u8 (.c2 .rd (.fn 14 (.var 0) .nil .nil) (.num 33))), .i .u8 (.wr .u8 (.c2 .rd (.fn 14 (.var 0) .nil .nil) (.num 34))), .i .u8 (.wr .u8 (.c2 .rd (.fn 14 (.var 0) .nil .nil) (.num 35))), .i .u16 (.num 0), .i .u16 (.num 0), .i .u32 (.num 0), .i .u32 (.num 0), .i .u8 (.num 0), .i .u16 (.num 0), .i .u16 (.num 0), .i .u16 (.num 0)], .c (.s 68 1 0 (.num 0) (.c2 .sub (.c1 .len (.var 0)) (.c2 .rd (.cons (.num 0) (.cons (.num 14) (.cons (.num 4) (.cons (.num 20) (.cons (.num 40) (.cons (.num 20) (.cons (.num 8) .nil))))))) (.var 1)))), .c (.i .i64 (.num 0))], ⟨[], [(68, some ⟨true, .row [.u8] (.c2 .take (.c2 .sub (.c1 .len (.var 0)) (.c2 .rd (.cons (.num 0) (.cons (.num 14) (.cons (.num 4) (.cons (.num 20) (.cons (.num 40) (.cons (.num 20) (.cons (.num 8) .nil))))))) (.var 1))) (.c2 .drop (.c2 .rd (.cons (.num 0) (.cons (.num 14) (.cons (.num 4) (.cons (.num 20) (.cons (.num 40) (.cons (.num 20) (.cons (.num 8) .nil))))))) (.var 1)) (.var 0)))⟩)], 69, 2, []⟩))))
      (.split (.c2 .eq (.var 1) (.num 5))
       (.split (.c1 .not (.c2 .eq (.fn 25 (.var 0) .nil .nil) (.num 0)))
        (.ret (.t [.g [.i .u8 (.num 0), .i .u8 (.num 0), .i .u8 (.num 0), .i .u8 (.num 0), .i .u8 (.num 0), .i .u8 (.num 0), .i .u8 (.num 0), .i .u8 (.num 0), .i .u8 (.num 0), .i .u8 (.num 0), .i .u8 (.num 0), .i .u8 (.num 0), .i .u8 (.num 0), .i .u16 (.num 0), .i .u8 (.num 0), .i .u16 (.num 0), .i .u16 (.num 0), .i .u8 (.num 0), .i .u8 (.num 0), .i .u8 (.num 0), .i .u16 (.num 0), .i .u8 (.num 0), .i .u8 (.num 0), .i .u8 (.num 0), .i .u8 (.num 0), .i .u8 (.num 0), .i .u8 (.num 0), .i .u8 (.num 0), .i .u8 (.num 0), .i .u8 (.num 0), .i .u32 (.num 0), .i .u8 (.num 0), .i .u8 (.num 0), .i .u8 (.num 0), .i .u8 (.num 0), .i .u8 (.num 0), .i .u8 (.num 0), .i .u8 (.num 0), .i .u8 (.num 0), .i .u8 (.num 0), .i .u8 (.num 0), .i .u8 (.num 0), .i .u8 (.num 0), .i .u8 (.num 0), .i .u8 (.num 0), .i .u8 (.num 0), .i .u8 (.num 0), .i .u8 (.num 0), .i .u8 (.num 0), .i .u8 (.num 0), .i .u8 (.num 0), .i .u8 (.num 0), .i .u8 (.num 0), .i .u8 (.num 0), .i .u8 (.num 0), .i .u8 (.num 0), .i .u8 (.num 0), .i .u8 (.num 0), .i .u8 (.num 0), .i .u8 (.num 0), .i .u8 (.num 0), .i .u8 (.num 0), .i .u8 (.num 0), .i .u8 (.num 0), .i .u8 (.num 0), .i .u16 (.num 0), .i .u16 (.num 0), .i .u32 (.num 0), .i .u32 (.num 0), .i .u8 (.num 0), .i .u16 (.num 0), .i .u16 (.num 0), .i .u16 (.num 0)], .c (.sn), .c (.i .i64 (.fn 25 (.var 0) .nil .nil))], ⟨[], [], 68, 2, []⟩))
        (.chk (.c2 .le (.c2 .rd (.cons (.num 0) (.cons (.num 14) (.cons (.num 4) (.cons (.num 20) (.cons (.num 40) (.cons (.num 20) (.cons (.num 8) .nil))))))) (.var 1)) (.c1 .len (.var 0)))
        (.ret (.t [.g [.i .u8 (.num 5), .i .u8 (.num 0), .i .u8 (.num 0), .i .u8 (.num 0), .i .u8 (.num 0), .i .u8 (.num 0), .i .u8 (.num 0), .i .u8 (.num 0), .i .u8 (.num 0), .i .u8 (.num 0), .i .u8 (.num 0), .i .u8 (.num 0), .i .u8 (.num 0), .i .u16 (.num 0), .i .u8 (.num 0), .i .u16 (.num 0), .i .u16 (.num 0), .i .u8 (.num 0), .i .u8 (.num 0), .i .u8 (.num 0), .i .u16 (.num 0), .i .u8 (.num 0), .i .u8 (.num 0), .i .u8 (.num 0), .i .u8 (.num 0), .i .u8 (.num 0), .i .u8 (.num 0), .i .u8 (.num 0), .i .u8 (.num 0), .i .u8 (.num 0), .i .u32 (.num 0), .i .u8 (.num 0), .i .u8 (.num 0), .i .u8 (.num 0), .i .u8 (.num 0), .i .u8 (.num 0), .i .u8 (.num 0), .i .u8 (.num 0), .i .u8 (.num 0), .i .u8 (.num 0), .i .u8 (.num 0), .i .u8 (.num 0), .i .u8 (.num 0), .i .u8 (.num 0), .i .u8 (.num 0), .i .u8 (.num 0), .i .u8 (.num 0), .i .u8 (.num 0), .i .u8 (.num 0), .i .u8 (.num 0), .i .u8 (.num 0), .i .u8 (.num 0), .i .u8 (.num 0), .i .u8 (.num 0), .i .u8 (.num 0), .i .u8 (.num 0), .i .u8 (.num 0), .i .u8 (.num 0), .i .u8 (.num 0), .i .u8 (.num 0), .i .u8 (.num 0), .i .u8 (.num 0), .i .u8 (.num 0), .i .u8 (.num 0), .i .u8 (.num 0), .i .u16 (.wr .u16 (.c2 .rd (.fn 15 (.var 0) .nil .nil) (.num 0))), .i .u16 (.wr .u16 (.c2 .rd (.fn 15 (.var 0) .nil .nil) (.num 1))), .i .u32 (.wr .u32 (.c2 .rd (.fn 15 (.var 0) .nil .nil) (.num 2))), .i .u32 (.wr .u32 (.c2 .rd (.fn 15 (.var 0) .nil .nil) (.num 3))), .i .u8 (.wr .u8 (.c2 .rd (.fn 15 (.var 0) .nil .nil) (.num 4))), .i .u16 (.wr .u16 (.c2 .rd (.fn 15 (.var 0) .nil .nil) (.num 5))), .i .u16 (.num 0), .i .u16 (.num 0)], .c (.s 68 1 0 (.num 0) (.c2 .sub (.c1 .len (.var 0)) (.c2 .rd (.cons (.num 0) (.cons (.num 14) (.cons (.num 4) (.cons (.num 20) (.cons (.num 40) (.cons (.num 20) (.cons (.num 8) .nil))))))) (.var 1)))), .c (.i .i64 (.num 0))], ⟨[], [(68, some ⟨true, .row [.u8] (.c2 .take (.c2 .sub (.c1 .len (.var 0)) (.c2 .rd (.cons (.num 0) (.cons (.num 14) (.cons (.num 4) (.cons (.num 20) (.cons (.num 40) (.cons (.num 20) (.cons (.num 8) .nil))))))) (.var 1))) (.c2 .drop (.c2 .rd (.cons (.num 0) (.cons (.num 14) (.cons (.num 4) (.cons (.num 20) (.cons (.num 40) (.cons (.num 20) (.cons (.num 8) .nil))))))) (.var 1)) (.var 0)))⟩)], 69, 2, []⟩))))
       (.split (.c1 .not (.c2 .eq (.fn 26 (.var 0) .nil .nil) (.num 0)))
        (.ret (.t [.g [.i .u8 (.num 0), .i .u8 (.num 0), .i .u8 (.num 0), .i .u8 (.num 0), .i .u8 (.num 0), .i .u8 (.num 0), .i .u8 (.num 0), .i .u8 (.num 0), .i .u8 (.num 0), .i .u8 (.num 0), .i .u8 (.num 0), .i .u8 (.num 0), .i .u8 (.num 0), .i .u16 (.num 0), .i .u8 (.num 0), .i .u16 (.num 0), .i .u16 (.num 0), .i .u8 (.num 0), .i .u8 (.num 0), .i .u8 (.num 0), .i .u16 (.num 0), .i .u8 (.num 0), .i .u8 (.num 0), .i .u8 (.num 0), .i .u8 (.num 0), .i .u8 (.num 0), .i .u8 (.num 0), .i .u8 (.num 0), .i .u8 (.num 0), .i .u8 (.num 0), .i .u32 (.num 0), .i .u8 (.num 0), .i .u8 (.num 0), .i .u8 (.num 0), .i .u8 (.num 0), .i .u8 (.num 0), .i .u8 (.num 0), .i .u8 (.num 0), .i .u8 (.num 0), .i .u8 (.num 0), .i .u8 (.num 0), .i .u8 (.num 0), .i .u8 (.num 0), .i .u8 (.num 0), .i .u8 (.num 0), .i .u8 (.num 0), .i .u8 (.num 0), .i .u8 (.num 0), .i .u8 (.num 0), .i .u8 (.num 0), .i .u8 (.num 0), .i .u8 (.num 0), .i .u8 (.num 0), .i .u8 (.num 0), .i .u8 (.num 0), .i .u8 (.num 0), .i .u8 (.num 0), .i .u8 (.num 0), .i .u8 (.num 0), .i .u8 (.num 0), .i .u8 (.num 0), .i .u8 (.num 0), .i .u8 (.num 0), .i .u8 (.num 0), .i .u8 (.num 0), .i .u16 (.num 0), .i .u16 (.num 0), .i .u32 (.num 0), .i .u32 (.num 0), .i .u8 (.num 0), .i .u16 (.num 0), .i .u16 (.num 0), .i .u16 (.num 0)], .c (.sn), .c (.i .i64 (.fn 26 (.var 0) .nil .nil))], ⟨[], [], 68, 2, []⟩))
        (.chk (.c2 .le (.c2 .rd (.cons (.num 0) (.cons (.num 14) (.cons (.num 4) (.cons (.num 20) (.cons (.num 40) (.cons (.num 20) (.cons (.num 8) .nil))))))) (.var 1)) (.c1 .len (.var 0)))
        (.ret (.t [.g [.i .u8 (.num 6), .i .u8 (.num 0), .i .u8 (.num 0), .i .u8 (.num 0), .i .u8 (.num 0), .i .u8 (.num 0), .i .u8 (.num 0), .i .u8 (.num 0), .i .u8 (.num 0), .i .u8 (.num 0), .i .u8 (.num 0), .i .u8 (.num 0), .i .u8 (.num 0), .i .u16 (.num 0), .i .u8 (.num 0), .i .u16 (.num 0), .i .u16 (.num 0), .i .u8 (.num 0), .i .u8 (.num 0), .i .u8 (.num 0), .i .u16 (.num 0), .i .u8 (.num 0), .i .u8 (.num 0), .i .u8 (.num 0), .i .u8 (.num 0), .i .u8 (.num 0), .i .u8 (.num 0), .i .u8 (.num 0), .i .u8 (.num 0), .i .u8 (.num 0), .i .u32 (.num 0), .i .u8 (.num 0), .i .u8 (.num 0), .i .u8 (.num 0), .i .u8 (.num 0), .i .u8 (.num 0), .i .u8 (.num 0), .i .u8 (.num 0), .i .u8 (.num 0), .i .u8 (.num 0), .i .u8 (.num 0), .i .u8 (.num 0), .i .u8 (.num 0), .i .u8 (.num 0), .i .u8 (.num 0), .i .u8 (.num 0), .i .u8 (.num 0), .i .u8 (.num 0), .i .u8 (.num 0), .i .u8 (.num 0), .i .u8 (.num 0), .i .u8 (.num 0), .i .u8 (.num 0), .i .u8 (.num 0), .i .u8 (.num 0), .i .u8 (.num 0), .i .u8 (.num 0), .i .u8 (.num 0), .i .u8 (.num 0), .i .u8 (.num 0), .i .u8 (.num 0), .i .u8 (.num 0), .i .u8 (.num 0), .i .u8 (.num 0), .i .u8 (.num 0), .i .u16 (.num 0), .i .u16 (.num 0), .i .u32 (.num 0), .i .u32 (.num 0), .i .u8 (.num 0), .i .u16 (.num 0), .i .u16 (.wr .u16 (.c2 .rd (.fn 16 (.var 0) .nil .nil) (.num 0))), .i .u16 (.wr .u16 (.c2 .rd (.fn 16 (.var 0) .nil .nil) (.num 1)))], .c (.s 68 1 0 (.num 0) (.c2 .sub (.c1 .len (.var 0)) (.c2 .rd (.cons (.num 0) (.cons (.num 14) (.cons (.num 4) (.cons (.num 20) (.cons (.num 40) (.cons (.num 20) (.cons (.num 8) .nil))))))) (.var 1)))), .c (.i .i64 (.num 0))], ⟨[], [(68, some ⟨true, .row [.u8] (.c2 .take (.c2 .sub (.c1 .len (.var 0)) (.c2 .rd (.cons (.num 0) (.cons (.num 14) (.cons (.num 4) (.cons (.num 20) (.cons (.num 40) (.cons (.num 20) (.cons (.num 8) .nil))))))) (.var 1))) (.c2 .drop (.c2 .rd (.cons (.num 0) (.cons (.num 14) (.cons (.num 4) (.cons (.num 20) (.cons (.num 40) (.cons (.num 20) (.cons (.num 8) .nil))))))) (.var 1)) (.var 0)))⟩)], 69, 2, []⟩)))))))))))
theorem treeWoPopR_is : funTree (ctxN Go.Proofs.Tryz.prog annsWr consW2 8) annsWr 11 (tPop 68).vs (tPop 68).bs (tPop 68).n (preF (tPop 68).res) = treeWoPopR := by kernel_rfl
end Go.Proofs.YtfhjlimdakphcaaGreat.Sx
/- Sx: what Go function 111 does, as a tree of conditions (printed by a tool of this claim, proved by the kernel). Conditions: none. -/
set_option maxRecDepth 100000
namespace Go.Proofs.YtfhjlimdakphcaaGreat.Sx
open Go
def treeWdLink : M (V × St) :=
(.split (.c2 .lt (.num 2034) (.c1 .len (.var 13)))
 (.ret (.t [.c (.sn), .c (.i .i64 (.num 5))], ⟨[], [], 3, 14, []⟩))
 (.ret (.t [.c (.s 3 1 0 (.num 0) (.num 14)), .c (.i .i64 (.num 0))], ⟨[], [(3, some ⟨true, .row [.u8] (.cons (.var 0) (.cons (.var 1) (.cons (.var 2) (.cons (.var 3) (.cons (.var 4) (.cons (.var 5) (.cons (.var 6) (.cons (.var 7) (.cons (.var 8) (.cons (.var 9) (.cons (.var 10) (.cons (.var 11) (.cons (.c2 .fdiv (.var 12) (.num 256)) (.cons (.c2 .sub (.var 12) (.c2 .mul (.c2 .fdiv (.var 12) (.num 256)) (.num 256))) .nil))))))))))))))⟩)], 4, 14, []⟩)))
theorem treeWdLink_is : funTree (ctxN Go.Proofs.Tryz.prog annsHd consSum 8) annsHd 111 (tBytes 1 3 60 14 kLink).vs (tBytes 1 3 60 14 kLink).bs (tBytes 1 3 60 14 kLink).n (preF (tBytes 1 3 60 14 kLink).res) = treeWdLink := by kernel_rfl
end Go.Proofs.YtfhjlimdakphcaaGreat.Sx
/- Sx: what Go function 61 does, as a tree of conditions (printed by a tool of this claim, proved by the kernel). Conditions: none. -/
set_option maxRecDepth 100000
namespace Go.Proofs.YtfhjlimdakphcaaGreat.Sx
open Go
def treeWrLink : M (V × St) :=
(.split (.c2 .lt (.num 2034) (.c1 .len (.var 13)))
 (.ret (.t [.c (.sn), .c (.i .i64 (.num 5))], ⟨[], [], 3, 14, []⟩))
 (.ret (.t [.c (.s 6 1 0 (.num 0) (.num 14)), .c (.i .i64 (.num 0))], ⟨[], [(6, some ⟨true, .row [.u8] (.cons (.var 0) (.cons (.var 1) (.cons (.var 2) (.cons (.var 3) (.cons (.var 4) (.cons (.var 5) (.cons (.var 6) (.cons (.var 7) (.cons (.var 8) (.cons (.var 9) (.cons (.var 10) (.cons (.var 11) (.cons (.c2 .fdiv (.var 12) (.num 256)) (.cons (.c2 .sub (.var 12) (.c2 .mul (.c2 .fdiv (.var 12) (.num 256)) (.num 256))) .nil))))))))))))))⟩)], 7, 14, []⟩)))
theorem treeWrLink_is : funTree (ctxN Go.Proofs.Tryz.prog annsHd consSum 8) annsHd 61 (tBytes 1 6 60 14 kLink).vs (tBytes 1 6 60 14 kLink).bs (tBytes 1 6 60 14 kLink).n (preF (tBytes 1 6 60 14 kLink).res) = treeWrLink := by kernel_rfl
end Go.Proofs.YtfhjlimdakphcaaGreat.Sx
/- Sx laws of headers: the writers of layer Link. Conditions: none. -/
set_option linter.unusedVariables false
set_option linter.unusedSimpArgs false
namespace Go.Proofs.YtfhjlimdakphcaaGreat.Sx
open Go
set_option maxRecDepth 100000 in
theorem wdLink_ok {Φ : Sig} (hΦ : HdSig Φ) : TmplOk Go.Proofs.Tryz.prog Φ 111 (tBytes 1 3 60 14 kLink) := by
  refine tmpl_of (consSum_ok hΦ.toSumSig) treeWdLink_is (fun ρ res hres => ⟨eqJ, ?_⟩)
  obtain ⟨hk, hres⟩ := inKs_some hres
  obtain ⟨h0, hres⟩ := short_some hres
  obtain ⟨hb, hres⟩ := bytes_some hres
  have hr := wr_res (n := 13) hΦ ⟨by decide, by decide⟩ hres
  have h0' : (ρ 13).list.length ≤ 140737488351232 := h0
  have hb' : Bytes (ρ 13).list := hb
  have a0 : (hdrOf Φ ρ 13)[0]?.getD 0 = (ρ 0).int := hdr_at 13 0 (by decide)
  have a1 : (hdrOf Φ ρ 13)[1]?.getD 0 = (ρ 1).int := hdr_at 13 1 (by decide)
  have a2 : (hdrOf Φ ρ 13)[2]?.getD 0 = (ρ 2).int := hdr_at 13 2 (by decide)
  have a3 : (hdrOf Φ ρ 13)[3]?.getD 0 = (ρ 3).int := hdr_at 13 3 (by decide)
  have a4 : (hdrOf Φ ρ 13)[4]?.getD 0 = (ρ 4).int := hdr_at 13 4 (by decide)
  have a5 : (hdrOf Φ ρ 13)[5]?.getD 0 = (ρ 5).int := hdr_at 13 5 (by decide)
  have a6 : (hdrOf Φ ρ 13)[6]?.getD 0 = (ρ 6).int := hdr_at 13 6 (by decide)
  have a7 : (hdrOf Φ ρ 13)[7]?.getD 0 = (ρ 7).int := hdr_at 13 7 (by decide)
  have a8 : (hdrOf Φ ρ 13)[8]?.getD 0 = (ρ 8).int := hdr_at 13 8 (by decide)
  have a9 : (hdrOf Φ ρ 13)[9]?.getD 0 = (ρ 9).int := hdr_at 13 9 (by decide)
  have a10 : (hdrOf Φ ρ 13)[10]?.getD 0 = (ρ 10).int := hdr_at 13 10 (by decide)
  have a11 : (hdrOf Φ ρ 13)[11]?.getD 0 = (ρ 11).int := hdr_at 13 11 (by decide)
  have a12 : (hdrOf Φ ρ 13)[12]?.getD 0 = (ρ 12).int := hdr_at 13 12 (by decide)
  have b0 := hk 0 .u8 rfl
  have b1 := hk 1 .u8 rfl
  have b2 := hk 2 .u8 rfl
  have b3 := hk 3 .u8 rfl
  have b4 := hk 4 .u8 rfl
  have b5 := hk 5 .u8 rfl
  have b6 := hk 6 .u8 rfl
  have b7 := hk 7 .u8 rfl
  have b8 := hk 8 .u8 rfl
  have b9 := hk 9 .u8 rfl
  have b10 := hk 10 .u8 rfl
  have b11 := hk 11 .u8 rfl
  have b12 := hk 12 .u16 rfl
  simp only [kmin, kmax, Nat.zero_add] at b0 b1 b2 b3 b4 b5 b6 b7 b8 b9 b10 b11 b12
  have m1 : ∀ x : Int, x - x / 256 * 256 = x % 256 := fun x => by omega
  refine ⟨fun c1 => ?_, fun c1 => ?_⟩
  · simp [hΦ.sum, hΦ.ocs, wrap_ocs, m1] at c1
    have hz : wrFail 1 (hdrOf Φ ρ 13) (ρ 13).list = 5 := by
      simp only [wrFail, g, a0, a1, a2, a3, a4, a5, a6, a7, a8, a9, a10, a11, a12]
      repeat' split
      all_goals first | rfl | omega
    exact leaf_wr_err hr hz (by decide) (by decide)
  · simp [hΦ.sum, hΦ.ocs, wrap_ocs, m1] at c1
    have hz : wrFail 1 (hdrOf Φ ρ 13) (ρ 13).list = 0 := by
      simp only [wrFail, g, a0, a1, a2, a3, a4, a5, a6, a7, a8, a9, a10, a11, a12]
      repeat' split
      all_goals first | rfl | omega
    refine leaf_wr_ok hr hz ?_ rfl (by decide)
    simp only [list_cons, list_nil, int_add, int_sub, int_mul, int_fdiv, int_len, den_var, den_num, D.int_i, fdiv_lit, m1, int_wr, den_fn, hΦ.sum, hΦ.ocs, wrap_ocs, wrGood, wrBase, putF, fld, fld1, List.set_cons_succ, List.set_cons_zero, List.cons_append, List.nil_append, g, a0, a1, a2, a3, a4, a5, a6, a7, a8, a9, a10, a11, a12]
    all_goals try simp only [List.cons.injEq, and_true, true_and]
    all_goals repeat' apply And.intro
    all_goals first | rfl | omega
set_option maxRecDepth 100000 in
theorem wrLink_ok {Φ : Sig} (hΦ : HdSig Φ) : TmplOk Go.Proofs.Tryz.prog Φ 61 (tBytes 1 6 60 14 kLink) := by
  refine tmpl_of (consSum_ok hΦ.toSumSig) treeWrLink_is (fun ρ res hres => ⟨eqJ, ?_⟩)
  obtain ⟨hk, hres⟩ := inKs_some hres
  obtain ⟨h0, hres⟩ := short_some hres
  obtain ⟨hb, hres⟩ := bytes_some hres
  have hr := wr_res (n := 13) hΦ ⟨by decide, by decide⟩ hres
  have h0' : (ρ 13).list.length ≤ 140737488351232 := h0
  have hb' : Bytes (ρ 13).list := hb
  have a0 : (hdrOf Φ ρ 13)[0]?.getD 0 = (ρ 0).int := hdr_at 13 0 (by decide)
  have a1 : (hdrOf Φ ρ 13)[1]?.getD 0 = (ρ 1).int := hdr_at 13 1 (by decide)
  have a2 : (hdrOf Φ ρ 13)[2]?.getD 0 = (ρ 2).int := hdr_at 13 2 (by decide)
  have a3 : (hdrOf Φ ρ 13)[3]?.getD 0 = (ρ 3).int := hdr_at 13 3 (by decide)
  have a4 : (hdrOf Φ ρ 13)[4]?.getD 0 = (ρ 4).int := hdr_at 13 4 (by decide)
  have a5 : (hdrOf Φ ρ 13)[5]?.getD 0 = (ρ 5).int := hdr_at 13 5 (by decide)
  have a6 : (hdrOf Φ ρ 13)[6]?.getD 0 = (ρ 6).int := hdr_at 13 6 (by decide)
  have a7 : (hdrOf Φ ρ 13)[7]?.getD 0 = (ρ 7).int := hdr_at 13 7 (by decide)
  have a8 : (hdrOf Φ ρ 13)[8]?.getD 0 = (ρ 8).int := hdr_at 13 8 (by decide)
  have a9 : (hdrOf Φ ρ 13)[9]?.getD 0 = (ρ 9).int := hdr_at 13 9 (by decide)
  have a10 : (hdrOf Φ ρ 13)[10]?.getD 0 = (ρ 10).int := hdr_at 13 10 (by decide)
  have a11 : (hdrOf Φ ρ 13)[11]?.getD 0 = (ρ 11).int := hdr_at 13 11 (by decide)
  have a12 : (hdrOf Φ ρ 13)[12]?.getD 0 = (ρ 12).int := hdr_at 13 12 (by decide)
  have b0 := hk 0 .u8 rfl
  have b1 := hk 1 .u8 rfl
  have b2 := hk 2 .u8 rfl
  have b3 := hk 3 .u8 rfl
  have b4 := hk 4 .u8 rfl
  have b5 := hk 5 .u8 rfl
  have b6 := hk 6 .u8 rfl
  have b7 := hk 7 .u8 rfl
  have b8 := hk 8 .u8 rfl
  have b9 := hk 9 .u8 rfl
  have b10 := hk 10 .u8 rfl
  have b11 := hk 11 .u8 rfl
  have b12 := hk 12 .u16 rfl
  simp only [kmin, kmax, Nat.zero_add] at b0 b1 b2 b3 b4 b5 b6 b7 b8 b9 b10 b11 b12
  have m1 : ∀ x : Int, x - x / 256 * 256 = x % 256 := fun x => by omega
  refine ⟨fun c1 => ?_, fun c1 => ?_⟩
  · simp [hΦ.sum, hΦ.ocs, wrap_ocs, m1] at c1
    have hz : wrFail 1 (hdrOf Φ ρ 13) (ρ 13).list = 5 := by
      simp only [wrFail, g, a0, a1, a2, a3, a4, a5, a6, a7, a8, a9, a10, a11, a12]
      repeat' split
      all_goals first | rfl | omega
    exact leaf_wr_err hr hz (by decide) (by decide)
  · simp [hΦ.sum, hΦ.ocs, wrap_ocs, m1] at c1
    have hz : wrFail 1 (hdrOf Φ ρ 13) (ρ 13).list = 0 := by
      simp only [wrFail, g, a0, a1, a2, a3, a4, a5, a6, a7, a8, a9, a10, a11, a12]
      repeat' split
      all_goals first | rfl | omega
    refine leaf_wr_ok hr hz ?_ rfl (by decide)
    simp only [list_cons, list_nil, int_add, int_sub, int_mul, int_fdiv, int_len, den_var, den_num, D.int_i, fdiv_lit, m1, int_wr, den_fn, hΦ.sum, hΦ.ocs, wrap_ocs, wrGood, wrBase, putF, fld, fld1, List.set_cons_succ, List.set_cons_zero, List.cons_append, List.nil_append, g, a0, a1, a2, a3, a4, a5, a6, a7, a8, a9, a10, a11, a12]
    all_goals try simp only [List.cons.injEq, and_true, true_and]
    all_goals repeat' apply And.intro
    all_goals first | rfl | omega
end Go.Proofs.YtfhjlimdakphcaaGreat.Sx
/- Sx: what Go function 117 does, as a tree of conditions (printed by a tool of this claim, proved by the kernel). Conditions: none. -/
set_option maxRecDepth 100000
namespace Go.Proofs.YtfhjlimdakphcaaGreat.Sx
open Go
def treeWdTag : M (V × St) :=
(.split (.c2 .lt (.num 7) (.var 0))
 (.ret (.t [.c (.sn), .c (.i .i64 (.num 60))], ⟨[], [], 3, 4, []⟩))
 (.split (.c2 .lt (.num 4095) (.var 1))
  (.ret (.t [.c (.sn), .c (.i .i64 (.num 60))], ⟨[], [], 3, 4, []⟩))
  (.split (.c2 .lt (.num 2044) (.c1 .len (.var 3)))
   (.ret (.t [.c (.sn), .c (.i .i64 (.num 5))], ⟨[], [], 3, 4, []⟩))
   (.ret (.t [.c (.s 3 1 0 (.num 0) (.num 4)), .c (.i .i64 (.num 0))], ⟨[], [(3, some ⟨true, .row [.u8] (.cons (.c2 .fdiv (.c2 .add (.c2 .mul (.var 0) (.num 8192)) (.var 1)) (.num 256)) (.cons (.c2 .sub (.c2 .add (.c2 .mul (.var 0) (.num 8192)) (.var 1)) (.c2 .mul (.c2 .fdiv (.c2 .add (.c2 .mul (.var 0) (.num 8192)) (.var 1)) (.num 256)) (.num 256))) (.cons (.c2 .fdiv (.var 2) (.num 256)) (.cons (.c2 .sub (.var 2) (.c2 .mul (.c2 .fdiv (.var 2) (.num 256)) (.num 256))) .nil))))⟩)], 4, 4, []⟩)))))
theorem treeWdTag_is : funTree (ctxN Go.Proofs.Tryz.prog annsHd consSum 8) annsHd 117 (tBytes 2 3 60 4 kTag).vs (tBytes 2 3 60 4 kTag).bs (tBytes 2 3 60 4 kTag).n (preF (tBytes 2 3 60 4 kTag).res) = treeWdTag := by kernel_rfl
end Go.Proofs.YtfhjlimdakphcaaGreat.Sx
/- Sx: what Go function 62 does, as a tree of conditions (printed by a tool of this claim, proved by the kernel). Conditions: none. -/
set_option maxRecDepth 100000
namespace Go.Proofs.YtfhjlimdakphcaaGreat.Sx
open Go
def treeWrTag : M (V × St) :=
(.split (.c2 .lt (.num 7) (.var 0))
 (.ret (.t [.c (.sn), .c (.i .i64 (.num 60))], ⟨[], [], 3, 4, []⟩))
 (.split (.c2 .lt (.num 4095) (.var 1))
  (.ret (.t [.c (.sn), .c (.i .i64 (.num 60))], ⟨[], [], 3, 4, []⟩))
  (.split (.c2 .lt (.num 2044) (.c1 .len (.var 3)))
   (.ret (.t [.c (.sn), .c (.i .i64 (.num 5))], ⟨[], [], 3, 4, []⟩))
   (.ret (.t [.c (.s 6 1 0 (.num 0) (.num 4)), .c (.i .i64 (.num 0))], ⟨[], [(6, some ⟨true, .row [.u8] (.cons (.c2 .fdiv (.c2 .add (.c2 .mul (.var 0) (.num 8192)) (.var 1)) (.num 256)) (.cons (.c2 .sub (.c2 .add (.c2 .mul (.var 0) (.num 8192)) (.var 1)) (.c2 .mul (.c2 .fdiv (.c2 .add (.c2 .mul (.var 0) (.num 8192)) (.var 1)) (.num 256)) (.num 256))) (.cons (.c2 .fdiv (.var 2) (.num 256)) (.cons (.c2 .sub (.var 2) (.c2 .mul (.c2 .fdiv (.var 2) (.num 256)) (.num 256))) .nil))))⟩)], 7, 4, []⟩)))))
theorem treeWrTag_is : funTree (ctxN Go.Proofs.Tryz.prog annsHd consSum 8) annsHd 62 (tBytes 2 6 60 4 kTag).vs (tBytes 2 6 60 4 kTag).bs (tBytes 2 6 60 4 kTag).n (preF (tBytes 2 6 60 4 kTag).res) = treeWrTag := by kernel_rfl
end Go.Proofs.YtfhjlimdakphcaaGreat.Sx
/- Sx laws of headers: the writers of layer Tag. Conditions: none. -/
set_option linter.unusedVariables false
set_option linter.unusedSimpArgs false
namespace Go.Proofs.YtfhjlimdakphcaaGreat.Sx
open Go
set_option maxRecDepth 100000 in
theorem wdTag_ok {Φ : Sig} (hΦ : HdSig Φ) : TmplOk Go.Proofs.Tryz.prog Φ 117 (tBytes 2 3 60 4 kTag) := by
  refine tmpl_of (consSum_ok hΦ.toSumSig) treeWdTag_is (fun ρ res hres => ⟨eqJ, ?_⟩)
  obtain ⟨hk, hres⟩ := inKs_some hres
  obtain ⟨h0, hres⟩ := short_some hres
  obtain ⟨hb, hres⟩ := bytes_some hres
  have hr := wr_res (n := 3) hΦ ⟨by decide, by decide⟩ hres
  have h0' : (ρ 3).list.length ≤ 140737488351232 := h0
  have hb' : Bytes (ρ 3).list := hb
  have a0 : (hdrOf Φ ρ 3)[0]?.getD 0 = (ρ 0).int := hdr_at 3 0 (by decide)
  have a1 : (hdrOf Φ ρ 3)[1]?.getD 0 = (ρ 1).int := hdr_at 3 1 (by decide)
  have a2 : (hdrOf Φ ρ 3)[2]?.getD 0 = (ρ 2).int := hdr_at 3 2 (by decide)
  have b0 := hk 0 .u8 rfl
  have b1 := hk 1 .u16 rfl
  have b2 := hk 2 .u16 rfl
  simp only [kmin, kmax, Nat.zero_add] at b0 b1 b2
  have m1 : ∀ x : Int, x - x / 256 * 256 = x % 256 := fun x => by omega
  refine ⟨fun c1 => ?_, fun c1 => ?_⟩
  · simp [hΦ.sum, hΦ.ocs, wrap_ocs, m1] at c1
    have hz : wrFail 2 (hdrOf Φ ρ 3) (ρ 3).list = 60 := by
      simp only [wrFail, g, a0, a1, a2]
      repeat' split
      all_goals first | rfl | omega
    exact leaf_wr_err hr hz (by decide) (by decide)
  · refine ⟨fun c2 => ?_, fun c2 => ?_⟩
    · simp [hΦ.sum, hΦ.ocs, wrap_ocs, m1] at c1 c2
      have hz : wrFail 2 (hdrOf Φ ρ 3) (ρ 3).list = 60 := by
        simp only [wrFail, g, a0, a1, a2]
        repeat' split
        all_goals first | rfl | omega
      exact leaf_wr_err hr hz (by decide) (by decide)
    · refine ⟨fun c3 => ?_, fun c3 => ?_⟩
      · simp [hΦ.sum, hΦ.ocs, wrap_ocs, m1] at c1 c2 c3
        have hz : wrFail 2 (hdrOf Φ ρ 3) (ρ 3).list = 5 := by
          simp only [wrFail, g, a0, a1, a2]
          repeat' split
          all_goals first | rfl | omega
        exact leaf_wr_err hr hz (by decide) (by decide)
      · simp [hΦ.sum, hΦ.ocs, wrap_ocs, m1] at c1 c2 c3
        have hz : wrFail 2 (hdrOf Φ ρ 3) (ρ 3).list = 0 := by
          simp only [wrFail, g, a0, a1, a2]
          repeat' split
          all_goals first | rfl | omega
        refine leaf_wr_ok hr hz ?_ rfl (by decide)
        simp only [list_cons, list_nil, int_add, int_sub, int_mul, int_fdiv, int_len, den_var, den_num, D.int_i, fdiv_lit, m1, int_wr, den_fn, hΦ.sum, hΦ.ocs, wrap_ocs, wrGood, wrBase, putF, fld, fld1, List.set_cons_succ, List.set_cons_zero, List.cons_append, List.nil_append, g, a0, a1, a2]
        all_goals try simp only [List.cons.injEq, and_true, true_and]
        all_goals repeat' apply And.intro
        all_goals first | rfl | omega
set_option maxRecDepth 100000 in
theorem wrTag_ok {Φ : Sig} (hΦ : HdSig Φ) : TmplOk Go.Proofs.Tryz.prog Φ 62 (tBytes 2 6 60 4 kTag) := by
  refine tmpl_of (consSum_ok hΦ.toSumSig) treeWrTag_is (fun ρ res hres => ⟨eqJ, ?_⟩)
  obtain ⟨hk, hres⟩ := inKs_some hres
  obtain ⟨h0, hres⟩ := short_some hres
  obtain ⟨hb, hres⟩ := bytes_some hres
  have hr := wr_res (n := 3) hΦ ⟨by decide, by decide⟩ hres
  have h0' : (ρ 3).list.length ≤ 140737488351232 := h0
  have hb' : Bytes (ρ 3).list := hb
  have a0 : (hdrOf Φ ρ 3)[0]?.getD 0 = (ρ 0).int := hdr_at 3 0 (by decide)
  have a1 : (hdrOf Φ ρ 3)[1]?.getD 0 = (ρ 1).int := hdr_at 3 1 (by decide)
  have a2 : (hdrOf Φ ρ 3)[2]?.getD 0 = (ρ 2).int := hdr_at 3 2 (by decide)
  have b0 := hk 0 .u8 rfl
  have b1 := hk 1 .u16 rfl
  have b2 := hk 2 .u16 rfl
  simp only [kmin, kmax, Nat.zero_add] at b0 b1 b2
  have m1 : ∀ x : Int, x - x / 256 * 256 = x % 256 := fun x => by omega
  refine ⟨fun c1 => ?_, fun c1 => ?_⟩
  · simp [hΦ.sum, hΦ.ocs, wrap_ocs, m1] at c1
    have hz : wrFail 2 (hdrOf Φ ρ 3) (ρ 3).list = 60 := by
      simp only [wrFail, g, a0, a1, a2]
      repeat' split
      all_goals first | rfl | omega
    exact leaf_wr_err hr hz (by decide) (by decide)
  · refine ⟨fun c2 => ?_, fun c2 => ?_⟩
    · simp [hΦ.sum, hΦ.ocs, wrap_ocs, m1] at c1 c2
      have hz : wrFail 2 (hdrOf Φ ρ 3) (ρ 3).list = 60 := by
        simp only [wrFail, g, a0, a1, a2]
        repeat' split
        all_goals first | rfl | omega
      exact leaf_wr_err hr hz (by decide) (by decide)
    · refine ⟨fun c3 => ?_, fun c3 => ?_⟩
      · simp [hΦ.sum, hΦ.ocs, wrap_ocs, m1] at c1 c2 c3
        have hz : wrFail 2 (hdrOf Φ ρ 3) (ρ 3).list = 5 := by
          simp only [wrFail, g, a0, a1, a2]
          repeat' split
          all_goals first | rfl | omega
        exact leaf_wr_err hr hz (by decide) (by decide)
      · simp [hΦ.sum, hΦ.ocs, wrap_ocs, m1] at c1 c2 c3
        have hz : wrFail 2 (hdrOf Φ ρ 3) (ρ 3).list = 0 := by
          simp only [wrFail, g, a0, a1, a2]
          repeat' split
          all_goals first | rfl | omega
        refine leaf_wr_ok hr hz ?_ rfl (by decide)
        simp only [list_cons, list_nil, int_add, int_sub, int_mul, int_fdiv, int_len, den_var, den_num, D.int_i, fdiv_lit, m1, int_wr, den_fn, hΦ.sum, hΦ.ocs, wrap_ocs, wrGood, wrBase, putF, fld, fld1, List.set_cons_succ, List.set_cons_zero, List.cons_append, List.nil_append, g, a0, a1, a2]
        all_goals try simp only [List.cons.injEq, and_true, true_and]
        all_goals repeat' apply And.intro
        all_goals first | rfl | omega
end Go.Proofs.YtfhjlimdakphcaaGreat.Sx
/- Sx: what Go function 123 does, as a tree of conditions (printed by a tool of this claim, proved by the kernel). Conditions: none. -/
set_option maxRecDepth 100000
namespace Go.Proofs.YtfhjlimdakphcaaGreat.Sx
open Go
def treeWdNet4 : M (V × St) :=
(.split (.c2 .lt (.num 2028) (.c1 .len (.var 12)))
 (.ret (.t [.c (.sn), .c (.i .i64 (.num 5))], ⟨[], [], 3, 13, []⟩))
 (.ret (.t [.c (.s 3 1 0 (.num 0) (.num 20)), .c (.i .i64 (.num 0))], ⟨[], [(3, some ⟨true, .row [.u8] (.cons (.num 69) (.cons (.var 0) (.cons (.c2 .fdiv (.c2 .add (.num 20) (.c1 .len (.var 12))) (.num 256)) (.cons (.c2 .sub (.c2 .add (.num 20) (.c1 .len (.var 12))) (.c2 .mul (.c2 .fdiv (.c2 .add (.num 20) (.c1 .len (.var 12))) (.num 256)) (.num 256))) (.cons (.c2 .fdiv (.var 3) (.num 256)) (.cons (.c2 .sub (.var 3) (.c2 .mul (.c2 .fdiv (.var 3) (.num 256)) (.num 256))) (.cons (.num 0) (.cons (.num 0) (.cons (.var 1) (.cons (.var 2) (.cons (.c2 .fdiv (.c2 .sub (.num 65535) (.wr .u16 (.fn 2 (.c2 .add (.wr .u16 (.fn 1 (.cons (.num 69) (.cons (.var 0) (.cons (.c2 .fdiv (.c2 .add (.num 20) (.c1 .len (.var 12))) (.num 256)) (.cons (.c2 .sub (.c2 .add (.num 20) (.c1 .len (.var 12))) (.c2 .mul (.c2 .fdiv (.c2 .add (.num 20) (.c1 .len (.var 12))) (.num 256)) (.num 256))) (.cons (.c2 .fdiv (.var 3) (.num 256)) (.cons (.c2 .sub (.var 3) (.c2 .mul (.c2 .fdiv (.var 3) (.num 256)) (.num 256))) (.cons (.num 0) (.cons (.num 0) (.cons (.var 1) (.cons (.var 2) (.cons (.num 0) (.cons (.num 0) (.cons (.var 4) (.cons (.var 5) (.cons (.var 6) (.cons (.var 7) (.cons (.var 8) (.cons (.var 9) (.cons (.var 10) (.cons (.var 11) .nil)))))))))))))))))))) .nil .nil)) (.wr .u16 (.fn 1 .nil .nil .nil))) .nil .nil))) (.num 256)) (.cons (.c2 .sub (.c2 .sub (.num 65535) (.wr .u16 (.fn 2 (.c2 .add (.wr .u16 (.fn 1 (.cons (.num 69) (.cons (.var 0) (.cons (.c2 .fdiv (.c2 .add (.num 20) (.c1 .len (.var 12))) (.num 256)) (.cons (.c2 .sub (.c2 .add (.num 20) (.c1 .len (.var 12))) (.c2 .mul (.c2 .fdiv (.c2 .add (.num 20) (.c1 .len (.var 12))) (.num 256)) (.num 256))) (.cons (.c2 .fdiv (.var 3) (.num 256)) (.cons (.c2 .sub (.var 3) (.c2 .mul (.c2 .fdiv (.var 3) (.num 256)) (.num 256))) (.cons (.num 0) (.cons (.num 0) (.cons (.var 1) (.cons (.var 2) (.cons (.num 0) (.cons (.num 0) (.cons (.var 4) (.cons (.var 5) (.cons (.var 6) (.cons (.var 7) (.cons (.var 8) (.cons (.var 9) (.cons (.var 10) (.cons (.var 11) .nil)))))))))))))))))))) .nil .nil)) (.wr .u16 (.fn 1 .nil .nil .nil))) .nil .nil))) (.c2 .mul (.c2 .fdiv (.c2 .sub (.num 65535) (.wr .u16 (.fn 2 (.c2 .add (.wr .u16 (.fn 1 (.cons (.num 69) (.cons (.var 0) (.cons (.c2 .fdiv (.c2 .add (.num 20) (.c1 .len (.var 12))) (.num 256)) (.cons (.c2 .sub (.c2 .add (.num 20) (.c1 .len (.var 12))) (.c2 .mul (.c2 .fdiv (.c2 .add (.num 20) (.c1 .len (.var 12))) (.num 256)) (.num 256))) (.cons (.c2 .fdiv (.var 3) (.num 256)) (.cons (.c2 .sub (.var 3) (.c2 .mul (.c2 .fdiv (.var 3) (.num 256)) (.num 256))) (.cons (.num 0) (.cons (.num 0) (.cons (.var 1) (.cons (.var 2) (.cons (.num 0) (.cons (.num 0) (.cons (.var 4) (.cons (.var 5) (.cons (.var 6) (.cons (.var 7) (.cons (.var 8) (.cons (.var 9) (.cons (.var 10) (.cons (.var 11) .nil)))))))))))))))))))) .nil .nil)) (.wr .u16 (.fn 1 .nil .nil .nil))) .nil .nil))) (.num 256)) (.num 256))) (.cons (.var 4) (.cons (.var 5) (.cons (.var 6) (.cons (.var 7) (.cons (.var 8) (.cons (.var 9) (.cons (.var 10) (.cons (.var 11) .nil))))))))))))))))))))⟩)], 5, 13, []⟩)))
theorem treeWdNet4_is : funTree (ctxN Go.Proofs.Tryz.prog annsHd consSum 8) annsHd 123 (tBytes 3 3 60 20 kNet4).vs (tBytes 3 3 60 20 kNet4).bs (tBytes 3 3 60 20 kNet4).n (preF (tBytes 3 3 60 20 kNet4).res) = treeWdNet4 := by kernel_rfl
end Go.Proofs.YtfhjlimdakphcaaGreat.Sx
/- Sx: what Go function 63 does, as a tree of conditions (printed by a tool of this claim, proved by the kernel). Conditions: none. -/
set_option maxRecDepth 100000
namespace Go.Proofs.YtfhjlimdakphcaaGreat.Sx
open Go
def treeWrNet4 : M (V × St) :=
(.split (.c2 .lt (.num 2028) (.c1 .len (.var 12)))
 (.ret (.t [.c (.sn), .c (.i .i64 (.num 5))], ⟨[], [], 3, 13, []⟩))
 (.ret (.t [.c (.s 12 1 0 (.num 0) (.num 20)), .c (.i .i64 (.num 0))], ⟨[], [(12, some ⟨true, .row [.u8] (.cons (.num 69) (.cons (.var 0) (.cons (.c2 .fdiv (.c2 .add (.num 20) (.c1 .len (.var 12))) (.num 256)) (.cons (.c2 .sub (.c2 .add (.num 20) (.c1 .len (.var 12))) (.c2 .mul (.c2 .fdiv (.c2 .add (.num 20) (.c1 .len (.var 12))) (.num 256)) (.num 256))) (.cons (.c2 .fdiv (.var 3) (.num 256)) (.cons (.c2 .sub (.var 3) (.c2 .mul (.c2 .fdiv (.var 3) (.num 256)) (.num 256))) (.cons (.num 0) (.cons (.num 0) (.cons (.var 1) (.cons (.var 2) (.cons (.c2 .fdiv (.c2 .sub (.num 65535) (.wr .u16 (.fn 1 (.cons (.num 69) (.cons (.var 0) (.cons (.c2 .fdiv (.c2 .add (.num 20) (.c1 .len (.var 12))) (.num 256)) (.cons (.c2 .sub (.c2 .add (.num 20) (.c1 .len (.var 12))) (.c2 .mul (.c2 .fdiv (.c2 .add (.num 20) (.c1 .len (.var 12))) (.num 256)) (.num 256))) (.cons (.c2 .fdiv (.var 3) (.num 256)) (.cons (.c2 .sub (.var 3) (.c2 .mul (.c2 .fdiv (.var 3) (.num 256)) (.num 256))) (.cons (.num 0) (.cons (.num 0) (.cons (.var 1) (.cons (.var 2) (.cons (.num 0) (.cons (.num 0) (.cons (.var 4) (.cons (.var 5) (.cons (.var 6) (.cons (.var 7) (.cons (.var 8) (.cons (.var 9) (.cons (.var 10) (.cons (.var 11) .nil)))))))))))))))))))) .nil .nil))) (.num 256)) (.cons (.c2 .sub (.c2 .sub (.num 65535) (.wr .u16 (.fn 1 (.cons (.num 69) (.cons (.var 0) (.cons (.c2 .fdiv (.c2 .add (.num 20) (.c1 .len (.var 12))) (.num 256)) (.cons (.c2 .sub (.c2 .add (.num 20) (.c1 .len (.var 12))) (.c2 .mul (.c2 .fdiv (.c2 .add (.num 20) (.c1 .len (.var 12))) (.num 256)) (.num 256))) (.cons (.c2 .fdiv (.var 3) (.num 256)) (.cons (.c2 .sub (.var 3) (.c2 .mul (.c2 .fdiv (.var 3) (.num 256)) (.num 256))) (.cons (.num 0) (.cons (.num 0) (.cons (.var 1) (.cons (.var 2) (.cons (.num 0) (.cons (.num 0) (.cons (.var 4) (.cons (.var 5) (.cons (.var 6) (.cons (.var 7) (.cons (.var 8) (.cons (.var 9) (.cons (.var 10) (.cons (.var 11) .nil)))))))))))))))))))) .nil .nil))) (.c2 .mul (.c2 .fdiv (.c2 .sub (.num 65535) (.wr .u16 (.fn 1 (.cons (.num 69) (.cons (.var 0) (.cons (.c2 .fdiv (.c2 .add (.num 20) (.c1 .len (.var 12))) (.num 256)) (.cons (.c2 .sub (.c2 .add (.num 20) (.c1 .len (.var 12))) (.c2 .mul (.c2 .fdiv (.c2 .add (.num 20) (.c1 .len (.var 12))) (.num 256)) (.num 256))) (.cons (.c2 .fdiv (.var 3) (.num 256)) (.cons (.c2 .sub (.var 3) (.c2 .mul (.c2 .fdiv (.var 3) (.num 256)) (.num 256))) (.cons (.num 0) (.cons (.num 0) (.cons (.var 1) (.cons (.var 2) (.cons (.num 0) (.cons (.num 0) (.cons (.var 4) (.cons (.var 5) (.cons (.var 6) (.cons (.var 7) (.cons (.var 8) (.cons (.var 9) (.cons (.var 10) (.cons (.var 11) .nil)))))))))))))))))))) .nil .nil))) (.num 256)) (.num 256))) (.cons (.var 4) (.cons (.var 5) (.cons (.var 6) (.cons (.var 7) (.cons (.var 8) (.cons (.var 9) (.cons (.var 10) (.cons (.var 11) .nil))))))))))))))))))))⟩)], 14, 13, []⟩)))
theorem treeWrNet4_is : funTree (ctxN Go.Proofs.Tryz.prog annsHd consSum 8) annsHd 63 (tBytes 3 12 60 20 kNet4).vs (tBytes 3 12 60 20 kNet4).bs (tBytes 3 12 60 20 kNet4).n (preF (tBytes 3 12 60 20 kNet4).res) = treeWrNet4 := by kernel_rfl
end Go.Proofs.YtfhjlimdakphcaaGreat.Sx
/- Sx laws of headers: the writers of layer Net4. Conditions: none. -/
set_option linter.unusedVariables false
set_option linter.unusedSimpArgs false
namespace Go.Proofs.YtfhjlimdakphcaaGreat.Sx
open Go
set_option maxRecDepth 100000 in
theorem wdNet4_ok {Φ : Sig} (hΦ : HdSig Φ) : TmplOk Go.Proofs.Tryz.prog Φ 123 (tBytes 3 3 60 20 kNet4) := by
  refine tmpl_of (consSum_ok hΦ.toSumSig) treeWdNet4_is (fun ρ res hres => ⟨eqJ, ?_⟩)
  obtain ⟨hk, hres⟩ := inKs_some hres
  obtain ⟨h0, hres⟩ := short_some hres
  obtain ⟨hb, hres⟩ := bytes_some hres
  have hr := wr_res (n := 12) hΦ ⟨by decide, by decide⟩ hres
  have h0' : (ρ 12).list.length ≤ 140737488351232 := h0
  have hb' : Bytes (ρ 12).list := hb
  have a0 : (hdrOf Φ ρ 12)[0]?.getD 0 = (ρ 0).int := hdr_at 12 0 (by decide)
  have a1 : (hdrOf Φ ρ 12)[1]?.getD 0 = (ρ 1).int := hdr_at 12 1 (by decide)
  have a2 : (hdrOf Φ ρ 12)[2]?.getD 0 = (ρ 2).int := hdr_at 12 2 (by decide)
  have a3 : (hdrOf Φ ρ 12)[3]?.getD 0 = (ρ 3).int := hdr_at 12 3 (by decide)
  have a4 : (hdrOf Φ ρ 12)[4]?.getD 0 = (ρ 4).int := hdr_at 12 4 (by decide)
  have a5 : (hdrOf Φ ρ 12)[5]?.getD 0 = (ρ 5).int := hdr_at 12 5 (by decide)
  have a6 : (hdrOf Φ ρ 12)[6]?.getD 0 = (ρ 6).int := hdr_at 12 6 (by decide)
  have a7 : (hdrOf Φ ρ 12)[7]?.getD 0 = (ρ 7).int := hdr_at 12 7 (by decide)
  have a8 : (hdrOf Φ ρ 12)[8]?.getD 0 = (ρ 8).int := hdr_at 12 8 (by decide)
  have a9 : (hdrOf Φ ρ 12)[9]?.getD 0 = (ρ 9).int := hdr_at 12 9 (by decide)
  have a10 : (hdrOf Φ ρ 12)[10]?.getD 0 = (ρ 10).int := hdr_at 12 10 (by decide)
  have a11 : (hdrOf Φ ρ 12)[11]?.getD 0 = (ρ 11).int := hdr_at 12 11 (by decide)
  have b0 := hk 0 .u8 rfl
  have b1 := hk 1 .u8 rfl
  have b2 := hk 2 .u8 rfl
  have b3 := hk 3 .u16 rfl
  have b4 := hk 4 .u8 rfl
  have b5 := hk 5 .u8 rfl
  have b6 := hk 6 .u8 rfl
  have b7 := hk 7 .u8 rfl
  have b8 := hk 8 .u8 rfl
  have b9 := hk 9 .u8 rfl
  have b10 := hk 10 .u8 rfl
  have b11 := hk 11 .u8 rfl
  simp only [kmin, kmax, Nat.zero_add] at b0 b1 b2 b3 b4 b5 b6 b7 b8 b9 b10 b11
  have m1 : ∀ x : Int, x - x / 256 * 256 = x % 256 := fun x => by omega
  have hB : 0 ≤ wsum (wrBase 3 (hdrOf Φ ρ 12) (ρ 12).list) := by simp only [wrBase, wsum, g, a0, a1, a2, a3, a4, a5, a6, a7, a8, a9, a10, a11]; omega
  have hS : ocs (ocs (wsum (wrBase 3 (hdrOf Φ ρ 12) (ρ 12).list)) + ocs (wsum [])) = ocs (wsum (wrBase 3 (hdrOf Φ ρ 12) (ρ 12).list ++ [])) := by rw [ocs_two hB (by simp [wsum]), wsum_app _ _ (by simp [wrBase])]
  simp only [wrBase, g, a0, a1, a2, a3, a4, a5, a6, a7, a8, a9, a10, a11, List.cons_append, List.nil_append] at hS
  have hR := ocs_range (wsum (wrBase 3 (hdrOf Φ ρ 12) (ρ 12).list ++ []))
  simp only [wrBase, g, a0, a1, a2, a3, a4, a5, a6, a7, a8, a9, a10, a11, List.cons_append, List.nil_append] at hR
  refine ⟨fun c1 => ?_, fun c1 => ?_⟩
  · simp [hΦ.sum, hΦ.ocs, wrap_ocs, m1] at c1
    have hz : wrFail 3 (hdrOf Φ ρ 12) (ρ 12).list = 5 := by
      simp only [wrFail, g, a0, a1, a2, a3, a4, a5, a6, a7, a8, a9, a10, a11]
      repeat' split
      all_goals first | rfl | omega
    exact leaf_wr_err hr hz (by decide) (by decide)
  · simp [hΦ.sum, hΦ.ocs, wrap_ocs, m1] at c1
    have hz : wrFail 3 (hdrOf Φ ρ 12) (ρ 12).list = 0 := by
      simp only [wrFail, g, a0, a1, a2, a3, a4, a5, a6, a7, a8, a9, a10, a11]
      repeat' split
      all_goals first | rfl | omega
    refine leaf_wr_ok hr hz ?_ rfl (by decide)
    simp only [list_cons, list_nil, int_add, int_sub, int_mul, int_fdiv, int_len, den_var, den_num, D.int_i, fdiv_lit, m1, int_wr, den_fn, hΦ.sum, hΦ.ocs, wrap_ocs, hS, wrGood, wrBase, putF, fld, fld1, List.set_cons_succ, List.set_cons_zero, List.cons_append, List.nil_append, g, a0, a1, a2, a3, a4, a5, a6, a7, a8, a9, a10, a11]
    all_goals try simp only [List.cons.injEq, and_true, true_and]
    all_goals repeat' apply And.intro
    all_goals first | rfl | omega
set_option maxRecDepth 100000 in
theorem wrNet4_ok {Φ : Sig} (hΦ : HdSig Φ) : TmplOk Go.Proofs.Tryz.prog Φ 63 (tBytes 3 12 60 20 kNet4) := by
  refine tmpl_of (consSum_ok hΦ.toSumSig) treeWrNet4_is (fun ρ res hres => ⟨eqJ, ?_⟩)
  obtain ⟨hk, hres⟩ := inKs_some hres
  obtain ⟨h0, hres⟩ := short_some hres
  obtain ⟨hb, hres⟩ := bytes_some hres
  have hr := wr_res (n := 12) hΦ ⟨by decide, by decide⟩ hres
  have h0' : (ρ 12).list.length ≤ 140737488351232 := h0
  have hb' : Bytes (ρ 12).list := hb
  have a0 : (hdrOf Φ ρ 12)[0]?.getD 0 = (ρ 0).int := hdr_at 12 0 (by decide)
  have a1 : (hdrOf Φ ρ 12)[1]?.getD 0 = (ρ 1).int := hdr_at 12 1 (by decide)
  have a2 : (hdrOf Φ ρ 12)[2]?.getD 0 = (ρ 2).int := hdr_at 12 2 (by decide)
  have a3 : (hdrOf Φ ρ 12)[3]?.getD 0 = (ρ 3).int := hdr_at 12 3 (by decide)
  have a4 : (hdrOf Φ ρ 12)[4]?.getD 0 = (ρ 4).int := hdr_at 12 4 (by decide)
  have a5 : (hdrOf Φ ρ 12)[5]?.getD 0 = (ρ 5).int := hdr_at 12 5 (by decide)
  have a6 : (hdrOf Φ ρ 12)[6]?.getD 0 = (ρ 6).int := hdr_at 12 6 (by decide)
  have a7 : (hdrOf Φ ρ 12)[7]?.getD 0 = (ρ 7).int := hdr_at 12 7 (by decide)
  have a8 : (hdrOf Φ ρ 12)[8]?.getD 0 = (ρ 8).int := hdr_at 12 8 (by decide)
  have a9 : (hdrOf Φ ρ 12)[9]?.getD 0 = (ρ 9).int := hdr_at 12 9 (by decide)
  have a10 : (hdrOf Φ ρ 12)[10]?.getD 0 = (ρ 10).int := hdr_at 12 10 (by decide)
  have a11 : (hdrOf Φ ρ 12)[11]?.getD 0 = (ρ 11).int := hdr_at 12 11 (by decide)
  have b0 := hk 0 .u8 rfl
  have b1 := hk 1 .u8 rfl
  have b2 := hk 2 .u8 rfl
  have b3 := hk 3 .u16 rfl
  have b4 := hk 4 .u8 rfl
  have b5 := hk 5 .u8 rfl
  have b6 := hk 6 .u8 rfl
  have b7 := hk 7 .u8 rfl
  have b8 := hk 8 .u8 rfl
  have b9 := hk 9 .u8 rfl
  have b10 := hk 10 .u8 rfl
  have b11 := hk 11 .u8 rfl
  simp only [kmin, kmax, Nat.zero_add] at b0 b1 b2 b3 b4 b5 b6 b7 b8 b9 b10 b11
  have m1 : ∀ x : Int, x - x / 256 * 256 = x % 256 := fun x => by omega
  have hB : 0 ≤ wsum (wrBase 3 (hdrOf Φ ρ 12) (ρ 12).list) := by simp only [wrBase, wsum, g, a0, a1, a2, a3, a4, a5, a6, a7, a8, a9, a10, a11]; omega
  have hS : ocs (ocs (wsum (wrBase 3 (hdrOf Φ ρ 12) (ρ 12).list)) + ocs (wsum [])) = ocs (wsum (wrBase 3 (hdrOf Φ ρ 12) (ρ 12).list ++ [])) := by rw [ocs_two hB (by simp [wsum]), wsum_app _ _ (by simp [wrBase])]
  simp only [wrBase, g, a0, a1, a2, a3, a4, a5, a6, a7, a8, a9, a10, a11, List.cons_append, List.nil_append] at hS
  have hR := ocs_range (wsum (wrBase 3 (hdrOf Φ ρ 12) (ρ 12).list ++ []))
  simp only [wrBase, g, a0, a1, a2, a3, a4, a5, a6, a7, a8, a9, a10, a11, List.cons_append, List.nil_append] at hR
  refine ⟨fun c1 => ?_, fun c1 => ?_⟩
  · simp [hΦ.sum, hΦ.ocs, wrap_ocs, m1] at c1
    have hz : wrFail 3 (hdrOf Φ ρ 12) (ρ 12).list = 5 := by
      simp only [wrFail, g, a0, a1, a2, a3, a4, a5, a6, a7, a8, a9, a10, a11]
      repeat' split
      all_goals first | rfl | omega
    exact leaf_wr_err hr hz (by decide) (by decide)
  · simp [hΦ.sum, hΦ.ocs, wrap_ocs, m1] at c1
    have hz : wrFail 3 (hdrOf Φ ρ 12) (ρ 12).list = 0 := by
      simp only [wrFail, g, a0, a1, a2, a3, a4, a5, a6, a7, a8, a9, a10, a11]
      repeat' split
      all_goals first | rfl | omega
    refine leaf_wr_ok hr hz ?_ rfl (by decide)
    simp only [list_cons, list_nil, int_add, int_sub, int_mul, int_fdiv, int_len, den_var, den_num, D.int_i, fdiv_lit, m1, int_wr, den_fn, hΦ.sum, hΦ.ocs, wrap_ocs, hS, wrGood, wrBase, putF, fld, fld1, List.set_cons_succ, List.set_cons_zero, List.cons_append, List.nil_append, g, a0, a1, a2, a3, a4, a5, a6, a7, a8, a9, a10, a11]
    all_goals try simp only [List.cons.injEq, and_true, true_and]
    all_goals repeat' apply And.intro
    all_goals first | rfl | omega
end Go.Proofs.YtfhjlimdakphcaaGreat.Sx
/- Sx: what Go function 129 does, as a tree of conditions (printed by a tool of this claim, proved by the kernel). Conditions: none. -/
set_option maxRecDepth 100000
namespace Go.Proofs.YtfhjlimdakphcaaGreat.Sx
open Go
def treeWdNet6 : M (V × St) :=
(.split (.c2 .le (.num 1048576) (.var 1))
 (.ret (.t [.c (.sn), .c (.i .i64 (.num 80))], ⟨[], [], 3, 37, []⟩))
 (.split (.c2 .lt (.num 2008) (.c1 .len (.var 36)))
  (.ret (.t [.c (.sn), .c (.i .i64 (.num 5))], ⟨[], [], 3, 37, []⟩))
  (.ret (.t [.c (.s 3 1 0 (.num 0) (.num 40)), .c (.i .i64 (.num 0))], ⟨[], [(3, some ⟨true, .row [.u8] (.cons (.c2 .fdiv (.c2 .add (.c2 .add (.num 24576) (.c2 .mul (.var 0) (.num 16))) (.c2 .fdiv (.var 1) (.num 65536))) (.num 256)) (.cons (.c2 .sub (.c2 .add (.c2 .add (.num 24576) (.c2 .mul (.var 0) (.num 16))) (.c2 .fdiv (.var 1) (.num 65536))) (.c2 .mul (.c2 .fdiv (.c2 .add (.c2 .add (.num 24576) (.c2 .mul (.var 0) (.num 16))) (.c2 .fdiv (.var 1) (.num 65536))) (.num 256)) (.num 256))) (.cons (.c2 .fdiv (.c2 .sub (.var 1) (.c2 .mul (.c2 .fdiv (.var 1) (.num 65536)) (.num 65536))) (.num 256)) (.cons (.c2 .sub (.c2 .sub (.var 1) (.c2 .mul (.c2 .fdiv (.var 1) (.num 65536)) (.num 65536))) (.c2 .mul (.c2 .fdiv (.c2 .sub (.var 1) (.c2 .mul (.c2 .fdiv (.var 1) (.num 65536)) (.num 65536))) (.num 256)) (.num 256))) (.cons (.c2 .fdiv (.c1 .len (.var 36)) (.num 256)) (.cons (.c2 .sub (.c1 .len (.var 36)) (.c2 .mul (.c2 .fdiv (.c1 .len (.var 36)) (.num 256)) (.num 256))) (.cons (.var 2) (.cons (.var 3) (.cons (.var 4) (.cons (.var 5) (.cons (.var 6) (.cons (.var 7) (.cons (.var 8) (.cons (.var 9) (.cons (.var 10) (.cons (.var 11) (.cons (.var 12) (.cons (.var 13) (.cons (.var 14) (.cons (.var 15) (.cons (.var 16) (.cons (.var 17) (.cons (.var 18) (.cons (.var 19) (.cons (.var 20) (.cons (.var 21) (.cons (.var 22) (.cons (.var 23) (.cons (.var 24) (.cons (.var 25) (.cons (.var 26) (.cons (.var 27) (.cons (.var 28) (.cons (.var 29) (.cons (.var 30) (.cons (.var 31) (.cons (.var 32) (.cons (.var 33) (.cons (.var 34) (.cons (.var 35) .nil))))))))))))))))))))))))))))))))))))))))⟩)], 4, 37, []⟩))))
theorem treeWdNet6_is : funTree (ctxN Go.Proofs.Tryz.prog annsHd consSum 8) annsHd 129 (tBytes 4 3 60 40 kNet6).vs (tBytes 4 3 60 40 kNet6).bs (tBytes 4 3 60 40 kNet6).n (preF (tBytes 4 3 60 40 kNet6).res) = treeWdNet6 := by kernel_rfl
end Go.Proofs.YtfhjlimdakphcaaGreat.Sx
/- Sx: what Go function 64 does, as a tree of conditions (printed by a tool of this claim, proved by the kernel). Conditions: none. -/
set_option maxRecDepth 100000
namespace Go.Proofs.YtfhjlimdakphcaaGreat.Sx
open Go
def treeWrNet6 : M (V × St) :=
(.split (.c2 .le (.num 1048576) (.var 1))
 (.ret (.t [.c (.sn), .c (.i .i64 (.num 80))], ⟨[], [], 3, 37, []⟩))
 (.split (.c2 .lt (.num 2008) (.c1 .len (.var 36)))
  (.ret (.t [.c (.sn), .c (.i .i64 (.num 5))], ⟨[], [], 3, 37, []⟩))
  (.ret (.t [.c (.s 10 1 0 (.num 0) (.num 40)), .c (.i .i64 (.num 0))], ⟨[], [(10, some ⟨true, .row [.u8] (.cons (.c2 .fdiv (.c2 .fdiv (.c2 .fdiv (.c2 .add (.c2 .add (.num 1610612736) (.c2 .mul (.var 0) (.num 1048576))) (.var 1)) (.num 256)) (.num 256)) (.num 256)) (.cons (.c2 .sub (.c2 .fdiv (.c2 .fdiv (.c2 .add (.c2 .add (.num 1610612736) (.c2 .mul (.var 0) (.num 1048576))) (.var 1)) (.num 256)) (.num 256)) (.c2 .mul (.c2 .fdiv (.c2 .fdiv (.c2 .fdiv (.c2 .add (.c2 .add (.num 1610612736) (.c2 .mul (.var 0) (.num 1048576))) (.var 1)) (.num 256)) (.num 256)) (.num 256)) (.num 256))) (.cons (.c2 .sub (.c2 .fdiv (.c2 .add (.c2 .add (.num 1610612736) (.c2 .mul (.var 0) (.num 1048576))) (.var 1)) (.num 256)) (.c2 .mul (.c2 .fdiv (.c2 .fdiv (.c2 .add (.c2 .add (.num 1610612736) (.c2 .mul (.var 0) (.num 1048576))) (.var 1)) (.num 256)) (.num 256)) (.num 256))) (.cons (.c2 .sub (.c2 .add (.c2 .add (.num 1610612736) (.c2 .mul (.var 0) (.num 1048576))) (.var 1)) (.c2 .mul (.c2 .fdiv (.c2 .add (.c2 .add (.num 1610612736) (.c2 .mul (.var 0) (.num 1048576))) (.var 1)) (.num 256)) (.num 256))) (.cons (.c2 .fdiv (.c1 .len (.var 36)) (.num 256)) (.cons (.c2 .sub (.c1 .len (.var 36)) (.c2 .mul (.c2 .fdiv (.c1 .len (.var 36)) (.num 256)) (.num 256))) (.cons (.var 2) (.cons (.var 3) (.cons (.var 4) (.cons (.var 5) (.cons (.var 6) (.cons (.var 7) (.cons (.var 8) (.cons (.var 9) (.cons (.var 10) (.cons (.var 11) (.cons (.var 12) (.cons (.var 13) (.cons (.var 14) (.cons (.var 15) (.cons (.var 16) (.cons (.var 17) (.cons (.var 18) (.cons (.var 19) (.cons (.var 20) (.cons (.var 21) (.cons (.var 22) (.cons (.var 23) (.cons (.var 24) (.cons (.var 25) (.cons (.var 26) (.cons (.var 27) (.cons (.var 28) (.cons (.var 29) (.cons (.var 30) (.cons (.var 31) (.cons (.var 32) (.cons (.var 33) (.cons (.var 34) (.cons (.var 35) .nil))))))))))))))))))))))))))))))))))))))))⟩)], 11, 37, []⟩))))
theorem treeWrNet6_is : funTree (ctxN Go.Proofs.Tryz.prog annsHd consSum 8) annsHd 64 (tBytes 4 10 60 40 kNet6).vs (tBytes 4 10 60 40 kNet6).bs (tBytes 4 10 60 40 kNet6).n (preF (tBytes 4 10 60 40 kNet6).res) = treeWrNet6 := by kernel_rfl
end Go.Proofs.YtfhjlimdakphcaaGreat.Sx
/- Sx laws of headers: the writers of layer Net6. Conditions: none. -/
set_option linter.unusedVariables false
set_option linter.unusedSimpArgs false
namespace Go.Proofs.YtfhjlimdakphcaaGreat.Sx
open Go
set_option maxRecDepth 100000 in
theorem wdNet6_ok {Φ : Sig} (hΦ : HdSig Φ) : TmplOk Go.Proofs.Tryz.prog Φ 129 (tBytes 4 3 60 40 kNet6) := by
  refine tmpl_of (consSum_ok hΦ.toSumSig) treeWdNet6_is (fun ρ res hres => ⟨eqJ, ?_⟩)
  obtain ⟨hk, hres⟩ := inKs_some hres
  obtain ⟨h0, hres⟩ := short_some hres
  obtain ⟨hb, hres⟩ := bytes_some hres
  have hr := wr_res (n := 36) hΦ ⟨by decide, by decide⟩ hres
  have h0' : (ρ 36).list.length ≤ 140737488351232 := h0
  have hb' : Bytes (ρ 36).list := hb
  have a0 : (hdrOf Φ ρ 36)[0]?.getD 0 = (ρ 0).int := hdr_at 36 0 (by decide)
  have a1 : (hdrOf Φ ρ 36)[1]?.getD 0 = (ρ 1).int := hdr_at 36 1 (by decide)
  have a2 : (hdrOf Φ ρ 36)[2]?.getD 0 = (ρ 2).int := hdr_at 36 2 (by decide)
  have a3 : (hdrOf Φ ρ 36)[3]?.getD 0 = (ρ 3).int := hdr_at 36 3 (by decide)
  have a4 : (hdrOf Φ ρ 36)[4]?.getD 0 = (ρ 4).int := hdr_at 36 4 (by decide)
  have a5 : (hdrOf Φ ρ 36)[5]?.getD 0 = (ρ 5).int := hdr_at 36 5 (by decide)
  have a6 : (hdrOf Φ ρ 36)[6]?.getD 0 = (ρ 6).int := hdr_at 36 6 (by decide)
  have a7 : (hdrOf Φ ρ 36)[7]?.getD 0 = (ρ 7).int := hdr_at 36 7 (by decide)
  have a8 : (hdrOf Φ ρ 36)[8]?.getD 0 = (ρ 8).int := hdr_at 36 8 (by decide)
  have a9 : (hdrOf Φ ρ 36)[9]?.getD 0 = (ρ 9).int := hdr_at 36 9 (by decide)
  have a10 : (hdrOf Φ ρ 36)[10]?.getD 0 = (ρ 10).int := hdr_at 36 10 (by decide)
  have a11 : (hdrOf Φ ρ 36)[11]?.getD 0 = (ρ 11).int := hdr_at 36 11 (by decide)
  have a12 : (hdrOf Φ ρ 36)[12]?.getD 0 = (ρ 12).int := hdr_at 36 12 (by decide)
  have a13 : (hdrOf Φ ρ 36)[13]?.getD 0 = (ρ 13).int := hdr_at 36 13 (by decide)
  have a14 : (hdrOf Φ ρ 36)[14]?.getD 0 = (ρ 14).int := hdr_at 36 14 (by decide)
  have a15 : (hdrOf Φ ρ 36)[15]?.getD 0 = (ρ 15).int := hdr_at 36 15 (by decide)
  have a16 : (hdrOf Φ ρ 36)[16]?.getD 0 = (ρ 16).int := hdr_at 36 16 (by decide)
  have a17 : (hdrOf Φ ρ 36)[17]?.getD 0 = (ρ 17).int := hdr_at 36 17 (by decide)
  have a18 : (hdrOf Φ ρ 36)[18]?.getD 0 = (ρ 18).int := hdr_at 36 18 (by decide)
  have a19 : (hdrOf Φ ρ 36)[19]?.getD 0 = (ρ 19).int := hdr_at 36 19 (by decide)
  have a20 : (hdrOf Φ ρ 36)[20]?.getD 0 = (ρ 20).int := hdr_at 36 20 (by decide)
  have a21 : (hdrOf Φ ρ 36)[21]?.getD 0 = (ρ 21).int := hdr_at 36 21 (by decide)
  have a22 : (hdrOf Φ ρ 36)[22]?.getD 0 = (ρ 22).int := hdr_at 36 22 (by decide)
  have a23 : (hdrOf Φ ρ 36)[23]?.getD 0 = (ρ 23).int := hdr_at 36 23 (by decide)
  have a24 : (hdrOf Φ ρ 36)[24]?.getD 0 = (ρ 24).int := hdr_at 36 24 (by decide)
  have a25 : (hdrOf Φ ρ 36)[25]?.getD 0 = (ρ 25).int := hdr_at 36 25 (by decide)
  have a26 : (hdrOf Φ ρ 36)[26]?.getD 0 = (ρ 26).int := hdr_at 36 26 (by decide)
  have a27 : (hdrOf Φ ρ 36)[27]?.getD 0 = (ρ 27).int := hdr_at 36 27 (by decide)
  have a28 : (hdrOf Φ ρ 36)[28]?.getD 0 = (ρ 28).int := hdr_at 36 28 (by decide)
  have a29 : (hdrOf Φ ρ 36)[29]?.getD 0 = (ρ 29).int := hdr_at 36 29 (by decide)
  have a30 : (hdrOf Φ ρ 36)[30]?.getD 0 = (ρ 30).int := hdr_at 36 30 (by decide)
  have a31 : (hdrOf Φ ρ 36)[31]?.getD 0 = (ρ 31).int := hdr_at 36 31 (by decide)
  have a32 : (hdrOf Φ ρ 36)[32]?.getD 0 = (ρ 32).int := hdr_at 36 32 (by decide)
  have a33 : (hdrOf Φ ρ 36)[33]?.getD 0 = (ρ 33).int := hdr_at 36 33 (by decide)
  have a34 : (hdrOf Φ ρ 36)[34]?.getD 0 = (ρ 34).int := hdr_at 36 34 (by decide)
  have a35 : (hdrOf Φ ρ 36)[35]?.getD 0 = (ρ 35).int := hdr_at 36 35 (by decide)
  have b0 := hk 0 .u8 rfl
  have b1 := hk 1 .u32 rfl
  simp only [kmin, kmax, Nat.zero_add] at b0 b1
  have m1 : ∀ x : Int, x - x / 256 * 256 = x % 256 := fun x => by omega
  refine ⟨fun c1 => ?_, fun c1 => ?_⟩
  · simp [hΦ.sum, hΦ.ocs, wrap_ocs, m1] at c1
    have hz : wrFail 4 (hdrOf Φ ρ 36) (ρ 36).list = 80 := by
      simp only [wrFail, g, a0, a1, a2, a3, a4, a5, a6, a7, a8, a9, a10, a11, a12, a13, a14, a15, a16, a17, a18, a19, a20, a21, a22, a23, a24, a25, a26, a27, a28, a29, a30, a31, a32, a33, a34, a35]
      repeat' split
      all_goals first | rfl | omega
    exact leaf_wr_err hr hz (by decide) (by decide)
  · refine ⟨fun c2 => ?_, fun c2 => ?_⟩
    · simp [hΦ.sum, hΦ.ocs, wrap_ocs, m1] at c1 c2
      have hz : wrFail 4 (hdrOf Φ ρ 36) (ρ 36).list = 5 := by
        simp only [wrFail, g, a0, a1, a2, a3, a4, a5, a6, a7, a8, a9, a10, a11, a12, a13, a14, a15, a16, a17, a18, a19, a20, a21, a22, a23, a24, a25, a26, a27, a28, a29, a30, a31, a32, a33, a34, a35]
        repeat' split
        all_goals first | rfl | omega
      exact leaf_wr_err hr hz (by decide) (by decide)
    · simp [hΦ.sum, hΦ.ocs, wrap_ocs, m1] at c1 c2
      have hz : wrFail 4 (hdrOf Φ ρ 36) (ρ 36).list = 0 := by
        simp only [wrFail, g, a0, a1, a2, a3, a4, a5, a6, a7, a8, a9, a10, a11, a12, a13, a14, a15, a16, a17, a18, a19, a20, a21, a22, a23, a24, a25, a26, a27, a28, a29, a30, a31, a32, a33, a34, a35]
        repeat' split
        all_goals first | rfl | omega
      refine leaf_wr_ok hr hz ?_ rfl (by decide)
      simp only [list_cons, list_nil, int_add, int_sub, int_mul, int_fdiv, int_len, den_var, den_num, D.int_i, fdiv_lit, m1, int_wr, den_fn, hΦ.sum, hΦ.ocs, wrap_ocs, wrGood, wrBase, putF, fld, fld1, List.set_cons_succ, List.set_cons_zero, List.cons_append, List.nil_append, g, a0, a1, a2, a3, a4, a5, a6, a7, a8, a9, a10, a11, a12, a13, a14, a15, a16, a17, a18, a19, a20, a21, a22, a23, a24, a25, a26, a27, a28, a29, a30, a31, a32, a33, a34, a35]
      all_goals try simp only [List.cons.injEq, and_true, true_and]
      all_goals repeat' apply And.intro
      all_goals first | rfl | omega
set_option maxRecDepth 100000 in
theorem wrNet6_ok {Φ : Sig} (hΦ : HdSig Φ) : TmplOk Go.Proofs.Tryz.prog Φ 64 (tBytes 4 10 60 40 kNet6) := by
  refine tmpl_of (consSum_ok hΦ.toSumSig) treeWrNet6_is (fun ρ res hres => ⟨eqJ, ?_⟩)
  obtain ⟨hk, hres⟩ := inKs_some hres
  obtain ⟨h0, hres⟩ := short_some hres
  obtain ⟨hb, hres⟩ := bytes_some hres
  have hr := wr_res (n := 36) hΦ ⟨by decide, by decide⟩ hres
  have h0' : (ρ 36).list.length ≤ 140737488351232 := h0
  have hb' : Bytes (ρ 36).list := hb
  have a0 : (hdrOf Φ ρ 36)[0]?.getD 0 = (ρ 0).int := hdr_at 36 0 (by decide)
  have a1 : (hdrOf Φ ρ 36)[1]?.getD 0 = (ρ 1).int := hdr_at 36 1 (by decide)
  have a2 : (hdrOf Φ ρ 36)[2]?.getD 0 = (ρ 2).int := hdr_at 36 2 (by decide)
  have a3 : (hdrOf Φ ρ 36)[3]?.getD 0 = (ρ 3).int := hdr_at 36 3 (by decide)
  have a4 : (hdrOf Φ ρ 36)[4]?.getD 0 = (ρ 4).int := hdr_at 36 4 (by decide)
  have a5 : (hdrOf Φ ρ 36)[5]?.getD 0 = (ρ 5).int := hdr_at 36 5 (by decide)
  have a6 : (hdrOf Φ ρ 36)[6]?.getD 0 = (ρ 6).int := hdr_at 36 6 (by decide)
  have a7 : (hdrOf Φ ρ 36)[7]?.getD 0 = (ρ 7).int := hdr_at 36 7 (by decide)
  have a8 : (hdrOf Φ ρ 36)[8]?.getD 0 = (ρ 8).int := hdr_at 36 8 (by decide)
  have a9 : (hdrOf Φ ρ 36)[9]?.getD 0 = (ρ 9).int := hdr_at 36 9 (by decide)
  have a10 : (hdrOf Φ ρ 36)[10]?.getD 0 = (ρ 10).int := hdr_at 36 10 (by decide)
  have a11 : (hdrOf Φ ρ 36)[11]?.getD 0 = (ρ 11).int := hdr_at 36 11 (by decide)
  have a12 : (hdrOf Φ ρ 36)[12]?.getD 0 = (ρ 12).int := hdr_at 36 12 (by decide)
  have a13 : (hdrOf Φ ρ 36)[13]?.getD 0 = (ρ 13).int := hdr_at 36 13 (by decide)
  have a14 : (hdrOf Φ ρ 36)[14]?.getD 0 = (ρ 14).int := hdr_at 36 14 (by decide)
  have a15 : (hdrOf Φ ρ 36)[15]?.getD 0 = (ρ 15).int := hdr_at 36 15 (by decide)
  have a16 : (hdrOf Φ ρ 36)[16]?.getD 0 = (ρ 16).int := hdr_at 36 16 (by decide)
  have a17 : (hdrOf Φ ρ 36)[17]?.getD 0 = (ρ 17).int := hdr_at 36 17 (by decide)
  have a18 : (hdrOf Φ ρ 36)[18]?.getD 0 = (ρ 18).int := hdr_at 36 18 (by decide)
  have a19 : (hdrOf Φ ρ 36)[19]?.getD 0 = (ρ 19).int := hdr_at 36 19 (by decide)
  have a20 : (hdrOf Φ ρ 36)[20]?.getD 0 = (ρ 20).int := hdr_at 36 20 (by decide)
  have a21 : (hdrOf Φ ρ 36)[21]?.getD 0 = (ρ 21).int := hdr_at 36 21 (by decide)
  have a22 : (hdrOf Φ ρ 36)[22]?.getD 0 = (ρ 22).int := hdr_at 36 22 (by decide)
  have a23 : (hdrOf Φ ρ 36)[23]?.getD 0 = (ρ 23).int := hdr_at 36 23 (by decide)
  have a24 : (hdrOf Φ ρ 36)[24]?.getD 0 = (ρ 24).int := hdr_at 36 24 (by decide)
  have a25 : (hdrOf Φ ρ 36)[25]?.getD 0 = (ρ 25).int := hdr_at 36 25 (by decide)
  have a26 : (hdrOf Φ ρ 36)[26]?.getD 0 = (ρ 26).int := hdr_at 36 26 (by decide)
  have a27 : (hdrOf Φ ρ 36)[27]?.getD 0 = (ρ 27).int := hdr_at 36 27 (by decide)
  have a28 : (hdrOf Φ ρ 36)[28]?.getD 0 = (ρ 28).int := hdr_at 36 28 (by decide)
  have a29 : (hdrOf Φ ρ 36)[29]?.getD 0 = (ρ 29).int := hdr_at 36 29 (by decide)
  have a30 : (hdrOf Φ ρ 36)[30]?.getD 0 = (ρ 30).int := hdr_at 36 30 (by decide)
  have a31 : (hdrOf Φ ρ 36)[31]?.getD 0 = (ρ 31).int := hdr_at 36 31 (by decide)
  have a32 : (hdrOf Φ ρ 36)[32]?.getD 0 = (ρ 32).int := hdr_at 36 32 (by decide)
  have a33 : (hdrOf Φ ρ 36)[33]?.getD 0 = (ρ 33).int := hdr_at 36 33 (by decide)
  have a34 : (hdrOf Φ ρ 36)[34]?.getD 0 = (ρ 34).int := hdr_at 36 34 (by decide)
  have a35 : (hdrOf Φ ρ 36)[35]?.getD 0 = (ρ 35).int := hdr_at 36 35 (by decide)
  have b0 := hk 0 .u8 rfl
  have b1 := hk 1 .u32 rfl
  simp only [kmin, kmax, Nat.zero_add] at b0 b1
  have m1 : ∀ x : Int, x - x / 256 * 256 = x % 256 := fun x => by omega
  refine ⟨fun c1 => ?_, fun c1 => ?_⟩
  · simp [hΦ.sum, hΦ.ocs, wrap_ocs, m1] at c1
    have hz : wrFail 4 (hdrOf Φ ρ 36) (ρ 36).list = 80 := by
      simp only [wrFail, g, a0, a1, a2, a3, a4, a5, a6, a7, a8, a9, a10, a11, a12, a13, a14, a15, a16, a17, a18, a19, a20, a21, a22, a23, a24, a25, a26, a27, a28, a29, a30, a31, a32, a33, a34, a35]
      repeat' split
      all_goals first | rfl | omega
    exact leaf_wr_err hr hz (by decide) (by decide)
  · refine ⟨fun c2 => ?_, fun c2 => ?_⟩
    · simp [hΦ.sum, hΦ.ocs, wrap_ocs, m1] at c1 c2
      have hz : wrFail 4 (hdrOf Φ ρ 36) (ρ 36).list = 5 := by
        simp only [wrFail, g, a0, a1, a2, a3, a4, a5, a6, a7, a8, a9, a10, a11, a12, a13, a14, a15, a16, a17, a18, a19, a20, a21, a22, a23, a24, a25, a26, a27, a28, a29, a30, a31, a32, a33, a34, a35]
        repeat' split
        all_goals first | rfl | omega
      exact leaf_wr_err hr hz (by decide) (by decide)
    · simp [hΦ.sum, hΦ.ocs, wrap_ocs, m1] at c1 c2
      have hz : wrFail 4 (hdrOf Φ ρ 36) (ρ 36).list = 0 := by
        simp only [wrFail, g, a0, a1, a2, a3, a4, a5, a6, a7, a8, a9, a10, a11, a12, a13, a14, a15, a16, a17, a18, a19, a20, a21, a22, a23, a24, a25, a26, a27, a28, a29, a30, a31, a32, a33, a34, a35]
        repeat' split
        all_goals first | rfl | omega
      refine leaf_wr_ok hr hz ?_ rfl (by decide)
      simp only [list_cons, list_nil, int_add, int_sub, int_mul, int_fdiv, int_len, den_var, den_num, D.int_i, fdiv_lit, m1, int_wr, den_fn, hΦ.sum, hΦ.ocs, wrap_ocs, wrGood, wrBase, putF, fld, fld1, List.set_cons_succ, List.set_cons_zero, List.cons_append, List.nil_append, g, a0, a1, a2, a3, a4, a5, a6, a7, a8, a9, a10, a11, a12, a13, a14, a15, a16, a17, a18, a19, a20, a21, a22, a23, a24, a25, a26, a27, a28, a29, a30, a31, a32, a33, a34, a35]
      all_goals try simp only [List.cons.injEq, and_true, true_and]
      all_goals repeat' apply And.intro
      all_goals first | rfl | omega
end Go.Proofs.YtfhjlimdakphcaaGreat.Sx
/- Sx: what Go function 135 does, as a tree of conditions (printed by a tool of this claim, proved by the kernel). Conditions: none. -/
set_option maxRecDepth 100000
namespace Go.Proofs.YtfhjlimdakphcaaGreat.Sx
open Go
def treeWdSeg : M (V × St) :=
(.split (.c2 .le (.num 64) (.var 4))
 (.ret (.t [.c (.sn), .c (.i .i64 (.num 90))], ⟨[], [], 3, 7, []⟩))
 (.split (.c2 .lt (.num 2028) (.c1 .len (.var 6)))
  (.ret (.t [.c (.sn), .c (.i .i64 (.num 5))], ⟨[], [], 3, 7, []⟩))
  (.ret (.t [.c (.s 3 1 0 (.num 0) (.num 20)), .c (.i .i64 (.num 0))], ⟨[], [(3, some ⟨true, .row [.u8] (.cons (.c2 .fdiv (.var 0) (.num 256)) (.cons (.c2 .sub (.var 0) (.c2 .mul (.c2 .fdiv (.var 0) (.num 256)) (.num 256))) (.cons (.c2 .fdiv (.var 1) (.num 256)) (.cons (.c2 .sub (.var 1) (.c2 .mul (.c2 .fdiv (.var 1) (.num 256)) (.num 256))) (.cons (.c2 .fdiv (.c2 .fdiv (.var 2) (.num 65536)) (.num 256)) (.cons (.c2 .sub (.c2 .fdiv (.var 2) (.num 65536)) (.c2 .mul (.c2 .fdiv (.c2 .fdiv (.var 2) (.num 65536)) (.num 256)) (.num 256))) (.cons (.c2 .fdiv (.c2 .sub (.var 2) (.c2 .mul (.c2 .fdiv (.var 2) (.num 65536)) (.num 65536))) (.num 256)) (.cons (.c2 .sub (.c2 .sub (.var 2) (.c2 .mul (.c2 .fdiv (.var 2) (.num 65536)) (.num 65536))) (.c2 .mul (.c2 .fdiv (.c2 .sub (.var 2) (.c2 .mul (.c2 .fdiv (.var 2) (.num 65536)) (.num 65536))) (.num 256)) (.num 256))) (.cons (.c2 .fdiv (.c2 .fdiv (.var 3) (.num 65536)) (.num 256)) (.cons (.c2 .sub (.c2 .fdiv (.var 3) (.num 65536)) (.c2 .mul (.c2 .fdiv (.c2 .fdiv (.var 3) (.num 65536)) (.num 256)) (.num 256))) (.cons (.c2 .fdiv (.c2 .sub (.var 3) (.c2 .mul (.c2 .fdiv (.var 3) (.num 65536)) (.num 65536))) (.num 256)) (.cons (.c2 .sub (.c2 .sub (.var 3) (.c2 .mul (.c2 .fdiv (.var 3) (.num 65536)) (.num 65536))) (.c2 .mul (.c2 .fdiv (.c2 .sub (.var 3) (.c2 .mul (.c2 .fdiv (.var 3) (.num 65536)) (.num 65536))) (.num 256)) (.num 256))) (.cons (.c2 .fdiv (.c2 .add (.num 20480) (.var 4)) (.num 256)) (.cons (.c2 .sub (.c2 .add (.num 20480) (.var 4)) (.c2 .mul (.c2 .fdiv (.c2 .add (.num 20480) (.var 4)) (.num 256)) (.num 256))) (.cons (.c2 .fdiv (.var 5) (.num 256)) (.cons (.c2 .sub (.var 5) (.c2 .mul (.c2 .fdiv (.var 5) (.num 256)) (.num 256))) (.cons (.c2 .fdiv (.c2 .sub (.num 65535) (.wr .u16 (.fn 2 (.c2 .add (.wr .u16 (.fn 1 (.cons (.c2 .fdiv (.var 0) (.num 256)) (.cons (.c2 .sub (.var 0) (.c2 .mul (.c2 .fdiv (.var 0) (.num 256)) (.num 256))) (.cons (.c2 .fdiv (.var 1) (.num 256)) (.cons (.c2 .sub (.var 1) (.c2 .mul (.c2 .fdiv (.var 1) (.num 256)) (.num 256))) (.cons (.c2 .fdiv (.c2 .fdiv (.var 2) (.num 65536)) (.num 256)) (.cons (.c2 .sub (.c2 .fdiv (.var 2) (.num 65536)) (.c2 .mul (.c2 .fdiv (.c2 .fdiv (.var 2) (.num 65536)) (.num 256)) (.num 256))) (.cons (.c2 .fdiv (.c2 .sub (.var 2) (.c2 .mul (.c2 .fdiv (.var 2) (.num 65536)) (.num 65536))) (.num 256)) (.cons (.c2 .sub (.c2 .sub (.var 2) (.c2 .mul (.c2 .fdiv (.var 2) (.num 65536)) (.num 65536))) (.c2 .mul (.c2 .fdiv (.c2 .sub (.var 2) (.c2 .mul (.c2 .fdiv (.var 2) (.num 65536)) (.num 65536))) (.num 256)) (.num 256))) (.cons (.c2 .fdiv (.c2 .fdiv (.var 3) (.num 65536)) (.num 256)) (.cons (.c2 .sub (.c2 .fdiv (.var 3) (.num 65536)) (.c2 .mul (.c2 .fdiv (.c2 .fdiv (.var 3) (.num 65536)) (.num 256)) (.num 256))) (.cons (.c2 .fdiv (.c2 .sub (.var 3) (.c2 .mul (.c2 .fdiv (.var 3) (.num 65536)) (.num 65536))) (.num 256)) (.cons (.c2 .sub (.c2 .sub (.var 3) (.c2 .mul (.c2 .fdiv (.var 3) (.num 65536)) (.num 65536))) (.c2 .mul (.c2 .fdiv (.c2 .sub (.var 3) (.c2 .mul (.c2 .fdiv (.var 3) (.num 65536)) (.num 65536))) (.num 256)) (.num 256))) (.cons (.c2 .fdiv (.c2 .add (.num 20480) (.var 4)) (.num 256)) (.cons (.c2 .sub (.c2 .add (.num 20480) (.var 4)) (.c2 .mul (.c2 .fdiv (.c2 .add (.num 20480) (.var 4)) (.num 256)) (.num 256))) (.cons (.c2 .fdiv (.var 5) (.num 256)) (.cons (.c2 .sub (.var 5) (.c2 .mul (.c2 .fdiv (.var 5) (.num 256)) (.num 256))) (.cons (.num 0) (.cons (.num 0) (.cons (.num 0) (.cons (.num 0) .nil)))))))))))))))))))) .nil .nil)) (.wr .u16 (.fn 1 (.var 6) .nil .nil))) .nil .nil))) (.num 256)) (.cons (.c2 .sub (.c2 .sub (.num 65535) (.wr .u16 (.fn 2 (.c2 .add (.wr .u16 (.fn 1 (.cons (.c2 .fdiv (.var 0) (.num 256)) (.cons (.c2 .sub (.var 0) (.c2 .mul (.c2 .fdiv (.var 0) (.num 256)) (.num 256))) (.cons (.c2 .fdiv (.var 1) (.num 256)) (.cons (.c2 .sub (.var 1) (.c2 .mul (.c2 .fdiv (.var 1) (.num 256)) (.num 256))) (.cons (.c2 .fdiv (.c2 .fdiv (.var 2) (.num 65536)) (.num 256)) (.cons (.c2 .sub (.c2 .fdiv (.var 2) (.num 65536)) (.c2 .mul (.c2 .fdiv (.c2 .fdiv (.var 2) (.num 65536)) (.num 256)) (.num 256))) (.cons (.c2 .fdiv (.c2 .sub (.var 2) (.c2 .mul (.c2 .fdiv (.var 2) (.num 65536)) (.num 65536))) (.num 256)) (.cons (.c2 .sub (.c2 .sub (.var 2) (.c2 .mul (.c2 .fdiv (.var 2) (.num 65536)) (.num 65536))) (.c2 .mul (.c2 .fdiv (.c2 .sub (.var 2) (.c2 .mul (.c2 .fdiv (.var 2) (.num 65536)) (.num 65536))) (.num 256)) (.num 256))) (.cons (.c2 .fdiv (.c2 .fdiv (.var 3) (.num 65536)) (.num 256)) (.cons (.c2 .sub (.c2 .fdiv (.var 3) (.num 65536)) (.c2 .mul (.c2 .fdiv (.c2 .fdiv (.var 3) (.num 65536)) (.num 256)) (.num 256))) (.cons (.c2 .fdiv (.c2 .sub (.var 3) (.c2 .mul (.c2 .fdiv (.var 3) (.num 65536)) (.num 65536))) (.num 256)) (.cons (.c2 .sub (.c2 .sub (.var 3) (.c2 .mul (.c2 .fdiv (.var 3) (.num 65536)) (.num 65536))) (.c2 .mul (.c2 .fdiv (.c2 .sub (.var 3) (.c2 .mul (.c2 .fdiv (.var 3) (.num 65536)) (.num 65536))) (.num 256)) (.num 256))) (.cons (.c2 .fdiv (.c2 .add (.num 20480) (.var 4)) (.num 256)) (.cons (.c2 .sub (.c2 .add (.num 20480) (.var 4)) (.c2 .mul (.c2 .fdiv (.c2 .add (.num 20480) (.var 4)) (.num 256)) (.num 256))) (.cons (.c2 .fdiv (.var 5) (.num 256)) (.cons (.c2 .sub (.var 5) (.c2 .mul (.c2 .fdiv (.var 5) (.num 256)) (.num 256))) (.cons (.num 0) (.cons (.num 0) (.cons (.num 0) (.cons (.num 0) .nil)))))))))))))))))))) .nil .nil)) (.wr .u16 (.fn 1 (.var 6) .nil .nil))) .nil .nil))) (.c2 .mul (.c2 .fdiv (.c2 .sub (.num 65535) (.wr .u16 (.fn 2 (.c2 .add (.wr .u16 (.fn 1 (.cons (.c2 .fdiv (.var 0) (.num 256)) (.cons (.c2 .sub (.var 0) (.c2 .mul (.c2 .fdiv (.var 0) (.num 256)) (.num 256))) (.cons (.c2 .fdiv (.var 1) (.num 256)) (.cons (.c2 .sub (.var 1) (.c2 .mul (.c2 .fdiv (.var 1) (.num 256)) (.num 256))) (.cons (.c2 .fdiv (.c2 .fdiv (.var 2) (.num 65536)) (.num 256)) (.cons (.c2 .sub (.c2 .fdiv (.var 2) (.num 65536)) (.c2 .mul (.c2 .fdiv (.c2 .fdiv (.var 2) (.num 65536)) (.num 256)) (.num 256))) (.cons (.c2 .fdiv (.c2 .sub (.var 2) (.c2 .mul (.c2 .fdiv (.var 2) (.num 65536)) (.num 65536))) (.num 256)) (.cons (.c2 .sub (.c2 .sub (.var 2) (.c2 .mul (.c2 .fdiv (.var 2) (.num 65536)) (.num 65536))) (.c2 .mul (.c2 .fdiv (.c2 .sub (.var 2) (.c2 .mul (.c2 .fdiv (.var 2) (.num 65536)) (.num 65536))) (.num 256)) (.num 256))) (.cons (.c2 .fdiv (.c2 .fdiv (.var 3) (.num 65536)) (.num 256)) (.cons (.c2 .sub (.c2 .fdiv (.var 3) (.num 65536)) (.c2 .mul (.c2 .fdiv (.c2 .fdiv (.var 3) (.num 65536)) (.num 256)) (.num 256))) (.cons (.c2 .fdiv (.c2 .sub (.var 3) (.c2 .mul (.c2 .fdiv (.var 3) (.num 65536)) (.num 65536))) (.num 256)) (.cons (.c2 .sub (.c2 .sub (.var 3) (.c2 .mul (.c2 .fdiv (.var 3) (.num 65536)) (.num 65536))) (.c2 .mul (.c2 .fdiv (.c2 .sub (.var 3) (.c2 .mul (.c2 .fdiv (.var 3) (.num 65536)) (.num 65536))) (.num 256)) (.num 256))) (.cons (.c2 .fdiv (.c2 .add (.num 20480) (.var 4)) (.num 256)) (.cons (.c2 .sub (.c2 .add (.num 20480) (.var 4)) (.c2 .mul (.c2 .fdiv (.c2 .add (.num 20480) (.var 4)) (.num 256)) (.num 256))) (.cons (.c2 .fdiv (.var 5) (.num 256)) (.cons (.c2 .sub (.var 5) (.c2 .mul (.c2 .fdiv (.var 5) (.num 256)) (.num 256))) (.cons (.num 0) (.cons (.num 0) (.cons (.num 0) (.cons (.num 0) .nil)))))))))))))))))))) .nil .nil)) (.wr .u16 (.fn 1 (.var 6) .nil .nil))) .nil .nil))) (.num 256)) (.num 256))) (.cons (.num 0) (.cons (.num 0) .nil))))))))))))))))))))⟩)], 6, 7, []⟩))))
theorem treeWdSeg_is : funTree (ctxN Go.Proofs.Tryz.prog annsHd consSum 8) annsHd 135 (tBytes 5 3 60 20 kSeg).vs (tBytes 5 3 60 20 kSeg).bs (tBytes 5 3 60 20 kSeg).n (preF (tBytes 5 3 60 20 kSeg).res) = treeWdSeg := by kernel_rfl
end Go.Proofs.YtfhjlimdakphcaaGreat.Sx
/- Sx: what Go function 65 does, as a tree of conditions (printed by a tool of this claim, proved by the kernel). Conditions: none. -/
set_option maxRecDepth 100000
namespace Go.Proofs.YtfhjlimdakphcaaGreat.Sx
open Go
def treeWrSeg : M (V × St) :=
(.split (.c2 .le (.num 64) (.var 4))
 (.ret (.t [.c (.sn), .c (.i .i64 (.num 90))], ⟨[], [], 3, 7, []⟩))
 (.split (.c2 .lt (.num 2028) (.c1 .len (.var 6)))
  (.ret (.t [.c (.sn), .c (.i .i64 (.num 5))], ⟨[], [], 3, 7, []⟩))
  (.ret (.t [.c (.s 16 1 0 (.num 0) (.num 20)), .c (.i .i64 (.num 0))], ⟨[], [(16, some ⟨true, .row [.u8] (.cons (.c2 .fdiv (.var 0) (.num 256)) (.cons (.c2 .sub (.var 0) (.c2 .mul (.c2 .fdiv (.var 0) (.num 256)) (.num 256))) (.cons (.c2 .fdiv (.var 1) (.num 256)) (.cons (.c2 .sub (.var 1) (.c2 .mul (.c2 .fdiv (.var 1) (.num 256)) (.num 256))) (.cons (.c2 .fdiv (.c2 .fdiv (.c2 .fdiv (.var 2) (.num 256)) (.num 256)) (.num 256)) (.cons (.c2 .sub (.c2 .fdiv (.c2 .fdiv (.var 2) (.num 256)) (.num 256)) (.c2 .mul (.c2 .fdiv (.c2 .fdiv (.c2 .fdiv (.var 2) (.num 256)) (.num 256)) (.num 256)) (.num 256))) (.cons (.c2 .sub (.c2 .fdiv (.var 2) (.num 256)) (.c2 .mul (.c2 .fdiv (.c2 .fdiv (.var 2) (.num 256)) (.num 256)) (.num 256))) (.cons (.c2 .sub (.var 2) (.c2 .mul (.c2 .fdiv (.var 2) (.num 256)) (.num 256))) (.cons (.c2 .fdiv (.c2 .fdiv (.c2 .fdiv (.var 3) (.num 256)) (.num 256)) (.num 256)) (.cons (.c2 .sub (.c2 .fdiv (.c2 .fdiv (.var 3) (.num 256)) (.num 256)) (.c2 .mul (.c2 .fdiv (.c2 .fdiv (.c2 .fdiv (.var 3) (.num 256)) (.num 256)) (.num 256)) (.num 256))) (.cons (.c2 .sub (.c2 .fdiv (.var 3) (.num 256)) (.c2 .mul (.c2 .fdiv (.c2 .fdiv (.var 3) (.num 256)) (.num 256)) (.num 256))) (.cons (.c2 .sub (.var 3) (.c2 .mul (.c2 .fdiv (.var 3) (.num 256)) (.num 256))) (.cons (.c2 .fdiv (.c2 .add (.num 20480) (.var 4)) (.num 256)) (.cons (.c2 .sub (.c2 .add (.num 20480) (.var 4)) (.c2 .mul (.c2 .fdiv (.c2 .add (.num 20480) (.var 4)) (.num 256)) (.num 256))) (.cons (.c2 .fdiv (.var 5) (.num 256)) (.cons (.c2 .sub (.var 5) (.c2 .mul (.c2 .fdiv (.var 5) (.num 256)) (.num 256))) (.cons (.c2 .fdiv (.c2 .sub (.num 65535) (.wr .u16 (.fn 1 (.cons (.c2 .fdiv (.var 0) (.num 256)) (.cons (.c2 .sub (.var 0) (.c2 .mul (.c2 .fdiv (.var 0) (.num 256)) (.num 256))) (.cons (.c2 .fdiv (.var 1) (.num 256)) (.cons (.c2 .sub (.var 1) (.c2 .mul (.c2 .fdiv (.var 1) (.num 256)) (.num 256))) (.cons (.c2 .fdiv (.c2 .fdiv (.c2 .fdiv (.var 2) (.num 256)) (.num 256)) (.num 256)) (.cons (.c2 .sub (.c2 .fdiv (.c2 .fdiv (.var 2) (.num 256)) (.num 256)) (.c2 .mul (.c2 .fdiv (.c2 .fdiv (.c2 .fdiv (.var 2) (.num 256)) (.num 256)) (.num 256)) (.num 256))) (.cons (.c2 .sub (.c2 .fdiv (.var 2) (.num 256)) (.c2 .mul (.c2 .fdiv (.c2 .fdiv (.var 2) (.num 256)) (.num 256)) (.num 256))) (.cons (.c2 .sub (.var 2) (.c2 .mul (.c2 .fdiv (.var 2) (.num 256)) (.num 256))) (.cons (.c2 .fdiv (.c2 .fdiv (.c2 .fdiv (.var 3) (.num 256)) (.num 256)) (.num 256)) (.cons (.c2 .sub (.c2 .fdiv (.c2 .fdiv (.var 3) (.num 256)) (.num 256)) (.c2 .mul (.c2 .fdiv (.c2 .fdiv (.c2 .fdiv (.var 3) (.num 256)) (.num 256)) (.num 256)) (.num 256))) (.cons (.c2 .sub (.c2 .fdiv (.var 3) (.num 256)) (.c2 .mul (.c2 .fdiv (.c2 .fdiv (.var 3) (.num 256)) (.num 256)) (.num 256))) (.cons (.c2 .sub (.var 3) (.c2 .mul (.c2 .fdiv (.var 3) (.num 256)) (.num 256))) (.cons (.c2 .fdiv (.c2 .add (.num 20480) (.var 4)) (.num 256)) (.cons (.c2 .sub (.c2 .add (.num 20480) (.var 4)) (.c2 .mul (.c2 .fdiv (.c2 .add (.num 20480) (.var 4)) (.num 256)) (.num 256))) (.cons (.c2 .fdiv (.var 5) (.num 256)) (.cons (.c2 .sub (.var 5) (.c2 .mul (.c2 .fdiv (.var 5) (.num 256)) (.num 256))) (.cons (.num 0) (.cons (.num 0) (.cons (.num 0) (.cons (.num 0) (.var 6))))))))))))))))))))) .nil .nil))) (.num 256)) (.cons (.c2 .sub (.c2 .sub (.num 65535) (.wr .u16 (.fn 1 (.cons (.c2 .fdiv (.var 0) (.num 256)) (.cons (.c2 .sub (.var 0) (.c2 .mul (.c2 .fdiv (.var 0) (.num 256)) (.num 256))) (.cons (.c2 .fdiv (.var 1) (.num 256)) (.cons (.c2 .sub (.var 1) (.c2 .mul (.c2 .fdiv (.var 1) (.num 256)) (.num 256))) (.cons (.c2 .fdiv (.c2 .fdiv (.c2 .fdiv (.var 2) (.num 256)) (.num 256)) (.num 256)) (.cons (.c2 .sub (.c2 .fdiv (.c2 .fdiv (.var 2) (.num 256)) (.num 256)) (.c2 .mul (.c2 .fdiv (.c2 .fdiv (.c2 .fdiv (.var 2) (.num 256)) (.num 256)) (.num 256)) (.num 256))) (.cons (.c2 .sub (.c2 .fdiv (.var 2) (.num 256)) (.c2 .mul (.c2 .fdiv (.c2 .fdiv (.var 2) (.num 256)) (.num 256)) (.num 256))) (.cons (.c2 .sub (.var 2) (.c2 .mul (.c2 .fdiv (.var 2) (.num 256)) (.num 256))) (.cons (.c2 .fdiv (.c2 .fdiv (.c2 .fdiv (.var 3) (.num 256)) (.num 256)) (.num 256)) (.cons (.c2 .sub (.c2 .fdiv (.c2 .fdiv (.var 3) (.num 256)) (.num 256)) (.c2 .mul (.c2 .fdiv (.c2 .fdiv (.c2 .fdiv (.var 3) (.num 256)) (.num 256)) (.num 256)) (.num 256))) (.cons (.c2 .sub (.c2 .fdiv (.var 3) (.num 256)) (.c2 .mul (.c2 .fdiv (.c2 .fdiv (.var 3) (.num 256)) (.num 256)) (.num 256))) (.cons (.c2 .sub (.var 3) (.c2 .mul (.c2 .fdiv (.var 3) (.num 256)) (.num 256))) (.cons (.c2 .fdiv (.c2 .add (.num 20480) (.var 4)) (.num 256)) (.cons (.c2 .sub (.c2 .add (.num 20480) (.var 4)) (.c2 .mul (.c2 .fdiv (.c2 .add (.num 20480) (.var 4)) (.num 256)) (.num 256))) (.cons (.c2 .fdiv (.var 5) (.num 256)) (.cons (.c2 .sub (.var 5) (.c2 .mul (.c2 .fdiv (.var 5) (.num 256)) (.num 256))) (.cons (.num 0) (.cons (.num 0) (.cons (.num 0) (.cons (.num 0) (.var 6))))))))))))))))))))) .nil .nil))) (.c2 .mul (.c2 .fdiv (.c2 .sub (.num 65535) (.wr .u16 (.fn 1 (.cons (.c2 .fdiv (.var 0) (.num 256)) (.cons (.c2 .sub (.var 0) (.c2 .mul (.c2 .fdiv (.var 0) (.num 256)) (.num 256))) (.cons (.c2 .fdiv (.var 1) (.num 256)) (.cons (.c2 .sub (.var 1) (.c2 .mul (.c2 .fdiv (.var 1) (.num 256)) (.num 256))) (.cons (.c2 .fdiv (.c2 .fdiv (.c2 .fdiv (.var 2) (.num 256)) (.num 256)) (.num 256)) (.cons (.c2 .sub (.c2 .fdiv (.c2 .fdiv (.var 2) (.num 256)) (.num 256)) (.c2 .mul (.c2 .fdiv (.c2 .fdiv (.c2 .fdiv (.var 2) (.num 256)) (.num 256)) (.num 256)) (.num 256))) (.cons (.c2 .sub (.c2 .fdiv (.var 2) (.num 256)) (.c2 .mul (.c2 .fdiv (.c2 .fdiv (.var 2) (.num 256)) (.num 256)) (.num 256))) (.cons (.c2 .sub (.var 2) (.c2 .mul (.c2 .fdiv (.var 2) (.num 256)) (.num 256))) (.cons (.c2 .fdiv (.c2 .fdiv (.c2 .fdiv (.var 3) (.num 256)) (.num 256)) (.num 256)) (.cons (.c2 .sub (.c2 .fdiv (.c2 .fdiv (.var 3) (.num 256)) (.num 256)) (.c2 .mul (.c2 .fdiv (.c2 .fdiv (.c2 .fdiv (.var 3) (.num 256)) (.num 256)) (.num 256)) (.num 256))) (.cons (.c2 .sub (.c2 .fdiv (.var 3) (.num 256)) (.c2 .mul (.c2 .fdiv (.c2 .fdiv (.var 3) (.num 256)) (.num 256)) (.num 256))) (.cons (.c2 .sub (.var 3) (.c2 .mul (.c2 .fdiv (.var 3) (.num 256)) (.num 256))) (.cons (.c2 .fdiv (.c2 .add (.num 20480) (.var 4)) (.num 256)) (.cons (.c2 .sub (.c2 .add (.num 20480) (.var 4)) (.c2 .mul (.c2 .fdiv (.c2 .add (.num 20480) (.var 4)) (.num 256)) (.num 256))) (.cons (.c2 .fdiv (.var 5) (.num 256)) (.cons (.c2 .sub (.var 5) (.c2 .mul (.c2 .fdiv (.var 5) (.num 256)) (.num 256))) (.cons (.num 0) (.cons (.num 0) (.cons (.num 0) (.cons (.num 0) (.var 6))))))))))))))))))))) .nil .nil))) (.num 256)) (.num 256))) (.cons (.num 0) (.cons (.num 0) .nil))))))))))))))))))))⟩)], 20, 7, []⟩))))
theorem treeWrSeg_is : funTree (ctxN Go.Proofs.Tryz.prog annsHd consSum 8) annsHd 65 (tBytes 5 16 60 20 kSeg).vs (tBytes 5 16 60 20 kSeg).bs (tBytes 5 16 60 20 kSeg).n (preF (tBytes 5 16 60 20 kSeg).res) = treeWrSeg := by kernel_rfl
end Go.Proofs.YtfhjlimdakphcaaGreat.Sx
/- Sx laws of headers: the writers of layer Seg. Conditions: none. -/
set_option linter.unusedVariables false
set_option linter.unusedSimpArgs false
namespace Go.Proofs.YtfhjlimdakphcaaGreat.Sx
open Go
set_option maxRecDepth 100000 in
theorem wdSeg_ok {Φ : Sig} (hΦ : HdSig Φ) : TmplOk Go.Proofs.Tryz.prog Φ 135 (tBytes 5 3 60 20 kSeg) := by
  refine tmpl_of (consSum_ok hΦ.toSumSig) treeWdSeg_is (fun ρ res hres => ⟨eqJ, ?_⟩)
  obtain ⟨hk, hres⟩ := inKs_some hres
  obtain ⟨h0, hres⟩ := short_some hres
  obtain ⟨hb, hres⟩ := bytes_some hres
  have hr := wr_res (n := 6) hΦ ⟨by decide, by decide⟩ hres
  have h0' : (ρ 6).list.length ≤ 140737488351232 := h0
  have hb' : Bytes (ρ 6).list := hb
  have a0 : (hdrOf Φ ρ 6)[0]?.getD 0 = (ρ 0).int := hdr_at 6 0 (by decide)
  have a1 : (hdrOf Φ ρ 6)[1]?.getD 0 = (ρ 1).int := hdr_at 6 1 (by decide)
  have a2 : (hdrOf Φ ρ 6)[2]?.getD 0 = (ρ 2).int := hdr_at 6 2 (by decide)
  have a3 : (hdrOf Φ ρ 6)[3]?.getD 0 = (ρ 3).int := hdr_at 6 3 (by decide)
  have a4 : (hdrOf Φ ρ 6)[4]?.getD 0 = (ρ 4).int := hdr_at 6 4 (by decide)
  have a5 : (hdrOf Φ ρ 6)[5]?.getD 0 = (ρ 5).int := hdr_at 6 5 (by decide)
  have b0 := hk 0 .u16 rfl
  have b1 := hk 1 .u16 rfl
  have b2 := hk 2 .u32 rfl
  have b3 := hk 3 .u32 rfl
  have b4 := hk 4 .u8 rfl
  have b5 := hk 5 .u16 rfl
  simp only [kmin, kmax, Nat.zero_add] at b0 b1 b2 b3 b4 b5
  have n1 : ∀ x : Int, x / 65536 / 256 = x / 16777216 := fun x => by omega
  have n2 : ∀ x : Int, (x - x / 65536 * 65536) / 256 = x / 256 % 256 := fun x => by omega
  have n3 : ∀ x : Int, (x - x / 65536 * 65536) % 256 = x % 256 := fun x => by omega
  have n4 : ∀ x : Int, x / 65536 - x / 16777216 * 256 = x / 65536 % 256 := fun x => by omega
  have n5 : ∀ x : Int, x - x / 65536 * 65536 - x / 256 % 256 * 256 = x % 256 := fun x => by omega
  have n6 : ∀ x : Int, x / 256 / 256 = x / 65536 := fun x => by omega
  have n7 : ∀ x : Int, x / 256 - x / 65536 * 256 = x / 256 % 256 := fun x => by omega
  have m1 : ∀ x : Int, x - x / 256 * 256 = x % 256 := fun x => by omega
  have hB : 0 ≤ wsum (wrBase 5 (hdrOf Φ ρ 6) (ρ 6).list) := by simp only [wrBase, wsum, g, a0, a1, a2, a3, a4, a5]; omega
  have hS : ocs (ocs (wsum (wrBase 5 (hdrOf Φ ρ 6) (ρ 6).list)) + ocs (wsum (ρ 6).list)) = ocs (wsum (wrBase 5 (hdrOf Φ ρ 6) (ρ 6).list ++ (ρ 6).list)) := by rw [ocs_two hB (wsum_range hb').1, wsum_app _ _ (by simp [wrBase])]
  simp only [wrBase, g, a0, a1, a2, a3, a4, a5, List.cons_append, List.nil_append] at hS
  have hR := ocs_range (wsum (wrBase 5 (hdrOf Φ ρ 6) (ρ 6).list ++ (ρ 6).list))
  simp only [wrBase, g, a0, a1, a2, a3, a4, a5, List.cons_append, List.nil_append] at hR
  refine ⟨fun c1 => ?_, fun c1 => ?_⟩
  · simp [hΦ.sum, hΦ.ocs, wrap_ocs, m1, hS] at c1
    have hz : wrFail 5 (hdrOf Φ ρ 6) (ρ 6).list = 90 := by
      simp only [wrFail, g, a0, a1, a2, a3, a4, a5]
      repeat' split
      all_goals first | rfl | omega
    exact leaf_wr_err hr hz (by decide) (by decide)
  · refine ⟨fun c2 => ?_, fun c2 => ?_⟩
    · simp [hΦ.sum, hΦ.ocs, wrap_ocs, m1, hS] at c1 c2
      have hz : wrFail 5 (hdrOf Φ ρ 6) (ρ 6).list = 5 := by
        simp only [wrFail, g, a0, a1, a2, a3, a4, a5]
        repeat' split
        all_goals first | rfl | omega
      exact leaf_wr_err hr hz (by decide) (by decide)
    · simp [hΦ.sum, hΦ.ocs, wrap_ocs, m1, hS] at c1 c2
      have hz : wrFail 5 (hdrOf Φ ρ 6) (ρ 6).list = 0 := by
        simp only [wrFail, g, a0, a1, a2, a3, a4, a5]
        repeat' split
        all_goals first | rfl | omega
      have q1 : (20480 + (ρ 4).int) / 256 = 80 := by omega
      have q2 : (20480 + (ρ 4).int) % 256 = (ρ 4).int := by omega
      have q3 : 20480 + (ρ 4).int - 80 * 256 = (ρ 4).int := by omega
      refine leaf_wr_ok hr hz ?_ rfl (by decide)
      simp only [list_cons, list_nil, int_add, int_sub, int_mul, int_fdiv, int_len, den_var, den_num, D.int_i, fdiv_lit, m1, n1, n2, n3, n4, n5, q1, q2, q3, int_wr, den_fn, hΦ.sum, hΦ.ocs, wrap_ocs, hS, wrGood, wrBase, putF, fld, fld1, List.set_cons_succ, List.set_cons_zero, List.cons_append, List.nil_append, g, a0, a1, a2, a3, a4, a5]
      all_goals try simp only [List.cons.injEq, and_true, true_and]
      all_goals repeat' apply And.intro
      all_goals first | rfl | omega
set_option maxRecDepth 100000 in
theorem wrSeg_ok {Φ : Sig} (hΦ : HdSig Φ) : TmplOk Go.Proofs.Tryz.prog Φ 65 (tBytes 5 16 60 20 kSeg) := by
  refine tmpl_of (consSum_ok hΦ.toSumSig) treeWrSeg_is (fun ρ res hres => ⟨eqJ, ?_⟩)
  obtain ⟨hk, hres⟩ := inKs_some hres
  obtain ⟨h0, hres⟩ := short_some hres
  obtain ⟨hb, hres⟩ := bytes_some hres
  have hr := wr_res (n := 6) hΦ ⟨by decide, by decide⟩ hres
  have h0' : (ρ 6).list.length ≤ 140737488351232 := h0
  have hb' : Bytes (ρ 6).list := hb
  have a0 : (hdrOf Φ ρ 6)[0]?.getD 0 = (ρ 0).int := hdr_at 6 0 (by decide)
  have a1 : (hdrOf Φ ρ 6)[1]?.getD 0 = (ρ 1).int := hdr_at 6 1 (by decide)
  have a2 : (hdrOf Φ ρ 6)[2]?.getD 0 = (ρ 2).int := hdr_at 6 2 (by decide)
  have a3 : (hdrOf Φ ρ 6)[3]?.getD 0 = (ρ 3).int := hdr_at 6 3 (by decide)
  have a4 : (hdrOf Φ ρ 6)[4]?.getD 0 = (ρ 4).int := hdr_at 6 4 (by decide)
  have a5 : (hdrOf Φ ρ 6)[5]?.getD 0 = (ρ 5).int := hdr_at 6 5 (by decide)
  have b0 := hk 0 .u16 rfl
  have b1 := hk 1 .u16 rfl
  have b2 := hk 2 .u32 rfl
  have b3 := hk 3 .u32 rfl
  have b4 := hk 4 .u8 rfl
  have b5 := hk 5 .u16 rfl
  simp only [kmin, kmax, Nat.zero_add] at b0 b1 b2 b3 b4 b5
  have n1 : ∀ x : Int, x / 65536 / 256 = x / 16777216 := fun x => by omega
  have n2 : ∀ x : Int, (x - x / 65536 * 65536) / 256 = x / 256 % 256 := fun x => by omega
  have n3 : ∀ x : Int, (x - x / 65536 * 65536) % 256 = x % 256 := fun x => by omega
  have n4 : ∀ x : Int, x / 65536 - x / 16777216 * 256 = x / 65536 % 256 := fun x => by omega
  have n5 : ∀ x : Int, x - x / 65536 * 65536 - x / 256 % 256 * 256 = x % 256 := fun x => by omega
  have n6 : ∀ x : Int, x / 256 / 256 = x / 65536 := fun x => by omega
  have n7 : ∀ x : Int, x / 256 - x / 65536 * 256 = x / 256 % 256 := fun x => by omega
  have m1 : ∀ x : Int, x - x / 256 * 256 = x % 256 := fun x => by omega
  have hB : 0 ≤ wsum (wrBase 5 (hdrOf Φ ρ 6) (ρ 6).list) := by simp only [wrBase, wsum, g, a0, a1, a2, a3, a4, a5]; omega
  have hS : ocs (ocs (wsum (wrBase 5 (hdrOf Φ ρ 6) (ρ 6).list)) + ocs (wsum (ρ 6).list)) = ocs (wsum (wrBase 5 (hdrOf Φ ρ 6) (ρ 6).list ++ (ρ 6).list)) := by rw [ocs_two hB (wsum_range hb').1, wsum_app _ _ (by simp [wrBase])]
  simp only [wrBase, g, a0, a1, a2, a3, a4, a5, List.cons_append, List.nil_append] at hS
  have hR := ocs_range (wsum (wrBase 5 (hdrOf Φ ρ 6) (ρ 6).list ++ (ρ 6).list))
  simp only [wrBase, g, a0, a1, a2, a3, a4, a5, List.cons_append, List.nil_append] at hR
  refine ⟨fun c1 => ?_, fun c1 => ?_⟩
  · simp [hΦ.sum, hΦ.ocs, wrap_ocs, m1, hS] at c1
    have hz : wrFail 5 (hdrOf Φ ρ 6) (ρ 6).list = 90 := by
      simp only [wrFail, g, a0, a1, a2, a3, a4, a5]
      repeat' split
      all_goals first | rfl | omega
    exact leaf_wr_err hr hz (by decide) (by decide)
  · refine ⟨fun c2 => ?_, fun c2 => ?_⟩
    · simp [hΦ.sum, hΦ.ocs, wrap_ocs, m1, hS] at c1 c2
      have hz : wrFail 5 (hdrOf Φ ρ 6) (ρ 6).list = 5 := by
        simp only [wrFail, g, a0, a1, a2, a3, a4, a5]
        repeat' split
        all_goals first | rfl | omega
      exact leaf_wr_err hr hz (by decide) (by decide)
    · simp [hΦ.sum, hΦ.ocs, wrap_ocs, m1, hS] at c1 c2
      have hz : wrFail 5 (hdrOf Φ ρ 6) (ρ 6).list = 0 := by
        simp only [wrFail, g, a0, a1, a2, a3, a4, a5]
        repeat' split
        all_goals first | rfl | omega
      have q1 : (20480 + (ρ 4).int) / 256 = 80 := by omega
      have q2 : (20480 + (ρ 4).int) % 256 = (ρ 4).int := by omega
      have q3 : 20480 + (ρ 4).int - 80 * 256 = (ρ 4).int := by omega
      refine leaf_wr_ok hr hz ?_ rfl (by decide)
      simp only [list_cons, list_nil, int_add, int_sub, int_mul, int_fdiv, int_len, den_var, den_num, D.int_i, fdiv_lit, m1, n1, n2, n3, n4, n5, q1, q2, q3, n6, n7, int_wr, den_fn, hΦ.sum, hΦ.ocs, wrap_ocs, hS, wrGood, wrBase, putF, fld, fld1, List.set_cons_succ, List.set_cons_zero, List.cons_append, List.nil_append, g, a0, a1, a2, a3, a4, a5]
      all_goals try simp only [List.cons.injEq, and_true, true_and]
      all_goals repeat' apply And.intro
      all_goals first | rfl | omega
end Go.Proofs.YtfhjlimdakphcaaGreat.Sx
/- Sx: what Go function 141 does, as a tree of conditions (printed by a tool of this claim, proved by the kernel). Conditions: none. -/
set_option maxRecDepth 100000
namespace Go.Proofs.YtfhjlimdakphcaaGreat.Sx
open Go
def treeWdDgram : M (V × St) :=
(.split (.c2 .lt (.num 2040) (.c1 .len (.var 2)))
 (.ret (.t [.c (.sn), .c (.i .i64 (.num 5))], ⟨[], [], 3, 3, []⟩))
 (.split (.c1 .not (.c2 .eq (.c2 .sub (.num 65535) (.wr .u16 (.fn 2 (.c2 .add (.wr .u16 (.fn 1 (.cons (.c2 .fdiv (.var 0) (.num 256)) (.cons (.c2 .sub (.var 0) (.c2 .mul (.c2 .fdiv (.var 0) (.num 256)) (.num 256))) (.cons (.c2 .fdiv (.var 1) (.num 256)) (.cons (.c2 .sub (.var 1) (.c2 .mul (.c2 .fdiv (.var 1) (.num 256)) (.num 256))) (.cons (.c2 .fdiv (.c2 .add (.num 8) (.c1 .len (.var 2))) (.num 256)) (.cons (.c2 .sub (.c2 .add (.num 8) (.c1 .len (.var 2))) (.c2 .mul (.c2 .fdiv (.c2 .add (.num 8) (.c1 .len (.var 2))) (.num 256)) (.num 256))) (.cons (.num 0) (.cons (.num 0) .nil)))))))) .nil .nil)) (.wr .u16 (.fn 1 (.var 2) .nil .nil))) .nil .nil))) (.num 0)))
  (.ret (.t [.c (.s 3 1 0 (.num 0) (.num 8)), .c (.i .i64 (.num 0))], ⟨[], [(3, some ⟨true, .row [.u8] (.cons (.c2 .fdiv (.var 0) (.num 256)) (.cons (.c2 .sub (.var 0) (.c2 .mul (.c2 .fdiv (.var 0) (.num 256)) (.num 256))) (.cons (.c2 .fdiv (.var 1) (.num 256)) (.cons (.c2 .sub (.var 1) (.c2 .mul (.c2 .fdiv (.var 1) (.num 256)) (.num 256))) (.cons (.c2 .fdiv (.c2 .add (.num 8) (.c1 .len (.var 2))) (.num 256)) (.cons (.c2 .sub (.c2 .add (.num 8) (.c1 .len (.var 2))) (.c2 .mul (.c2 .fdiv (.c2 .add (.num 8) (.c1 .len (.var 2))) (.num 256)) (.num 256))) (.cons (.c2 .fdiv (.c2 .sub (.num 65535) (.wr .u16 (.fn 2 (.c2 .add (.wr .u16 (.fn 1 (.cons (.c2 .fdiv (.var 0) (.num 256)) (.cons (.c2 .sub (.var 0) (.c2 .mul (.c2 .fdiv (.var 0) (.num 256)) (.num 256))) (.cons (.c2 .fdiv (.var 1) (.num 256)) (.cons (.c2 .sub (.var 1) (.c2 .mul (.c2 .fdiv (.var 1) (.num 256)) (.num 256))) (.cons (.c2 .fdiv (.c2 .add (.num 8) (.c1 .len (.var 2))) (.num 256)) (.cons (.c2 .sub (.c2 .add (.num 8) (.c1 .len (.var 2))) (.c2 .mul (.c2 .fdiv (.c2 .add (.num 8) (.c1 .len (.var 2))) (.num 256)) (.num 256))) (.cons (.num 0) (.cons (.num 0) .nil)))))))) .nil .nil)) (.wr .u16 (.fn 1 (.var 2) .nil .nil))) .nil .nil))) (.num 256)) (.cons (.c2 .sub (.c2 .sub (.num 65535) (.wr .u16 (.fn 2 (.c2 .add (.wr .u16 (.fn 1 (.cons (.c2 .fdiv (.var 0) (.num 256)) (.cons (.c2 .sub (.var 0) (.c2 .mul (.c2 .fdiv (.var 0) (.num 256)) (.num 256))) (.cons (.c2 .fdiv (.var 1) (.num 256)) (.cons (.c2 .sub (.var 1) (.c2 .mul (.c2 .fdiv (.var 1) (.num 256)) (.num 256))) (.cons (.c2 .fdiv (.c2 .add (.num 8) (.c1 .len (.var 2))) (.num 256)) (.cons (.c2 .sub (.c2 .add (.num 8) (.c1 .len (.var 2))) (.c2 .mul (.c2 .fdiv (.c2 .add (.num 8) (.c1 .len (.var 2))) (.num 256)) (.num 256))) (.cons (.num 0) (.cons (.num 0) .nil)))))))) .nil .nil)) (.wr .u16 (.fn 1 (.var 2) .nil .nil))) .nil .nil))) (.c2 .mul (.c2 .fdiv (.c2 .sub (.num 65535) (.wr .u16 (.fn 2 (.c2 .add (.wr .u16 (.fn 1 (.cons (.c2 .fdiv (.var 0) (.num 256)) (.cons (.c2 .sub (.var 0) (.c2 .mul (.c2 .fdiv (.var 0) (.num 256)) (.num 256))) (.cons (.c2 .fdiv (.var 1) (.num 256)) (.cons (.c2 .sub (.var 1) (.c2 .mul (.c2 .fdiv (.var 1) (.num 256)) (.num 256))) (.cons (.c2 .fdiv (.c2 .add (.num 8) (.c1 .len (.var 2))) (.num 256)) (.cons (.c2 .sub (.c2 .add (.num 8) (.c1 .len (.var 2))) (.c2 .mul (.c2 .fdiv (.c2 .add (.num 8) (.c1 .len (.var 2))) (.num 256)) (.num 256))) (.cons (.num 0) (.cons (.num 0) .nil)))))))) .nil .nil)) (.wr .u16 (.fn 1 (.var 2) .nil .nil))) .nil .nil))) (.num 256)) (.num 256))) .nil))))))))⟩)], 6, 3, []⟩))
  (.ret (.t [.c (.s 3 1 0 (.num 0) (.num 8)), .c (.i .i64 (.num 0))], ⟨[], [(3, some ⟨true, .row [.u8] (.cons (.c2 .fdiv (.var 0) (.num 256)) (.cons (.c2 .sub (.var 0) (.c2 .mul (.c2 .fdiv (.var 0) (.num 256)) (.num 256))) (.cons (.c2 .fdiv (.var 1) (.num 256)) (.cons (.c2 .sub (.var 1) (.c2 .mul (.c2 .fdiv (.var 1) (.num 256)) (.num 256))) (.cons (.c2 .fdiv (.c2 .add (.num 8) (.c1 .len (.var 2))) (.num 256)) (.cons (.c2 .sub (.c2 .add (.num 8) (.c1 .len (.var 2))) (.c2 .mul (.c2 .fdiv (.c2 .add (.num 8) (.c1 .len (.var 2))) (.num 256)) (.num 256))) (.cons (.num 255) (.cons (.num 255) .nil))))))))⟩)], 6, 3, []⟩))))
theorem treeWdDgram_is : funTree (ctxN Go.Proofs.Tryz.prog annsHd consSum 8) annsHd 141 (tBytes 6 3 60 8 kDgram).vs (tBytes 6 3 60 8 kDgram).bs (tBytes 6 3 60 8 kDgram).n (preF (tBytes 6 3 60 8 kDgram).res) = treeWdDgram := by kernel_rfl
end Go.Proofs.YtfhjlimdakphcaaGreat.Sx
