/- Sx laws of layer 8: what is read hangs on the first bytes alone: the tree's leaves are true. Conditions: none. -/
import Derived.Test.YtaklgacadjipjaaN6B
import Derived.Test.YtaklgacadjipjaaTN6First
set_option linter.unusedVariables false
set_option linter.unusedSimpArgs false
namespace Go.Proofs.Ytaklgacadjipjaa.Sx
open Go
/-- All bytes behind the first n are turned by the byte of the variable 1. -/
def firstJ (n : Nat) : Inv := ⟨fun _ ρ ds => ∃ (i : Nat) (l : List Int), (nthD ds 0).int = i ∧ (nthD ds 1).list = l ∧ n ≤ i ∧ i ≤ (ρ 0).list.length ∧ l.length = (ρ 0).list.length ∧ Bytes l ∧ ∀ c, c < n → l[c]? = (ρ 0).list[c]?, fun _ ρ ds => (ρ 0).list.length - (nthD ds 0).int.toNat⟩
theorem firstLoop {Φ : Sig} {ρ : Env} {n : Nat} {z : Int} {x : M (V × St)} {B : BK} {K : BK → Env → V × St → Prop} (hz : z = n) (hb : Bytes (ρ 0).list) (h0 : (ρ 0).list.length ≤ 140737488351232) (hn : n ≤ (ρ 0).list.length)
    (hx : ∀ (ds : List D) B, (nthD ds 1).list.length = (ρ 0).list.length → Bytes (nthD ds 1).list → (∀ c, c < n → (nthD ds 1).list[c]? = (ρ 0).list[c]?) → ds.length = 2 → x.ok Φ (firstJ n) B (upd ρ 2 ds) K) :
    M.ok Φ (firstJ n) (.loop 0 2 2 [(.num z), (.var 0)] [((.c2 .le (.num 0) (.var 2)), true), ((.c2 .eq (.c1 .len (.var 3)) (.c1 .len (.var 0))), true), ((.c1 (.kin [.u8]) (.var 3)), true)]
      (.split (.c2 .lt (.var 2) (.c1 .len (.var 0)))
       (.chk (.c2 .le (.c2 .add (.var 2) (.num 1)) (.c1 .len (.var 3)))
       (.back 0 2 [(.wr .i64 (.c2 .add (.var 2) (.num 1))), (.set (.var 3) (.var 2) (.bits .xor .u8 (.c2 .rd (.var 3) (.var 2)) (.var 1)))])) x)) B ρ K := by
  subst hz
  refine ⟨⟨n, (ρ 0).list, rfl, rfl, Nat.le_refl _, hn, rfl, hb, fun c _ => rfl⟩, ?_⟩
  rintro ds hlen ⟨i, l, hi, hl, hni, hil, hll, hbl, hs⟩
  have e0 : upd ρ 2 ds 0 = ρ 0 := upd_lo ds (by decide)
  have e2 : upd ρ 2 ds 2 = nthD ds 0 := upd_at (i := 0) (by omega)
  have e3 : upd ρ 2 ds 3 = nthD ds 1 := upd_at (i := 1) (by omega)
  refine ⟨?_, fun c4 => ⟨?_, ?_⟩, fun c4 => hx ds _ (by rw [hl, hll]) (by rw [hl]; exact hbl) (by rw [hl]; exact hs) hlen⟩
  · intro t p hm
    simp only [List.mem_cons, Prod.mk.injEq, List.not_mem_nil, or_false] at hm
    rcases hm with ⟨rfl, rfl⟩ | ⟨rfl, rfl⟩ | ⟨rfl, rfl⟩
    · simp [e2, hi]
    · simp [e3, e0, hl, hll]
    · simp [e3, hl]; exact hbl
  · simp [e0, e2, e3, hi, hl] at c4 ⊢; omega
  · simp [e0, e2, hi] at c4
    show BK.at_ _ 2 _ 2 _
    simp only [BK.at_, if_true]
    have hw : IntKind.i64.wrap ((i : Int) + 1) = ((i + 1 : Nat) : Int) := by rw [wrap_is (by simp [kmin]; omega) (by simp [kmax]; omega)]; rfl
    refine ⟨⟨i + 1, l.set i (Go.bits .xor .u8 (l.getD i 0) (upd ρ 2 ds 1).int), ?_, ?_, by omega, by omega, by simpa using hll, ?_, ?_⟩, ?_⟩
    · simp only [List.map, nthD, T.den, O2.den, e2, D.int_i, hi, hw]
    · simp only [List.map, nthD, T.den, O2.den, e2, e3, D.int_i, D.list_l, hi, hl, setL, Bo.op, Int.toNat_natCast]
    · refine set_bytes hbl ?_
      have := bits_range .xor .u8 (l.getD i 0) (upd ρ 2 ds 1).int
      simp only [kmin, kmax, Bo.op] at this
      omega
    · intro c hc
      rw [List.getElem?_set_ne (by omega)]
      exact hs c hc
    · simp only [firstJ, List.map, nthD, T.den, O2.den, e2, D.int_i, hi, hw]; omega
theorem n6first_ok : TmplOk Go.Proofs.Try.prog (fun _ _ _ _ => .i 0) 11 tN6First := by
  refine tmpl_of cons6_ok treeN6First_is (fun ρ res hres => ⟨firstJ 40, ?_⟩)
  obtain ⟨h0, hres⟩ := short_some hres
  obtain ⟨hb, hres⟩ := bytes_some hres
  obtain ⟨_, _, hres⟩ := inR_some hres
  obtain rfl := ret_some hres
  refine ⟨fun c1 => leaf_true rfl (by decide), fun c1 => ?_⟩
  have hlen : 40 ≤ (ρ 0).list.length := by
    simp at c1; omega
  refine ⟨fun c2 => ?_, fun c2 => ⟨fun c3 => ?_, fun c3 => ?_⟩⟩
  · refine firstLoop (n := 40) rfl hb h0 hlen (fun ds B hl hbl hs hds => ?_)
    have e0 : upd ρ 2 ds 0 = ρ 0 := upd_lo ds (by decide)
    have e3 : upd ρ 2 ds 3 = nthD ds 1 := upd_at (i := 1) (by omega)
    refine ⟨fun d1 => leaf_true rfl (by decide), fun d1 => ?_⟩
    exfalso
    simp [e0, e3, hs 0 (by decide)] at c2 d1
    exact c2 d1
  · refine firstLoop (n := 40) rfl hb h0 hlen (fun ds B hl hbl hs hds => ?_)
    have e0 : upd ρ 2 ds 0 = ρ 0 := upd_lo ds (by decide)
    have e3 : upd ρ 2 ds 3 = nthD ds 1 := upd_at (i := 1) (by omega)
    refine ⟨fun d1 => leaf_true rfl (by decide), fun d1 => ⟨fun d2 => leaf_true rfl (by decide), fun d2 => ?_⟩⟩
    exfalso
    simp [e0, e3, hs 4 (by decide), hs 5 (by decide)] at c3 d2
    exact c3 d2
  · refine firstLoop (n := 40) rfl hb h0 hlen (fun ds B hl hbl hs hds => ?_)
    have e0 : upd ρ 2 ds 0 = ρ 0 := upd_lo ds (by decide)
    have e3 : upd ρ 2 ds 3 = nthD ds 1 := upd_at (i := 1) (by omega)
    refine ⟨fun d1 => ?_, fun d1 => ⟨fun d2 => ?_, fun d2 => ⟨fun d3 => leaf_true rfl (by decide), fun d3 => ?_⟩⟩⟩
    · exfalso
      simp [e0, e3, hs 0 (by decide)] at c2 d1
      exact d1 c2
    · exfalso
      simp [e0, e3, hs 4 (by decide), hs 5 (by decide)] at c3 d2
      exact d2 c3
    · exfalso
      simp [e0, e3, hs 0 (by decide), hs 1 (by decide), hs 2 (by decide), hs 3 (by decide), hs 4 (by decide), hs 5 (by decide), hs 6 (by decide), hs 7 (by decide), hs 8 (by decide), hs 9 (by decide), hs 10 (by decide), hs 11 (by decide), hs 12 (by decide), hs 13 (by decide), hs 14 (by decide), hs 15 (by decide), hs 16 (by decide), hs 17 (by decide), hs 18 (by decide), hs 19 (by decide), hs 20 (by decide), hs 21 (by decide), hs 22 (by decide), hs 23 (by decide), hs 24 (by decide), hs 25 (by decide), hs 26 (by decide), hs 27 (by decide), hs 28 (by decide), hs 29 (by decide), hs 30 (by decide), hs 31 (by decide), hs 32 (by decide), hs 33 (by decide), hs 34 (by decide), hs 35 (by decide), hs 36 (by decide), hs 37 (by decide), hs 38 (by decide), hs 39 (by decide)] at d3
end Go.Proofs.Ytaklgacadjipjaa.Sx
