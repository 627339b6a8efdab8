/- Sx, part 18: code and functions are as told. Conditions: none. -/
import Derived.Test.YtlgiibchnnaceaaSxJ
import Derived.Test.YtlgiibchnnaceaaSxY
import Derived.Deep.LoopGhost
set_option linter.unusedVariables false
set_option linter.unusedSimpArgs false
namespace Go.Proofs.Ytlgiibchnnaceaa.Sx
open Go Go.RowKit

/-! What is to be shown of a tree: I holds at each loop's head, μ gets less with each round. -/
abbrev BK := Nat → List D → Prop
def BK.at_ (B : BK) (b : Nat) (p : List D → Prop) : BK := fun i ds => if i = b then p ds else B i ds
structure Inv where
  I : Nat → Env → List D → Prop
  μ : Nat → Env → List D → Nat
def M.ok (Φ : Sig) (J : Inv) {α : Type} : M α → BK → Env → (BK → Env → α → Prop) → Prop
  | .ret a, B, ρ, K => K B ρ a
  | .split t x y, B, ρ, K => ((t.den Φ ρ).bool = true → x.ok Φ J B ρ K) ∧ ((t.den Φ ρ).bool = false → y.ok Φ J B ρ K)
  | .chk t x, B, ρ, K => (t.den Φ ρ).bool = true ∧ x.ok Φ J B ρ K
  | .fail _, _, _, _ => False
  | .loop id b n σ fs x, B, ρ, K => J.I id ρ (σ.map (T.den Φ ρ)) ∧ ∀ ds, ds.length = n → J.I id ρ ds → fs.hold Φ (upd ρ b ds) ∧ x.ok Φ J (B.at_ b fun ds' => J.I id ρ ds' ∧ J.μ id ρ ds' < J.μ id ρ ds) (upd ρ b ds) K
  | .back id b σ, B, ρ, _ => B b (σ.map (T.den Φ ρ))
section
variable {Φ : Sig} {J : Inv}
theorem M.ok_bind {α γ : Type} {f : α → M γ} {K : BK → Env → γ → Prop} : ∀ {m : M α} {B : BK} {ρ : Env}, (m.bind f).ok Φ J B ρ K → m.ok Φ J B ρ (fun B' ρ' a => (f a).ok Φ J B' ρ' K)
  | .ret a, B, ρ, h => h
  | .split t x y, B, ρ, h => ⟨fun e => M.ok_bind (h.1 e), fun e => M.ok_bind (h.2 e)⟩
  | .chk t x, B, ρ, h => ⟨h.1, M.ok_bind h.2⟩
  | .fail _, _, _, h => h
  | .loop id b n σ fs x, B, ρ, h => ⟨h.1, fun ds hn hi => ⟨(h.2 ds hn hi).1, M.ok_bind (h.2 ds hn hi).2⟩⟩
  | .back id b σ, B, ρ, h => h
theorem M.ok_bind' {α γ : Type} {f : α → M γ} {K : BK → Env → γ → Prop} : ∀ {m : M α} {B : BK} {ρ : Env}, m.ok Φ J B ρ (fun B' ρ' a => (f a).ok Φ J B' ρ' K) → (m.bind f).ok Φ J B ρ K
  | .ret a, B, ρ, h => h
  | .split t x y, B, ρ, h => ⟨fun e => M.ok_bind' (h.1 e), fun e => M.ok_bind' (h.2 e)⟩
  | .chk t x, B, ρ, h => ⟨h.1, M.ok_bind' h.2⟩
  | .fail _, _, _, h => h
  | .loop id b n σ fs x, B, ρ, h => ⟨h.1, fun ds hn hi => ⟨(h.2 ds hn hi).1, M.ok_bind' (h.2 ds hn hi).2⟩⟩
  | .back id b σ, B, ρ, h => h
theorem M.ok_mono {α : Type} {K K' : BK → Env → α → Prop} (hK : ∀ B ρ a, K B ρ a → K' B ρ a) : ∀ {m : M α} {B : BK} {ρ : Env}, m.ok Φ J B ρ K → m.ok Φ J B ρ K'
  | .ret a, B, ρ, h => hK _ _ _ h
  | .split t x y, B, ρ, h => ⟨fun e => M.ok_mono hK (h.1 e), fun e => M.ok_mono hK (h.2 e)⟩
  | .chk t x, B, ρ, h => ⟨h.1, M.ok_mono hK h.2⟩
  | .fail _, _, _, h => h
  | .loop id b n σ fs x, B, ρ, h => ⟨h.1, fun ds hn hi => ⟨(h.2 ds hn hi).1, M.ok_mono hK (h.2 ds hn hi).2⟩⟩
  | .back id b σ, B, ρ, h => h
theorem M.ok_lift {α : Type} {K : BK → Env → α → Prop} : ∀ {o : O α} {B : BK} {ρ : Env}, (M.lift o).ok Φ J B ρ K → ∃ a, o.val (T.den Φ ρ) = some a ∧ K B ρ a
  | .ret a, B, ρ, h => ⟨a, rfl, h⟩
  | .split t x y, B, ρ, h => by
    by_cases e : (t.den Φ ρ).bool = true
    · obtain ⟨a, h1, h2⟩ := M.ok_lift (h.1 e)
      exact ⟨a, by simp only [O.val]; rw [if_pos e]; exact h1, h2⟩
    · obtain ⟨a, h1, h2⟩ := M.ok_lift (h.2 (by simpa using e))
      exact ⟨a, by simp only [O.val]; rw [if_neg e]; exact h1, h2⟩
  | .chk t x, B, ρ, h => by
    obtain ⟨a, h1, h2⟩ := M.ok_lift h.2
    exact ⟨a, by simp only [O.val]; rw [if_pos h.1]; exact h1, h2⟩
  | .fail _, _, _, h => h.elim
theorem M.ok_toO {α : Type} {B : BK} {ρ : Env} {a : α} : ∀ {m : M α}, m.toO.val (T.den Φ ρ) = some a → m.ok Φ J B ρ (fun _ ρ' a' => ρ' = ρ ∧ a' = a)
  | .ret a', h => by simp only [M.toO, O.val] at h; injection h with h; exact ⟨rfl, h⟩
  | .split t x y, h => by
    simp only [M.toO, O.val] at h
    refine ⟨fun e => ?_, fun e => ?_⟩
    · rw [if_pos e] at h; exact M.ok_toO h
    · rw [if_neg (by rw [e]; simp)] at h; exact M.ok_toO h
  | .chk t x, h => by
    simp only [M.toO, O.val] at h
    split at h
    · rename_i e; exact ⟨e, M.ok_toO h⟩
    · cases h
  | .fail _, h => by simp [M.toO, O.val] at h
  | .loop .., h => by simp [M.toO, O.val] at h
  | .back .., h => by simp [M.toO, O.val] at h
end

/-! Code. -/
def Ex.to : Ex → Exit
  | .norm => .normal
  | .exit i => .exit i
  | .ret => .ret
section
variable {Φ : Sig} {J : Inv} {en : En} {X : Ctx} {L : Nat → St → Ann}
def Post (Φ : Sig) (en : En) (K : BK → Env → Ex × St → Prop) (B : BK) (ρ : Env) (S : St) (β : Map) : Exit → Act → World → Prop :=
  fun e a w => ∃ B' ρ' r β', K B' ρ' r ∧ e = r.1.to ∧ Sim Φ ρ' en r.2 β' a w ∧ After ρ S β ρ' r.2 β' ∧ ∀ i, i < S.nv → B' i = B i
theorem Post.then {K : BK → Env → Ex × St → Prop} {B B' : BK} {ρ ρ' : Env} {S S' : St} {β β' : Map} {e : Exit} {a : Act} {w : World} (h : Post Φ en K B' ρ' S' β' e a w) (ha : After ρ S β ρ' S' β') (hB : ∀ i, i < S.nv → B' i = B i) : Post Φ en K B ρ S β e a w := by
  obtain ⟨B2, ρ2, r, β2, h1, h2, h3, h4, h5⟩ := h
  exact ⟨B2, ρ2, r, β2, h1, h2, h3, ha.trans h4, fun i hi => (h5 i (Nat.lt_of_lt_of_le hi ha.nv)).trans (hB i hi)⟩
theorem region_sound (hX : CallOk X.P Φ X.call) {id : Nat} {ops : Array Oper} {draw : Bool} {S S' : St} {ρ : Env} (hev : (evRegion X ops draw en.n S).val (T.den Φ ρ) = some S') {β : Map} {a : Act} {w : World} (hs : Sim Φ ρ en S β a w)
    {Q : Exit → Act → World → Prop} (hQ : ∀ a' w' β', Sim Φ ρ en S' β' a' w' → After ρ S β ρ S' β' → Q .normal a' w') : (Code.region id ops draw).wp X.P Q a w := by
  unfold evRegion at hev
  obtain ⟨⟨S1, its⟩, h1, h2⟩ := O.bind_some hev
  obtain ⟨d, hd, hc⟩ := hs.cur
  have hQ' : ∀ a' w' β' p q, S1.fa.hold Φ ρ → S1.nv = S.nv → S.nb ≤ S1.nb → S1.tm = p ++ S.tm → S1.me = q ++ S.me → Cur (T.den Φ ρ) en S1.tm S1.me (q ++ d) β' a' w' → (∀ j, S1.nb ≤ j → β' j = none) → (∀ j, j < S.nb → β' j = β j) → S1 = S' → Q .normal a' w' := by
    intro a' w' β' p q g1 g2 g3 g4 g5 g6 g7 g8 e
    subst e
    exact hQ a' w' β' ⟨⟨q ++ d, by rw [g5, hd, List.append_assoc], g6⟩, g1, g7, Nat.le_trans hs.lo g3⟩ ⟨fun _ _ => rfl, by rw [g2]; exact Nat.le_refl _, g3, g8, ⟨p, g4⟩, ⟨q, g5⟩⟩
  simp only at h2
  cases draw with
  | true =>
    simp only [if_true] at h2
    split at h2
    · rename_i hd'
      simp only [Bool.and_eq_true] at hd'
      obtain ⟨⟨e1, e2⟩, e3⟩ := hd'
      simp only [O.val] at h2
      injection h2 with h2
      exact draw_sound hX e1 e2 e3 h1 hs.fa hc hs.free hs.lo (fun a' w' β' p q g1 g2 g3 g4 g5 g6 g7 g8 => hQ' a' w' β' p q g1 g2 g3 g4 g5 g6 g7 g8 h2)
    · cases h2
  | false =>
    simp only [if_false, Bool.false_eq_true] at h2
    simp only [O.val] at h2
    injection h2 with h2
    refine wp_region ?_
    rw [List.range_eq_range']
    have := seq_sound hX (Q := Q) ops.toList 0 S its (fun k o hk => by rw [Nat.zero_add, ← Array.getElem?_toList]; exact hk) h1 hs.fa β a w d hc hs.free hs.lo (fun a' w' β' p q g1 g2 g3 g4 g5 g6 g7 g8 => hQ' a' w' β' p q g1 g2 g3 g4 g5 g6 g7 g8 h2)
    simpa using this
theorem hasK_append_iff {α : Type} {l m : List (Nat × α)} {t : Nat} : hasK (l ++ m) t = true ↔ hasK l t = true ∨ hasK m t = true := by rw [hasK_append, Bool.or_eq_true]
theorem takeN_append {α : Type} : ∀ (p l : List α), takeN (lenN (p ++ l) - lenN l) (p ++ l) = p
  | [], l => by simp only [List.nil_append, Nat.sub_self]; cases l <;> rfl
  | x :: p, l => by
    simp only [List.cons_append, lenN]
    have : lenN (p ++ l) + 1 - lenN l = (lenN (p ++ l) - lenN l) + 1 := by
      simp only [lenN_eq, List.length_append]; omega
    rw [this]
    simp only [takeN, takeN_append p l]
theorem keysIn_mem {α γ : Type} {l : List (Nat × α)} : ∀ {p : List (Nat × γ)}, keysIn l p = true → ∀ {t : Nat}, hasK p t = true → hasK l t = true
  | [], _, t, h => by cases h
  | (k, _) :: p, hk, t, h => by
    simp only [keysIn, Bool.and_eq_true] at hk
    simp only [hasK, Bool.or_eq_true] at h
    rcases h with h | h
    · rw [← Nat.eq_of_beq_eq_true h]; exact hk.1
    · exact keysIn_mem hk.2 h
theorem keysOld_mem {nb : Nat} {l : List (Nat × Option MB)} : ∀ {p : List (Nat × Option MB)}, keysOld nb l p = true → ∀ {t : Nat}, hasK p t = true → nb ≤ t ∨ hasK l t = true
  | [], _, t, h => by cases h
  | (k, _) :: p, hk, t, h => by
    simp only [keysOld, Bool.and_eq_true, Bool.or_eq_true] at hk
    simp only [hasK, Bool.or_eq_true] at h
    rcases h with h | h
    · rw [← Nat.eq_of_beq_eq_true h]; exact hk.1.imp Nat.le_of_ble_eq_true id
    · exact keysOld_mem hk.2 h
theorem look_skip {t : Nat} {p l : List (Nat × V)} (h : hasK p t = false) : look (p ++ l) t = look l t := by rw [look_append, look_none h]; rfl
/-- The head from the loop's beginning. -/
theorem head_start {H : Head} {S : St} {σ : List T} {π : List (Option Nat)} {ρ : Env} {β : Map} {a : Act} {w : World} (hstart : okStart H S = true) (hok : okHead H S.nv S.nb σ π S = true) (hfs : H.fa.hold Φ (upd ρ S.nv (σ.map (T.den Φ ρ)))) (hs : Sim Φ ρ en S β a w) :
    ∃ β2, Sim Φ (upd ρ S.nv (σ.map (T.den Φ ρ))) en (H.st S) β2 a w ∧ (∀ j, j < S.nb → β2 j = β j) ∧ (σ.map (T.den Φ ρ)).length = H.n := by
  refine head_sim hstart hok hs hs hfs (fun _ _ => rfl) (fun _ _ => rfl) (fun _ _ _ h => h) (fun _ _ _ => rfl) (fun d d1 h1 h2 => ?_)
  have e : d1 = d := by rw [h1] at h2; exact (List.append_cancel_right h2).symm
  subst e
  obtain ⟨d', hd', hc⟩ := hs.cur
  have e : d' = d1 := by rw [h1] at hd'; exact (List.append_cancel_right hd').symm
  subst e
  refine ⟨fun j _ hj => by rw [hasK_append, hasK_append, hj]; simp, fun j hj hk => ?_, fun k _ _ _ h => h⟩
  rw [hasK_append_iff, hasK_append_iff] at hk
  rcases hk with hk | hk | hk
  · simp only [okStart, Bool.and_eq_true] at hstart
    obtain ⟨x, hx, hrw⟩ := ownOld_mem hstart.2.2.2.2.2.2.2 hk
    rw [h1, lookM_append] at hx
    split at hx
    · rename_i hd; exact hc.run.wr j hd hj
    · exact ⟨x, hx, hrw⟩
  · have := (newE_has _ _ _).mp hk
    have := hs.lo
    omega
  · exact hc.run.wr j hk hj
/-- The head from a round's end. -/
theorem head_round {H : Head} {S S1 : St} {σ : List T} {π : List (Option Nat)} {ρe ρ0 ρ1 : Env} {βe β0 β1 : Map} {ae a : Act} {we w : World} (hstart : okStart H S = true) (hok : okHead H S.nv S.nb σ π S1 = true) (hfs : H.fa.hold Φ (upd ρe S.nv (σ.map (T.den Φ ρ1)))) (hround : okRound H S.nb (H.st S) S1 = true)
    (he : Sim Φ ρe en S βe ae we) (h1 : Sim Φ ρ1 en S1 β1 a w) (ha : After ρ0 (H.st S) β0 ρ1 S1 β1) (hρ : ∀ i, i < S.nv → ρ0 i = ρe i) (hβ : ∀ j, j < S.nb → β0 j = βe j) :
    ∃ β2, Sim Φ (upd ρe S.nv (σ.map (T.den Φ ρ1))) en (H.st S) β2 a w ∧ (∀ j, j < S.nb → β2 j = βe j) ∧ (σ.map (T.den Φ ρ1)).length = H.n := by
  obtain ⟨p, hp⟩ := ha.tm
  obtain ⟨q, hq⟩ := ha.me
  simp only [okRound, Bool.and_eq_true] at hround
  rw [hp, hq, takeN_append, takeN_append] at hround
  have kp : ∀ t, hasK p t = true → hasK H.tm t = true := fun t => keysIn_mem hround.1
  have kq : ∀ t, hasK q t = true → S.nb ≤ t ∨ hasK H.old t = true := fun t => keysOld_mem hround.2
  have nvle : S.nv ≤ (H.st S).nv := Nat.le_add_right _ _
  have nble : S.nb ≤ (H.st S).nb := Nat.le_add_right _ _
  have fls : ∀ {b : Bool}, b ≠ true → b = false := fun {b} h => by cases b <;> simp at h ⊢
  refine head_sim hstart hok he h1 hfs (fun i hi => (ha.rho i (by omega)).trans (hρ i hi)) (fun j hj => (ha.beta j (by omega)).trans (hβ j hj)) (fun t ht v hv => ?_) (fun j hj hk => ?_) (fun d d1 e1 e2 => ?_)
  · rw [hp, look_skip (fls fun h => by rw [kp t h] at ht; cases ht)]
    simp only [Head.st]
    rw [look_skip ht]; exact hv
  · have hqj : hasK q j = false := fls fun h => by
      rcases kq j h with h | h
      · omega
      · rw [hk] at h; cases h
    rw [hq, lookM_skip hqj]
    simp only [Head.st]
    rw [lookM_skip hk, lookM_skip (fls fun h => by have := (newE_has _ _ _).mp h; omega)]
  · have ed : d1 = q ++ (H.old ++ (newE S.nb H.new ++ d)) := by
      rw [hq] at e2
      simp only [Head.st, e1] at e2
      have : (q ++ (H.old ++ (newE S.nb H.new ++ d))) ++ en.base = d1 ++ en.base := by rw [← e2]; simp only [List.append_assoc]
      exact (List.append_cancel_right this).symm
    obtain ⟨d', hd', hc⟩ := h1.cur
    have e : d' = d1 := by rw [e2] at hd'; exact (List.append_cancel_right hd').symm
    subst e
    have hlo := he.lo
    refine ⟨fun j hj hk => ?_, fun j hj hk => ?_, fun k hk ho g1 g2 => ?_⟩
    · rw [ed, hasK_append_iff] at hk
      rcases hk with hk | hk
      · rcases kq j hk with h | h
        · omega
        · rw [hasK_append, h]; rfl
      · exact hk
    · exact hc.run.wr j (by rw [ed, hasK_append, hk]; simp) hj
    · have hqk : hasK q k = false := fls fun h => by
        rcases kq k h with h | h
        · omega
        · rw [ho] at h; cases h
      rw [ed, lookM_skip hqk, lookM_skip ho, lookM_skip (fls fun h => by have := (newE_has _ _ _).mp h; omega)] at g2
      exact g2
theorem upd_upd_lo {ρ : Env} {b : Nat} {ds : List D} : ∀ i, i < b → upd ρ b ds i = ρ i := fun i hi => upd_lo ds hi

theorem code_sound (hX : CallOk X.P Φ X.call) : ∀ (c : Code) (S : St) (B : BK) (ρ : Env) (K : BK → Env → Ex × St → Prop), (evCode X L en.n c S).ok Φ J B ρ K → ∀ (β : Map) (a : Act) (w : World), Sim Φ ρ en S β a w → c.wp X.P (Post Φ en K B ρ S β) a w := by
  intro c
  induction c with
  | skip => intro S B ρ K h β a w hs; exact wp_skip ⟨B, ρ, _, β, h, rfl, hs, After.refl _ _ _, fun _ _ => rfl⟩
  | label l => intro S B ρ K h β a w hs; exact wp_label ⟨B, ρ, _, β, h, rfl, hs, After.refl _ _ _, fun _ _ => rfl⟩
  | ret => intro S B ρ K h β a w hs; exact wp_ret ⟨B, ρ, _, β, h, rfl, hs, After.refl _ _ _, fun _ _ => rfl⟩
  | exit i => intro S B ρ K h β a w hs; exact wp_exit ⟨B, ρ, _, β, h, rfl, hs, After.refl _ _ _, fun _ _ => rfl⟩
  | region id ops draw =>
    intro S B ρ K h β a w hs
    simp only [evCode] at h
    obtain ⟨S', h1, h2⟩ := M.ok_lift (M.ok_bind h)
    exact region_sound hX h1 hs (fun a' w' β' g1 g2 => ⟨B, ρ, (.norm, S'), β', h2, rfl, g1, g2, fun _ _ => rfl⟩)
  | seq x y ihx ihy =>
    intro S B ρ K h β a w hs
    simp only [evCode] at h
    refine wp_seq (wp_mono (ihx S B ρ _ (M.ok_bind h) β a w hs) ?_)
    rintro e a' w' ⟨B', ρ', ⟨ex, S'⟩, β', h1, h2, h3, h4, h5⟩
    subst h2
    cases ex with
    | norm => exact wp_mono (ihy S' B' ρ' K h1 β' a' w' h3) (fun e a w hp => hp.then h4 h5)
    | exit i => exact ⟨B', ρ', _, β', h1, rfl, h3, h4, h5⟩
    | ret => exact ⟨B', ρ', _, β', h1, rfl, h3, h4, h5⟩
  | cond c x y ihx ihy =>
    intro S B ρ K h β a w hs
    simp only [evCode] at h
    split at h
    · rename_i t ht
      obtain ⟨d, hd, hc⟩ := hs.cur
      have hv := opdV_rep hc.tm c
      rw [ht] at hv
      simp only [V.rep, W.rep, C.rep] at hv
      rw [← nrmB_ok hs.fa] at hv
      split at h
      · rename_i hdec
        have := decF_ok hs.fa hdec
        rw [this] at hv
        exact wp_cond_true hv (ihx S B ρ K h β a w hs)
      · rename_i hdec
        have := decF_ok hs.fa hdec
        rw [this] at hv
        exact wp_cond_false hv (ihy S B ρ K h β a w hs)
      · refine wp_cond_split hv (fun e => ?_) (fun e => ?_)
        · exact wp_mono (ihx _ B ρ K (h.1 e) β a w (hs.facts (addF_ok e hs.fa))) (fun _ _ _ ⟨B2, ρ2, r, β2, k1, k2, k3, k4, k5⟩ => ⟨B2, ρ2, r, β2, k1, k2, k3, k4.of_facts, k5⟩)
        · exact wp_mono (ihy _ B ρ K (h.2 e) β a w (hs.facts (addF_ok e hs.fa))) (fun _ _ _ ⟨B2, ρ2, r, β2, k1, k2, k3, k4, k5⟩ => ⟨B2, ρ2, r, β2, k1, k2, k3, k4.of_facts, k5⟩)
    · exact h.elim
  | block i x ih =>
    intro S B ρ K h β a w hs
    simp only [evCode] at h
    refine wp_block (wp_mono (ih S B ρ _ (M.ok_bind h) β a w hs) ?_)
    rintro e a' w' ⟨B', ρ', ⟨ex, S'⟩, β', h1, h2, h3, h4, h5⟩
    subst h2
    cases ex with
    | norm => exact ⟨B', ρ', _, β', h1, rfl, h3, h4, h5⟩
    | exit j =>
      simp only [Ex.to, Exit.inBlock]
      simp only at h1
      split at h1
      · rename_i e
        rw [if_pos (Nat.eq_of_beq_eq_true e)]
        exact ⟨B', ρ', _, β', h1, rfl, h3, h4, h5⟩
      · rename_i e
        rw [if_neg (fun e' => e (by rw [e']; exact Nat.beq_refl _))]
        exact ⟨B', ρ', _, β', h1, rfl, h3, h4, h5⟩
    | ret => exact ⟨B', ρ', _, β', h1, rfl, h3, h4, h5⟩
  | loop x ih =>
    intro S B ρ K h β a w hs
    simp only [evCode] at h
    split at h
    · -- round after round
      rename_i k _
      refine wp_loop_ghost (fun n a' w' => ∃ S' B' ρ' β', (M.iter (evCode X L en.n x) n S').ok Φ J B' ρ' K ∧ Sim Φ ρ' en S' β' a' w' ∧ After ρ S β ρ' S' β' ∧ ∀ i, i < S.nv → B' i = B i) k ⟨S, B, ρ, β, h, hs, After.refl _ _ _, fun _ _ => rfl⟩ ?_
      rintro n a' w' ⟨S', B', ρ', β', g1, g2, g3, g3b⟩
      cases n with
      | zero => exact (show False from g1).elim
      | succ n =>
        simp only [M.iter] at g1
        refine wp_mono (ih S' B' ρ' _ (M.ok_bind g1) β' a' w' g2) ?_
        rintro e a'' w'' ⟨B'', ρ'', ⟨ex, S''⟩, β'', h1, h2, h3, h4, h5⟩
        subst h2
        have hB : ∀ i, i < S.nv → B'' i = B i := fun i hi => (h5 i (Nat.lt_of_lt_of_le hi g3.nv)).trans (g3b i hi)
        cases ex with
        | norm => exact ⟨n, Nat.lt_succ_self n, S'', B'', ρ'', β'', h1, h3, g3.trans h4, hB⟩
        | exit i => exact ⟨B'', ρ'', _, β'', h1, rfl, h3, g3.trans h4, hB⟩
        | ret => exact ⟨B'', ρ'', _, β'', h1, rfl, h3, g3.trans h4, hB⟩
    · -- by what holds at the head
      rename_i id hd _
      split at h
      case isFalse => exact h.elim
      rename_i hck
      simp only [Bool.and_eq_true] at hck
      generalize hH : ({ hd with tm := hd.tm ++ writes x } : Head) = H at h hck
      generalize hm : matchH H S.nv S.nb S = mm at h hck
      obtain ⟨hok, hstart⟩ := hck
      obtain ⟨hI, hbody⟩ := h
      have aft : ∀ (ds : List D) (β2 : Map), (∀ j, j < S.nb → β2 j = β j) → After ρ S β (upd ρ S.nv ds) (H.st S) β2 := by
        intro ds β2 hb
        exact ⟨fun i hi => upd_lo ds hi, Nat.le_add_right _ _, Nat.le_add_right _ _, hb, ⟨H.tm, rfl⟩, ⟨H.old ++ newE S.nb H.new, by simp only [Head.st, List.append_assoc]⟩⟩
      have hHn : hd.n = H.n := by rw [← hH]
      have hHf : hd.fa = H.fa := by rw [← hH]
      have hml : (mm.1.map (T.den Φ ρ)).length = hd.n := by
        simp only [okHead, Bool.and_eq_true] at hok
        rw [hHn, List.length_map, ← lenN_eq]; exact Nat.eq_of_beq_eq_true hok.1
      obtain ⟨β2, s1, s2, s3⟩ := head_start hstart hok (by rw [← hHf]; exact (hbody _ hml hI).1) hs
      refine wp_loop_ghost (fun n a' w' => ∃ ds β', ds.length = H.n ∧ J.I id ρ ds ∧ J.μ id ρ ds = n ∧ Sim Φ (upd ρ S.nv ds) en (H.st S) β' a' w' ∧ (∀ j, j < S.nb → β' j = β j)) _ ⟨_, β2, s3, hI, rfl, s1, s2⟩ ?_
      rintro n a' w' ⟨ds, β', g1, g2, g3, g4, g5⟩
      refine wp_mono (ih (H.st S) _ _ _ (M.ok_bind (hbody ds (g1.trans hHn.symm) g2).2) β' a' w' g4) ?_
      rintro e a'' w'' ⟨B'', ρ'', ⟨ex, S''⟩, β'', h1, h2, h3, h4, h5⟩
      subst h2
      have ha := (aft ds β' g5).trans h4
      have hn1 : 1 ≤ H.n := by
        simp only [okStart, Bool.and_eq_true] at hstart
        exact Nat.le_of_ble_eq_true hstart.1
      have hnv : (H.st S).nv = S.nv + H.n := rfl
      have hB : ∀ i, i < S.nv → B'' i = B i := fun i hi => by
        rw [h5 i (by omega)]
        funext ds'
        simp only [BK.at_, if_neg (show i ≠ S.nv from by omega)]
      cases ex with
      | norm =>
        simp only [backTo] at h1
        split at h1
        case isFalse => exact h1.elim
        rename_i hck'
        simp only [Bool.and_eq_true] at hck'
        have h1 : B'' S.nv (List.map (T.den Φ ρ'') (matchH H S.nv S.nb S'').1) := h1
        rw [h5 S.nv (by omega)] at h1
        simp only [BK.at_, if_true] at h1
        have hml' : ((matchH H S.nv S.nb S'').1.map (T.den Φ ρ'')).length = hd.n := by
          have := hck'.1
          simp only [okHead, Bool.and_eq_true] at this
          rw [hHn, List.length_map, ← lenN_eq]; exact Nat.eq_of_beq_eq_true this.1
        obtain ⟨β3, r1, r2, r3⟩ := head_round hstart hck'.1 (by rw [← hHf]; exact (hbody _ hml' h1.1).1) hck'.2 hs h3 h4 (fun i hi => upd_lo ds hi) g5
        exact ⟨_, by rw [← g3]; exact h1.2, _, β3, r3, h1.1, rfl, r1, r2⟩
      | exit i => exact ⟨B'', ρ'', _, β'', h1, rfl, h3, ha, hB⟩
      | ret => exact ⟨B'', ρ'', _, β'', h1, rfl, h3, ha, hB⟩
  | _ => intro S B ρ K h β a w hs; exact (show False from h).elim
end
end Go.Proofs.Ytlgiibchnnaceaa.Sx
