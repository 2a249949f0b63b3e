import Derived.Test.YtombphphaoeeiaaGreatDoorEn3
import Derived.Test.YtombphphaoeeiaaGreatDoorDrA
import Derived.Test.YtombphphaoeeiaaGreatDoorAbs
import Derived.Test.YtombphphaoeeiaaGreatDoorFpA
import Derived.Test.YtombphphaoeeiaaGreatDoorShA
/- A region that draws its order, with forks, and a tail that comes in order. No program in sight. -/
namespace Go.Proofs.YtombphphaoeeiaaGreatDoor
open Go.RowKit
set_option linter.unusedSimpArgs false
/-! ### A region that draws its order, with forks, and a tail that comes in order -/
section
variable {P : Program} {ops : Array Oper} {md : Region.Mode}
def plTB (md : Region.Mode) (ops : Array Oper) (n g : Nat) : Nat → Pl → Array Bool → Bool
  | 0, .nil, listed => Region.seqB md ops g n listed
  | f + 1, .rd i p, listed => decide (i < n) && (Region.ready md ops listed).contains i && Region.free md ops listed i && plTB md ops n g f p (listed.setIfInBounds i true)
  | f + 1, .wr i p, listed => decide (i < n) && decide (Region.ready md ops listed = [i]) && plTB md ops n g f p (listed.setIfInBounds i true)
  | f + 1, .fk i p j q, listed => decide (i < n) && decide (j < n) && decide (Region.ready md ops listed = [i, j]) && plTB md ops n g f p (listed.setIfInBounds i true) && plTB md ops n g f q (listed.setIfInBounds j true)
  | f + 1, .f3 i p j q k r, listed => decide (i < n) && decide (j < n) && decide (k < n) && decide (Region.ready md ops listed = [i, j, k]) && plTB md ops n g f p (listed.setIfInBounds i true) && plTB md ops n g f q (listed.setIfInBounds j true) && plTB md ops n g f r (listed.setIfInBounds k true)
  | _, _, _ => false
theorem wpAnyT_pl {n g : Nat} {Q : Act → World → Prop} (hsel : Region.noSelect ops = true) (hs : Region.sinkB md ops n = true) (hc : Region.chainB md ops n = true) (hn : n < ops.size) :
    ∀ (f : Nat) (p : Pl) (listed : Array Bool) (C : World → Prop) (a : Act) (w : World), C w → HeadInv md ops n listed →
    plTB md ops n g f p listed = true → wpPl P ops Q p C a w → wpAnyT P md ops n (fun listed' a' w' => Region.seqB md ops g n listed' = true ∧ Q a' w') f listed C a w
  | 0, .nil, _, _, _, _, _, _, hB, h => ⟨by simpa [plTB] using hB, h⟩
  | f + 1, .rd i p, listed, C, a, w, hC, inv, hB, h => by
    simp only [plTB, Bool.and_eq_true, decide_eq_true_eq] at hB
    obtain ⟨⟨⟨hin, hr⟩, hf⟩, hB'⟩ := hB
    have hr' : i ∈ Region.ready md ops listed := by simpa using hr
    obtain ⟨_, o, ho, _⟩ := mem_ready.1 hr'
    simp only [wpPl, ho] at h
    have hv : ∃ v, YieldsR P ops C o v a ∧ wpPl P ops Q p C (a.put o.dst v) w := by
      by_cases hw : Region.wanted o (yielded ops a.tmps) = true
      · simp only [hw, if_true] at h
        obtain ⟨v, h1, h2⟩ := h
        exact ⟨v, .inl ⟨hw, h1⟩, h2⟩
      · simp only [hw] at h
        exact ⟨undef, .inr ⟨by simpa using hw, rfl⟩, h⟩
    obtain ⟨v, hy, hK⟩ := hv
    exact wpAnyT_first ho (Region.noSelect_spec hsel) hs hc hn hin (fun listed' a' w' hL => seqB_ready hL.1) f listed C a w inv (Region.free_spec ho hf) hr' hC hy
      (wpAnyT_pl hsel hs hc hn f p _ C _ w hC (inv.set hr' hin) hB' hK)
  | f + 1, .wr i p, listed, C, a, w, hC, inv, hB, h => by
    simp only [plTB, Bool.and_eq_true, decide_eq_true_eq] at hB
    obtain ⟨⟨hin, hrd⟩, hB'⟩ := hB
    have hr' : i ∈ Region.ready md ops listed := by rw [hrd]; simp
    refine ⟨fun h0 => (by rw [hrd] at h0; cases h0), fun j hj => ?_⟩
    rw [hrd] at hj
    have hji : j = i := by simpa using hj
    subst hji
    exact ⟨hin, mOp_wr hC (fun C2 a' w' hC2 hw => wpAnyT_pl hsel hs hc hn f p _ C2 a' w' hC2 (inv.set hr' hin) hB' hw) h⟩
  | f + 1, .fk i p j q, listed, C, a, w, hC, inv, hB, h => by
    simp only [plTB, Bool.and_eq_true, decide_eq_true_eq] at hB
    obtain ⟨⟨⟨⟨h1, h2⟩, hrd⟩, hB1⟩, hB2⟩ := hB
    refine ⟨fun h0 => (by rw [hrd] at h0; cases h0), fun k hk => ?_⟩
    have hk' := hk
    rw [hrd] at hk
    simp only [List.mem_cons, List.not_mem_nil, or_false] at hk
    rcases hk with rfl | rfl
    · exact ⟨h1, mOp_wr hC (fun C2 a' w' hC2 hw => wpAnyT_pl hsel hs hc hn f p _ C2 a' w' hC2 (inv.set hk' h1) hB1 hw) h.1⟩
    · exact ⟨h2, mOp_wr hC (fun C2 a' w' hC2 hw => wpAnyT_pl hsel hs hc hn f q _ C2 a' w' hC2 (inv.set hk' h2) hB2 hw) h.2⟩
  | f + 1, .f3 i p j q k r, listed, C, a, w, hC, inv, hB, h => by
    simp only [plTB, Bool.and_eq_true, decide_eq_true_eq] at hB
    obtain ⟨⟨⟨⟨⟨⟨h1, h2⟩, h3⟩, hrd⟩, hB1⟩, hB2⟩, hB3⟩ := hB
    refine ⟨fun h0 => (by rw [hrd] at h0; cases h0), fun k hk => ?_⟩
    have hk' := hk
    rw [hrd] at hk
    simp only [List.mem_cons, List.not_mem_nil, or_false] at hk
    rcases hk with rfl | rfl | rfl
    · exact ⟨h1, mOp_wr hC (fun C2 a' w' hC2 hw => wpAnyT_pl hsel hs hc hn f p _ C2 a' w' hC2 (inv.set hk' h1) hB1 hw) h.1⟩
    · exact ⟨h2, mOp_wr hC (fun C2 a' w' hC2 hw => wpAnyT_pl hsel hs hc hn f q _ C2 a' w' hC2 (inv.set hk' h2) hB2 hw) h.2.1⟩
    · exact ⟨h3, mOp_wr hC (fun C2 a' w' hC2 hw => wpAnyT_pl hsel hs hc hn f r _ C2 a' w' hC2 (inv.set hk' h3) hB3 hw) h.2.2⟩
  | 0, .rd _ _, _, _, _, _, _, _, hB, _ => by simp [plTB] at hB
  | 0, .wr _ _, _, _, _, _, _, _, hB, _ => by simp [plTB] at hB
  | 0, .fk _ _ _ _, _, _, _, _, _, _, hB, _ => by simp [plTB] at hB
  | 0, .f3 _ _ _ _ _ _, _, _, _, _, _, _, hB, _ => by simp [plTB] at hB
  | _ + 1, .nil, _, _, _, _, _, _, hB, _ => by simp [plTB] at hB
def plTailB (md : Region.Mode) (ops : Array Oper) (n : Nat) (p : Pl) : Bool :=
  Region.noSelect ops && decide (n < ops.size) && Region.sinkB md ops n && Region.chainB md ops n && plTB md ops n (ops.size - n) n p (Array.replicate ops.size false)
theorem wp_region_plT {id : Nat} {Q : Exit → Act → World → Prop} {a : Act} {w : World} {l : List Oper} (n : Nat) (p : Pl) (hm : P.follows .mixedOrders = true) (hB : plTailB .any l.toArray n p = true) (C : World → Prop)
    (h : ∀ w2 : World, Hid (Drawn w w2) → C w2 ∧ wpPl P l.toArray (fun a' w' => wpList P l.toArray Q (l.drop n) a' w') p C a w2) : (Code.region id l.toArray true).wp P Q a w := by
  simp only [plTailB, Bool.and_eq_true, decide_eq_true_eq] at hB
  obtain ⟨⟨⟨⟨hsel, hn⟩, hs⟩, hc⟩, hmix⟩ := hB
  have hn' : n < l.length := by simpa using hn
  have hdl : (l.drop n).length = l.toArray.size - n := by simp
  have inv0 : HeadInv .any l.toArray n (Array.replicate l.toArray.size false) :=
    ⟨by simp, fun j oj _ hl => (by rw [getD_replicate_false] at hl; cases hl), fun t _ ht => getD_in (by simpa using ht) (getD_replicate_false _ _)⟩
  refine wp_region_any hm ?_
  obtain ⟨h1, h2⟩ := h { w with drawn := w.drawn + 1 } (Lib.hid ⟨1, rfl⟩)
  have H := wpAnyT_pl (md := .any) (g := l.toArray.size - n) hsel hs hc hn n p _ C a _ h1 inv0 hmix h2
  have := wpAny_of_T (Q' := Q) (g := l.toArray.size - n) (fun listed a' w' hL => by
    have := wpAny_of_seq (md := .any) (Q' := Q) (l.drop n) n listed a' w' (fun j => by simp [List.getElem?_drop]) (by rw [hdl]; exact hL.1) hL.2
    rwa [hdl] at this) _ _ _ _ _ H
  rw [show n + (l.toArray.size - n) = l.toArray.size by omega] at this
  exact this
theorem wpPl_mono {Q Q' : Act → World → Prop} (hq : ∀ a w, Q a w → Q' a w) : ∀ (p : Pl) (C : World → Prop) (a : Act) (w : World), wpPl P ops Q p C a w → wpPl P ops Q' p C a w := by
  intro p
  have wr : ∀ (i : Nat) (W W' : (World → Prop) → Act → World → Prop), (∀ C a w, W C a w → W' C a w) → ∀ C a w, wrStep P ops i W C a w → wrStep P ops i W' C a w := by
    intro i W W' hW C a w h
    unfold wrStep at h ⊢
    split
    · rename_i ho; simp only [ho] at h
    · rename_i o ho
      simp only [ho] at h
      split
      · rename_i hw; simp only [hw, if_true] at h; exact wp_mono2 (fun a w ⟨C2, h1, h2, h3⟩ => ⟨C2, h1, h2, hW _ _ _ h3⟩) h
      · rename_i hw; simp only [hw] at h; exact hW _ _ _ h
  induction p with
  | nil => exact fun C a w h => hq _ _ h
  | rd i p ih =>
    intro C a w h
    unfold wpPl at h ⊢
    split
    · rename_i ho; simp only [ho] at h
    · rename_i o ho
      simp only [ho] at h
      split
      · rename_i hw; simp only [hw, if_true] at h; obtain ⟨v, h1, h2⟩ := h; exact ⟨v, h1, ih _ _ _ h2⟩
      · rename_i hw; simp only [hw] at h; exact ih _ _ _ h
  | wr i p ih => exact fun C a w h => wr i _ _ ih C a w h
  | fk i p j q ih1 ih2 => exact fun C a w h => ⟨wr i _ _ ih1 C a w h.1, wr j _ _ ih2 C a w h.2⟩
  | f3 i p j q k r ih1 ih2 ih3 => exact fun C a w h => ⟨wr i _ _ ih1 C a w h.1, wr j _ _ ih2 C a w h.2.1, wr k _ _ ih3 C a w h.2.2⟩
end
/-- Forks that turn resources (readers see the first m but for G), and a tail that comes in order. -/
theorem drawVT_rule {P : Program} {w0 : World} {ow : Nat → Prop} {n id : Nat} {ops : List Oper} {s : S} {K : Exit → S → Prop} (m : Nat) (G : List Nat) (k : Nat) (p : Pl) (s1 : S) (hm : P.follows .mixedOrders = true) (hB : plTailB .any ops.toArray k p = true)
    (hml : m ≤ s.hp.length) (h : symQ P w0 ow n m G ops (fun s' => Leads w0 ow n s' s1) p s) (hk : symR P w0 ow n ops (ops.drop k) s1 (K .normal)) : DrawG P w0 ow n id ops s K := by
  rintro a w ⟨γ, hf⟩
  refine wp_region_plT k p hm hB (fun x => Sat w0 ow γ (visR m G s.hp) x) fun w2 hd => ?_
  have hf2 := Fits.drawn hf hd.out
  refine ⟨hf2.sat.vis hml, wpPl_mono (fun a' w' hq => ?_) _ _ _ _ (symQ_sound p s γ a w2 h hf2 hml)⟩
  obtain ⟨s', h1, h2⟩ := hq
  refine wpList_mono (fun e a'' w'' hq => ?_) _ _ _ (symR_sound _ s1 a' w' hk (h2 _ _ h1))
  obtain ⟨rfl, s'', h3, h4⟩ := hq
  exact ⟨s'', h3, h4⟩
end Go.Proofs.YtombphphaoeeiaaGreatDoor
/- A nil slice of structs in a variable, told as one of the call's own. No program in sight. -/
namespace Go.Proofs.YtombphphaoeeiaaGreatDoor
open Go.RowKit
set_option linter.unusedSimpArgs false
set_option linter.unusedVariables false
end Go.Proofs.YtombphphaoeeiaaGreatDoor
/- Calls whose result is one of several; slices that become facts. No program in sight. -/
namespace Go.Proofs.YtombphphaoeeiaaGreatDoor
open Go.RowKit
set_option linter.unusedSimpArgs false
set_option linter.unusedVariables false
set_option linter.unusedSectionVars false
theorem fct_onn {w0 w : World} {ow : Nat → Prop} {γ : List Nm} {hp : List Res} {j m : Nat} {e : TypeId} {c : Cont} {vs : List Value} {n : Nat} (hS : Sat w0 ow γ hp w) (hj : hp[j]? = some (.onn e m c)) (hv : c.vals γ = vs) (hn : vs.length = n * m) :
    ∃ A cap, nmS γ j = .slice A n cap ∧ n ≤ cap ∧ Fct.ok ⟨.slice A n cap, n, vs⟩ (fun b => (nmS γ j).ownBlock = some b) w := by
  have h := (hS.holds j _ hj).2
  rw [hv] at h
  have hm := h.1
  obtain ⟨A, n', cap, h1, h2, h3, h4, h5, h6, h7⟩ := h.rd
  have : n' = n := Nat.eq_of_mul_eq_mul_right hm (by rw [← h2, hn])
  subst this
  refine ⟨A, cap, h1, h3, A, cap, rfl, h3, h4, fun hp => ?_⟩
  obtain ⟨b, off, rfl, _, h8⟩ := h5 hp
  exact ⟨b, off, rfl, (h6 _ rfl).2.2, h8⟩
section
variable {P : Program} {w0 : World} {ow : Nat → Prop} {n : Nat}
end
theorem calls_ex {ι : Type} (Q : ι → Prop) (sv1 : ι → Sv) (hp1 : ι → List Res) {P : Program} {w : World} {ow : Nat → Prop} {n : Nat} {γ : List Nm} {hp : List Res} {f : FuncId} {fn : Func} {c : Code} (hf : P.funcs[f]? = some fn) (hb : fn.body = some c) (hn : fn.ntmps = n) (svs : List Sv) (hS : Sat w ow γ hp w) (hl : svs.length ≤ n)
    (h : symC P w ow n c ⟨argFr 0 svs, hp⟩ (Fin P w ow fn.results.toList (fun sv hp' => ∃ i, Q i ∧ EndsAs (sv1 i) (hp1 i) sv hp'))) : Calls P f (svs.map (Sv.val γ)).toArray w fun e w' => ∃ i γ1, Q i ∧ e = .returned ((sv1 i).val γ1) ∧ Sat w ow γ1 (hp1 i) w' := by
  refine calls_sym hf hb hn svs hS hl _ (fun γ' sv hp' w' hS' ⟨i, hi, ρ, h1, h2, h3, h4⟩ => ?_) h
  obtain ⟨hS2, hρ⟩ := hS'.sel h2 h3 h4.2
  refine ⟨i, reγ ρ γ', hi, ?_, hS2⟩
  have e : sv = (sv1 i).ren ρ := by
    have := h1.1
    simp only [Fr.get, if_true, Option.some.injEq] at this
    exact this
  have hlen : ρ.length = (hp1 i).length := (leHp_get h2).1
  rw [Sv.re hρ (by rw [hlen]; exact h4.1 (0, sv1 i) (List.mem_cons_self ..)), ← e]
section
variable {P : Program} {w0 : World} {ow : Nat → Prop} {n : Nat} {s : S} {e : TypeId} {c : Cont} {vs : List Value} {l : List Fct}
theorem fits_absorbN {a : Act} {w : World} {j k m n' : Nat} (hj : s.hp[j]? = some (.onn e m c)) (hv : ∀ γ, c.vals γ = vs) (hn : vs.length = n' * m) (hk : s.hp[k]? = some (.abs (fctRep l))) (hjk : j ≠ k) (hf : Fits w0 ow n s a w) :
    ∃ A cap, Fits w0 ow n (absS j k (.slice A n' cap) (l ++ [⟨.slice A n' cap, n', vs⟩]) s) a w := by
  obtain ⟨γ, hf⟩ := hf
  obtain ⟨A, cap, h1, _, h4⟩ := fct_onn hf.sat hj (hv γ) hn
  have hT := hf.sat.sub h1
  obtain ⟨γ', eB, eS, hS'⟩ := hT.absorb (j := j) (r := .onn e m (c.sub j _)) (by rw [List.getElem?_map, hj]; rfl) (fun b => rfl) (by rw [List.getElem?_map, hk]; rfl) hjk h4
  refine ⟨A, cap, γ', hS', hf.defers, hf.size, fun t sv ht => ?_⟩
  obtain ⟨x, hx, rfl⟩ := subFr_get ht
  rw [sv_same eB eS, Sv.sub_val h1]
  exact hf.at_ t x hx
theorem loop_absorbN {b : Code} {m : Nat} {K : Exit → S → Prop} (j k n' : Nat) (hj : s.hp[j]? = some (.onn e m c)) (hv : ∀ γ, c.vals γ = vs) (hn : vs.length = n' * m) (hk : s.hp[k]? = some (.abs (fctRep l))) (hjk : j ≠ k)
    (h : ∀ A cap, LoopG P w0 ow n b (absS j k (.slice A n' cap) (l ++ [⟨.slice A n' cap, n', vs⟩]) s) K) : LoopG P w0 ow n b s K := fun a w hf => by
  obtain ⟨A, cap, h3⟩ := fits_absorbN hj hv hn hk hjk hf
  exact h A cap a w h3
end
end Go.Proofs.YtombphphaoeeiaaGreatDoor
/- fp.Add, fp.Sub, poly.Eval, and the document's (caucusref01, caucusref03): a curve's value at a place. -/
namespace Go.Proofs.YtombphphaoeeiaaGreatDoor
open Go.RowKit
set_option linter.unusedSimpArgs false
def addU (a b : UInt64) : UInt64 := (a % fpP + b % fpP) % fpP
def subU (a b : UInt64) : UInt64 := (a % fpP + fpP - b % fpP) % fpP
theorem subU_eq (a b : UInt64) : subU a b = (a % fpP + (fpP - b % fpP)) % fpP := by
  have h : ∀ x p y : UInt64, x + p - y = x + (p - y) := fun x p y => by rw [UInt64.sub_eq_add_neg, UInt64.sub_eq_add_neg, UInt64.add_assoc]
  unfold subU
  rw [h]
theorem modP_toNat (a : UInt64) : (a % fpP).toNat = a.toNat % 2305843009213693951 := by rw [UInt64.toNat_mod]; rfl
theorem subU_toNat (a b : UInt64) : (subU a b).toNat = (a.toNat % 2305843009213693951 + (2305843009213693951 - b.toNat % 2305843009213693951)) % 2305843009213693951 := by
  rw [subU_eq, modP_toNat, UInt64.toNat_add, modP_toNat, UInt64.toNat_sub, modP_toNat]
  have : fpP.toNat = 2305843009213693951 := rfl
  omega
def polyN (c : List UInt64) (x : Nat) : Nat := c.foldr (fun a r => a.toNat + x * r) 0
def polyU (c : List UInt64) (x : UInt64) : UInt64 := UInt64.ofNat (polyN c x.toNat % 2305843009213693951)
def pwX (x : UInt64) (k : Nat) : UInt64 := UInt64.ofNat (x.toNat ^ k % 2305843009213693951)
section
variable {w0 : World} {ow : Nat → Prop} {hp : List Res}
set_option maxRecDepth 100000 in
theorem fpAdd_any (a b : UInt64) (w : World) : Calls Tryz.prog 65 #[vU64 a, vU64 b] w fun e w' => e = .returned (vU64 (addU a b)) ∧ Below w.heap.size w w' := by
  refine calls_v (n := 11) Tryz.func65 rfl Tryz.ntmps65 [.x (.a (.v (vU64 a))), .x (.a (.v (vU64 b)))] (by simp) (.x (.a (.v (vU64 (addU a b))))) (fun _ => rfl) ?_
  simp only [push_cast, ↓reduceIte, reduceCtorEq, Nat.reduceLT]
  (repeat (refine And.intro (by first | omega | decide) ?_))
  refine callG_v rfl cb63 rfl (fpOfK _) (dOk_lt rfl) ?_
  simp only [push_cast, ↓reduceIte, reduceCtorEq, Nat.reduceEqDiff, Nat.reduceLT]
  (repeat (refine And.intro (by first | omega | decide) ?_))
  refine callG_v rfl cb63 rfl (fpOfK _) (dOk_lt rfl) ?_
  simp only [push_cast, ↓reduceIte, Nat.reduceEqDiff, Nat.reduceLT]
  (repeat (refine And.intro (by first | omega | decide) ?_))
  refine callG_v rfl cb63 rfl (fpOfK _) (dOk_lt rfl) ?_
  simp only [push_cast, ↓reduceIte, Nat.reduceLT]
  (repeat (refine And.intro (by first | omega | decide) ?_))
  rfl
set_option maxRecDepth 100000 in
theorem fpSub_any (a b : UInt64) (w : World) : Calls Tryz.prog 75 #[vU64 a, vU64 b] w fun e w' => e = .returned (vU64 (subU a b)) ∧ Below w.heap.size w w' := by
  refine calls_v (n := 12) Tryz.func75 rfl Tryz.ntmps75 [.x (.a (.v (vU64 a))), .x (.a (.v (vU64 b)))] (by simp) (.x (.a (.v (vU64 (subU a b))))) (fun _ => rfl) ?_
  simp only [push_cast, ↓reduceIte, reduceCtorEq, Nat.reduceLT]
  (repeat (refine And.intro (by first | omega | decide) ?_))
  refine callG_v rfl cb63 rfl (fpOfK _) (dOk_lt rfl) ?_
  simp only [push_cast, ↓reduceIte, reduceCtorEq, Nat.reduceEqDiff, Nat.reduceLT]
  (repeat (refine And.intro (by first | omega | decide) ?_))
  refine callG_v rfl cb63 rfl (fpOfK _) (dOk_lt rfl) ?_
  simp only [push_cast, ↓reduceIte, Nat.reduceEqDiff, Nat.reduceLT]
  (repeat (refine And.intro (by first | omega | decide) ?_))
  refine callG_v rfl cb63 rfl (fpOfK _) (dOk_lt rfl) ?_
  simp only [push_cast, ↓reduceIte, Nat.reduceLT]
  (repeat (refine And.intro (by first | omega | decide) ?_))
  rfl
theorem fpAddK (a b : UInt64) : CallOK Tryz.prog w0 ow 65 [.x (.a (.v (vU64 a))), .x (.a (.v (vU64 b)))] hp (.x (.a (.v (vU64 (addU a b))))) hp := callOK_v fun _ w _ => fpAdd_any a b w
theorem fpSubK (a b : UInt64) : CallOK Tryz.prog w0 ow 75 [.x (.a (.v (vU64 a))), .x (.a (.v (vU64 b)))] hp (.x (.a (.v (vU64 (subU a b))))) hp := callOK_v fun _ w _ => fpSub_any a b w
end
attribute [local irreducible] addU subU polyU pwX fpMul
end Go.Proofs.YtombphphaoeeiaaGreatDoor
