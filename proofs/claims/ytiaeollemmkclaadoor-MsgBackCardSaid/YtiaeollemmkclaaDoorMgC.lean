import Derived.Test.YtiaeollemmkclaaDoorGhN
/- Layer 16: msg.Decode. -/
namespace Go.Proofs.YtiaeollemmkclaaDoor
open Go.RowKit
set_option linter.unusedSimpArgs false
set_option linter.unusedVariables false
/-- What Decode hands back. -/
def outSv : Option MgS → Sv
  | none => .t [.g (mgA zeroR), .a (.v (.iface 137 (.int .i64 3)))]
  | some m => .t [.g (mgO m 0 1 2 3), .a (.v .nilIface)]
def outHp : Option MgS → List Res
  | none => []
  | some m => [.own 3 (.i64 m.ids), .own 27 (.u64 m.ns), .onn 160 2 (.c (pcs m.ps)), .own 136 (.u32 m.xs)]
theorem zeroM_in (y : UInt8) : ({ zeroM with k := y } : MgS).In 0 := ⟨rfl, Nat.zero_le _, Nat.zero_le _, Nat.zero_le _, Nat.zero_le _⟩
theorem decGo_cons (c : UInt8) (f : List UInt8) (m : MgS) (st : Rs) : decGo (c :: f) m st = match stepM c st m with
  | none => none
  | some (m', st') => decGo f m' st' := rfl
theorem decGo_nil (m : MgS) (st : Rs) : decGo [] m st = some (m, st) := rfl
theorem stepS_from {c : UInt8} {s : RS} {m : MgS} {A : Option Addr} {vs : List Value} (h : s.From A vs) : (stepS c s m).2.From A vs := fun X w hf => stepS_ok (h X w hf)
theorem pubQ_from {s : RS} {A : Option Addr} {vs : List Value} (h : s.From A vs) : (pubQ s).2.From A vs := fun X w hf => by
  unfold pubQ idsQ
  exact numsOfS_ok (numsOfS_ok (h X w hf))
theorem mgA_sub (m : MgR) (j : Nat) (v : Value) : (mgA m).map (At.sub j v) = mgA m := by
  unfold mgA mgL
  rw [List.map_append, List.map_append, List.map_map]
  rfl
theorem bnd_set {l : List At} {i j n : Nat} (h : ∀ x ∈ l, x.bnd n) (hj : j < n) : ∀ x ∈ l.set i (.o j), x.bnd n := fun x hx => by
  rcases List.mem_or_eq_of_mem_set hx with h1 | rfl
  · exact h x h1
  · exact hj
theorem zeroM_ids : zeroM.ids = [] := rfl
theorem zeroM_ns : zeroM.ns = [] := rfl
theorem zeroM_ps : zeroM.ps = [] := rfl
theorem zeroM_xs : zeroM.xs = [] := rfl
theorem endD_none : endD none = none := rfl
theorem endD_some (m : MgS) (st : Rs) : endD (some (m, st)) = if st = ([], false) ∧ chkM m = true then some m else none := rfl
theorem endD_at (m : MgS) (s : RS) : endD (some (m, s.rs)) = if (s.bad = false ∧ s.l = []) ∧ chkM m = true then some m else none := by
  rw [endD_some]
  have e : (s.rs = ([], false)) ↔ (s.bad = false ∧ s.l = []) := ⟨fun h => ⟨congrArg Prod.snd h, congrArg Prod.fst h⟩, fun h => by show (s.l, s.bad) = _; rw [h.1, h.2]⟩
  by_cases h : s.bad = false ∧ s.l = []
  · by_cases hc : chkM m = true
    · rw [if_pos ⟨e.2 h, hc⟩, if_pos ⟨h, hc⟩]
    · rw [if_neg (fun x => hc x.2), if_neg (fun x => hc x.2)]
  · rw [if_neg (fun x => h (e.1 x.1)), if_neg (fun x => h x.1)]
theorem doneF {w0 : World} {hp : List Res} {k0 kf n cp : Nat} {s : RS} {A : Option Addr} {vs : List Value} {l : List Fct} (h : s.From A vs) (hk : bview hp[k0]? = some (132, .c [.v (.slice s.A s.l.length s.c), .v (.bool s.bad)])) (hkf : hp[kf]? = some (.abs (fctRep l))) (hf : ⟨.slice A n cp, n, vs⟩ ∈ l) :
    CallOK Tryd.prog w0 No 17 [.x (.a (.p k0 0))] hp (.x (.a (.v (if s.bad = false ∧ s.l = [] then .nilIface else .iface 137 (.int .i64 3))))) hp := fun γ w hS =>
  doneK (h No w (fct_fw hS hkf hf (Sub.refl A vs) [] (by simp) fun b h => h.elim)).max hk γ w hS
theorem read16_all {X : Nat → Prop} {w : World} {s : RS} {m : MgS} {p : Nat} {c : UInt8} (hs : s.Ok X w) (hm : m.In p) (hc : c ∈ lettersAll) (h : ¬ c = 112) : RdM c s (stepS c s m).2 m (stepS c s m).1 true X w := by
  simp only [lettersAll, List.mem_cons, List.not_mem_nil, or_false] at hc
  rcases hc with rfl | rfl | rfl | rfl | rfl | rfl | rfl | rfl | rfl | rfl | rfl
  · exact read16_pl hs hm
  · exact read16_ot hs hm
  · exact read16_cl hs hm
  · exact read16_ge hs hm
  · exact read16_nu hs hm
  · exact read16_sm hs hm
  · exact read16_ids hs hm
  · exact read16_ns hs hm
  · exact absurd rfl h
  · exact read16_xs hs hm
  · exact read16_re hs hm
/-- Reading a field: what there is then, and whether it is well. -/
def stepT (c : UInt8) (s : RS) (m : MgS) : Bool × MgS × RS := if c = 112 ∧ ¬ (idsQ s).1.length = (pubQ s).1.length then (false, m, (pubQ s).2) else (true, (stepS c s m).1, (stepS c s m).2)
theorem read16_t {X : Nat → Prop} {w : World} {s : RS} {m : MgS} {p : Nat} {c : UInt8} (hs : s.Ok X w) (hm : m.In p) (hp : p ≤ 1000) (hc : c ∈ lettersAll) : RdM c s (stepT c s m).2.2 m (stepT c s m).2.1 (stepT c s m).1 X w := by
  unfold stepT
  by_cases h : c = 112
  · subst h
    have := read16_ps hs hm hp
    by_cases hl : (idsQ s).1.length = (pubQ s).1.length
    · rw [if_neg (fun e => e.2 hl)]
      rw [if_pos hl, decide_eq_true hl] at this
      rw [stepS_ps]
      exact this
    · rw [if_pos ⟨rfl, hl⟩]
      rw [if_neg hl, decide_eq_false hl] at this
      exact this
  · rw [if_neg (fun e => h e.1)]
    exact read16_all hs hm hc h
theorem stepT_from {c : UInt8} {s : RS} {m : MgS} {A : Option Addr} {vs : List Value} (h : s.From A vs) : (stepT c s m).2.2.From A vs := by
  unfold stepT
  split
  · exact pubQ_from h
  · exact stepS_from h
theorem stepT_in {c : UInt8} {s : RS} {m : MgS} {p : Nat} (h : m.In p) : (stepT c s m).2.1.In (p + 64) := by
  unfold stepT
  split
  · exact ⟨h.sm, h.ids, h.ns, by have := h.ps; show m.ps.length ≤ p + 64; omega, h.xs⟩
  · exact stepS_in h
theorem decGo_t (c : UInt8) (f : List UInt8) (m : MgS) (s : RS) : decGo (c :: f) m s.rs = if (stepT c s m).1 = true then decGo f (stepT c s m).2.1 (stepT c s m).2.2.rs else none := by
  rw [decGo_cons, stepS_rs]
  unfold stepT
  by_cases h : c = 112 ∧ ¬ (idsQ s).1.length = (pubQ s).1.length
  · rw [if_pos h, if_pos h, if_neg (show ¬ (false = true) from Bool.false_ne_true)]
  · rw [if_neg h, if_neg h, if_pos rfl]
attribute [local irreducible] Callable CallOK CallG CallM DrawG LoopG symR symM
attribute [local irreducible] mgO mgA wiM chkS may chI okV mayErr intsU numS numsOfS rowOfS sumOfS idsQ pubQ zipQ formS chkM stepT decGo
section
set_option maxRecDepth 100000 in
set_option maxHeartbeats 4000000 in
theorem decode_any (l : List UInt8) (A : Option Addr) (cp : Nat) (w : World) (hl : l.length ≤ 10000000) (hcp : l.length ≤ cp) (hR : RdV w w.heap.size A (l.map vU8)) :
    Calls Tryd.prog 41 (List.map (Sv.val []) [.x (.a (.v (.slice A l.length cp)))]).toArray w fun e w' => ∃ γ1, e = .returned ((outSv (decM l)).val γ1) ∧ Sat w No γ1 (outHp (decM l)) w' := by
  have ob := fun (m : MgS) a b c d n => mgO_bnd m a b c d n
  have zb := fun (m : MgR) n => mgA_bnd m n
  simp only [At.bnd] at ob zb
  obtain ⟨D, hD⟩ : ∃ D, D = decM l := ⟨_, rfl⟩
  rw [← hD]
  refine calls_fun (n := 38) Tryd.func41 rfl Tryd.ntmps41 _ (Sat.init w No) (by simp) (outSv D) (outHp D) ?_
  simp (config := { maxSteps := 1000000 }) only [zeroArr, zokMg2, mgA_zero, push_cast, ↓reduceIte, reduceCtorEq, Nat.reduceLT]
  (repeat (refine And.intro (by first | omega | decide) ?_))
  refine callG_rule rfl cb20 rfl (readNewK l hl (by simp (config := { maxSteps := 1000000 }) only [zb, push_cast]) (shows_raw hR _ _ (by simp) hcp)) (dOk_lt rfl) (fun _ => by simp (config := { maxSteps := 1000000 }) only [zb, push_cast, Nat.reduceLT]) ?_
  simp (config := { maxSteps := 1000000 }) only [zb, zeroArr, zokMg2, mgA_zero, push_cast, ↓reduceIte, Nat.reduceEqDiff, Nat.reduceLT, Nat.reduceAdd]
  (repeat (refine And.intro (by first | omega | decide) ?_))
  refine callG_fct (by simp (config := { maxSteps := 1000000 }) only [zb, push_cast, Nat.reduceLT, Nat.reduceAdd]) ?_
  refine callG_absorb 2 4 (vs := l.map vU8) rfl (fun _ => rfl) rfl (by decide) fun A1 c1 hc1 hm1 => ?_
  rw [List.length_map] at hc1
  obtain ⟨Fs, hFs⟩ : ∃ Fs : List Fct, Fs = [⟨.slice A1 l.length c1, l.length, l.map vU8⟩] := ⟨_, rfl⟩
  have m1 : (⟨.slice A1 l.length c1, l.length, l.map vU8⟩ : Fct) ∈ Fs := by rw [hFs]; exact List.mem_cons_self ..
  obtain ⟨s0, hs0⟩ : ∃ s0 : RS, s0 = ⟨A1, c1, l, false⟩ := ⟨_, rfl⟩
  have hfr : s0.From A1 (l.map vU8) := by rw [hs0]; exact RS.From.start hc1 hl
  simp (config := { maxSteps := 1000000 }) only [mgA_sub, List.nil_append, List.length_map, push_cast, ↓reduceIte]
  refine callG_le [0, 1, 3, 4] (s' := ⟨[(10, .x (.a (.p 1 0))), (5, .x (.a (.p 2 0))), (4, .x (.a (.p 1 0))), (3, .x (.a (.v .nilIface))), (2, .x (.a (.p 0 0)))], [.blk 89 (.c (mgA zeroR)), .blk 132 (.c [.v (.slice s0.A s0.l.length s0.c), .v (.bool s0.bad)]), .blk 89 (.c (mgA zeroR)), .abs (fctRep Fs)]⟩) (by rw [hFs, hs0]; simp (config := { maxSteps := 1000000 }) only [zb, ↓mgA_cren, push_cast, ↓reduceIte, reduceCtorEq, Nat.reduceEqDiff, Nat.reduceLT, Nat.reduceAdd]) ?_
  obtain ⟨q, hq⟩ : ∃ q, q = numS 255 s0 := ⟨_, rfl⟩
  have hqr := numS_rs 255 s0
  rw [← hq, show s0.rs = (l, false) by rw [hs0]; rfl] at hqr
  have hRn : ∀ X w, s0.Ok X w → RdG 11 [.x (.a (.v (.int .u64 255)))] (.x (.a (.v (vU64 q.1)))) s0 q.2.2 [] X w := fun X w h => by rw [hq]; exact rnum_any 255 h
  have hfq : q.2.2.From A1 (l.map vU8) := by rw [hq]; exact hfr.num 255
  refine callG_rule rfl cb11 rfl (rmethK (k0 := 1) (s := s0) (args := [.x (.a (.v (.int .u64 255)))]) (by simp (config := { maxSteps := 1000000 }) only [zb, push_cast, Nat.reduceAdd]) rfl (by simp only [push_cast]) (by simp only [push_cast]) (fun _ _ => rfl) (hfr.far (k := 3) rfl m1 (by decide)) hRn) (dOk_lt rfl) (fun _ => by simp (config := { maxSteps := 1000000 }) only [zb, push_cast, Nat.reduceLT, Nat.reduceAdd]) ?_
  obtain ⟨k, hk⟩ : ∃ k, k = q.1.toUInt8 := ⟨_, rfl⟩
  have h8 := hk.symm
  have zs := zeroR_set k
  obtain ⟨z0, _⟩ := mgA_get (m := { zeroR with k := k }) rfl
  obtain ⟨a1, a2, a3, a4⟩ := ghost_at k
  have gm := ghost_mg k
  obtain ⟨mz, hmz⟩ : ∃ mz : MgR, mz = { zeroR with k := k } := ⟨_, rfl⟩
  have mzl : (mgA mz).length = 43 := by rw [hmz]; exact mgA_len rfl
  have mzk : mz.k = k := by rw [hmz]
  rw [← hmz] at zs z0 a1 a2 a3 a4 gm
  simp (config := { maxSteps := 1000000 }) only [↓mgA_cren, zeroR_len, h8, zs, z0, mzl, mzk, undef, push_cast, ↓reduceIte, reduceCtorEq, Nat.reduceEqDiff, Nat.reduceLT, Nat.reduceAdd]
  (repeat (refine And.intro (by first | omega | decide) ?_))
  refine callG_v rfl cb48 rfl (formK16 k) (dOk_lt rfl) ?_
  simp (config := { maxSteps := 1000000 }) only [zb, push_cast, ↓reduceIte, Nat.reduceLT, Nat.reduceAdd]
  (repeat (refine And.intro (by first | omega | decide) ?_))
  refine loop_ghostC 2 38 89 3 _ (.i64 []) rfl a1 rfl trivial (by simp (config := { maxSteps := 1000000 }) only [zb, push_cast, Nat.reduceLT, Nat.reduceAdd]) ?_
  simp (config := { maxSteps := 1000000 }) only [push_cast, Nat.reduceAdd]
  refine loop_ghostC 2 39 89 27 _ (.u64 []) rfl (by rw [List.getElem?_set_ne (by decide)]; exact a2) rfl trivial (by
    simp (config := { maxSteps := 1000000 }) only [zb, push_cast, Nat.reduceLT, Nat.reduceAdd]
    exact bnd_set (of_eq_true (mgA_bnd mz _)) (by decide)) ?_
  simp (config := { maxSteps := 1000000 }) only [push_cast, Nat.reduceAdd]
  refine loop_ghostCN 2 40 89 160 2 _ (.c (pcs [])) (by decide) rfl (by rw [List.getElem?_set_ne (by decide), List.getElem?_set_ne (by decide)]; exact a3) (by rw [pcs_nil]; rfl) (by
    simp (config := { maxSteps := 1000000 }) only [zb, push_cast, Nat.reduceLT, Nat.reduceAdd]
    exact bnd_set (bnd_set (of_eq_true (mgA_bnd mz _)) (by decide)) (by decide)) ?_
  simp (config := { maxSteps := 1000000 }) only [push_cast, Nat.reduceAdd]
  refine loop_ghostC 2 41 89 136 _ (.u32 []) rfl (by rw [List.getElem?_set_ne (by decide), List.getElem?_set_ne (by decide), List.getElem?_set_ne (by decide)]; exact a4) rfl trivial (by
    simp (config := { maxSteps := 1000000 }) only [zb, pcs_forall, push_cast, Nat.reduceLT, Nat.reduceAdd]
    exact bnd_set (bnd_set (bnd_set (of_eq_true (mgA_bnd mz _)) (by decide)) (by decide)) (by decide)) ?_
  simp (config := { maxSteps := 1000000 }) only [gm, push_cast, Nat.reduceAdd]
  unfold decM at hD
  rw [← hqr] at hD
  simp only [h8] at hD
  have fle := form_len k
  refine loop_rule (ι := Nat × RS × MgS) (fun x => ⟨[(2, .x (.a (.p 0 0))), (4, .x (.a (.p 1 0))), (5, .x (.a (.p 2 0))), (17, .x (.a (.p 8 0)))], [.blk 89 (.c (mgA zeroR)), .blk 132 (.c [.v (.slice x.2.1.A x.2.1.l.length x.2.1.c), .v (.bool x.2.1.bad)]), .blk 89 (.c (mgO x.2.2 3 4 5 6)), .own 3 (.i64 x.2.2.ids), .own 27 (.u64 x.2.2.ns), .onn 160 2 (.c (pcs x.2.2.ps)), .own 136 (.u32 x.2.2.xs), .abs (fctRep Fs), .it (formS k) x.1]⟩)
    (fun x => x.1 ≤ (formS k).size ∧ x.2.1.From A1 (l.map vU8) ∧ x.2.2.In (64 * x.1) ∧ D = endD (decGo ((formL k).drop x.1) x.2.2 x.2.1.rs)) (fun x => (formS k).size - x.1) (0, q.2.2, { zeroM with k := k }) [0, 1, 2, 6, 7, 8, 9, 3, 5] ⟨Nat.zero_le _, hfq, zeroM_in k, hD⟩ ?_ ?_
  · simp (config := { maxSteps := 1000000 }) only [ob, zb, pcs_ren, pcs_forall, ↓mgO_cren, ↓mgA_cren, zeroM_ids, zeroM_ns, zeroM_ps, zeroM_xs, push_cast, ↓reduceIte, reduceCtorEq, Nat.reduceEqDiff, Nat.reduceLT, Nat.reduceAdd]
  clear hD gm zs z0 a1 a2 a3 a4 mzl mzk hmz hfq hqr hRn hq h8 hk
  rintro ⟨i, s, m⟩ ⟨hi, hfs, hin, hg⟩
  dsimp only at hi hfs hin hg
  have hsz := form_size k
  have hi6 : 64 * i ≤ 1000 := by omega
  by_cases hlt : i < (formS k).size
  · have hd := form_dec hlt
    have hil : i < (formL k).length := by omega
    have hmem : ix (formL k) i ∈ lettersAll := form_letter (k := k) (by
      rw [ix, List.getD_eq_getElem?_getD, List.getElem?_eq_getElem hil]
      exact List.getElem_mem hil)
    rw [form_drop hlt, decGo_t] at hg
    generalize ix (formL k) i = c at *
    have hcc : ((c.toNat : Nat) : Int) = chI c := by unfold chI; rfl
    have hRd : ∀ X w, s.Ok X w → RdM c s (stepT c s m).2.2 m (stepT c s m).2.1 (stepT c s m).1 X w := fun X w h => read16_t h hin hi6 hmem
    have hft : (stepT c s m).2.2.From A1 (l.map vU8) := stepT_from hfs
    have hit : (stepT c s m).2.1.In (64 * i + 64) := stepT_in hin
    obtain ⟨r, hr⟩ : ∃ r, r = stepT c s m := ⟨_, rfl⟩
    rw [← hr] at hRd hft hit hg
    clear hr
    obtain ⟨b, m', t⟩ := r
    dsimp only at hRd hft hit hg
    simp (config := { maxSteps := 1000000 }) only [hlt, hd, hcc, push_cast, ↓reduceIte, Nat.reduceEqDiff, Nat.reduceLT, Nat.reduceAdd]
    (repeat (refine And.intro (by first | omega | decide) ?_))
    refine callG_rule rfl cb93 rfl (readD (i := i + 1) hfs m1 hRd) (dOk_lt rfl) (fun _ => by simp (config := { maxSteps := 1000000 }) only [ob, zb, pcs_forall, push_cast, Nat.reduceLT, Nat.reduceAdd]) ?_
    cases b with
    | false =>
      rw [if_neg (show ¬ (false = true) from Bool.false_ne_true), endD_none] at hg
      simp (config := { maxSteps := 1000000 }) only [mgO_ren, pcs_ren, ↓mgO_cren, ↓mgA_cren, zeroArr, zokMg2, mgA_zero, zeroR_len, hg, outSv, outHp, undef, push_cast, ↓reduceIte, reduceCtorEq, Nat.reduceEqDiff, Nat.reduceLT, Nat.reduceAdd]
      refine ⟨of_eq_true (mgA_one _ _), endsAs [] ?_⟩
      simp (config := { maxSteps := 1000000 }) only [zb, ↓mgA_sren, push_cast, ↓reduceIte]
      done
    | true =>
      rw [if_pos rfl] at hg
      simp (config := { maxSteps := 1000000 }) only [mgO_ren, pcs_ren, ↓mgO_cren, ↓mgA_cren, push_cast, ↓reduceIte, Nat.reduceEqDiff, Nat.reduceLT, Nat.reduceAdd]
      (repeat (refine And.intro (by first | omega | decide) ?_))
      refine loopK_normal (i + 1, t, m') [0, 1, 2, 11, 12, 13, 14, 7, 8] ⟨by show i + 1 ≤ _; omega, hft, hit, hg⟩ (by show (formS k).size - (i + 1) < (formS k).size - i; omega) ?_
      simp (config := { maxSteps := 1000000 }) only [ob, zb, pcs_ren, pcs_forall, ↓mgO_cren, ↓mgA_cren, push_cast, ↓reduceIte, reduceCtorEq, Nat.reduceEqDiff, Nat.reduceLT, Nat.reduceAdd]
      done
  · obtain rfl : i = (formS k).size := by omega
    rw [List.drop_of_length_le (by omega), decGo_nil, endD_at] at hg
    have hT := okV_true 1
    have hF := okV_false 1
    have ol : ∀ a b c d, (mgO m a b c d).length = 43 := fun a b c d => mgO_len hin.sm
    simp (config := { maxSteps := 1000000 }) only [hlt, push_cast, ↓reduceIte, Nat.reduceEqDiff, Nat.reduceLT, Nat.reduceAdd]
    (repeat (refine And.intro (by first | omega | decide) ?_))
    refine callG_v rfl cb17 rfl (doneF (k0 := 1) (kf := 7) (s := s) hfs rfl rfl m1) (dOk_lt rfl) ?_
    by_cases hd : s.bad = false ∧ s.l = []
    · have hdT : (s.bad = false ∧ s.l = []) = True := eq_true hd
      simp (config := { maxSteps := 1000000 }) only [ol, hdT, push_cast, ↓reduceIte, Nat.reduceEqDiff, Nat.reduceLT, Nat.reduceAdd]
      (repeat (refine And.intro (by first | omega | decide) ?_))
      refine callG_v rfl cb43 rfl (checkMK (showsMg_own (hin.few (by omega)) rfl rfl rfl rfl)) (dOk_lt rfl) ?_
      cases hc : chkM m with
      | true =>
        rw [if_pos ⟨hd, hc⟩] at hg
        simp (config := { maxSteps := 1000000 }) only [ol, zeroR_len, hT, hg, outSv, outHp, undef, push_cast, ↓reduceIte, Nat.reduceEqDiff, Nat.reduceLT, Nat.reduceAdd]
        refine ⟨cast (mgO_one m 3 4 5 6 _).symm ⟨rfl, rfl, rfl, rfl⟩, ?_⟩
        refine endsAs [3, 4, 5, 6] ?_
        simp (config := { maxSteps := 1000000 }) only [ob, pcs_ren, pcs_forall, ↓mgO_sren, push_cast, ↓reduceIte, Nat.reduceEqDiff, Nat.reduceLT, Nat.reduceAdd]
        done
      | false =>
        rw [if_neg (fun x => Bool.false_ne_true (hc.symm.trans x.2))] at hg
        simp (config := { maxSteps := 1000000 }) only [zeroArr, zokMg2, mgA_zero, zeroR_len, hF, hg, outSv, outHp, undef, push_cast, ↓reduceIte, reduceCtorEq, Nat.reduceEqDiff, Nat.reduceLT, Nat.reduceAdd]
        refine ⟨of_eq_true (mgA_one _ _), endsAs [] ?_⟩
        simp (config := { maxSteps := 1000000 }) only [zb, ↓mgA_sren, push_cast, ↓reduceIte]
        done
    · have hdF : (s.bad = false ∧ s.l = []) = False := eq_false hd
      rw [if_neg (fun x => hd x.1)] at hg
      simp (config := { maxSteps := 1000000 }) only [zeroArr, zokMg2, mgA_zero, zeroR_len, hdF, hg, outSv, outHp, undef, push_cast, ↓reduceIte, reduceCtorEq, Nat.reduceEqDiff, Nat.reduceLT, Nat.reduceAdd]
      refine ⟨of_eq_true (mgA_one _ _), endsAs [] ?_⟩
      simp (config := { maxSteps := 1000000 }) only [zb, ↓mgA_sren, push_cast, ↓reduceIte]
      done
theorem decodeK_no {w0 : World} {hp : List Res} {sv : Sv} {l : List UInt8} (hl : l.length ≤ 10000000) (hD : decM l = none) (h : Shows w0 No hp sv (l.map vU8)) (hbr : ∀ r ∈ hp, Res.bnd hp.length r) :
    CallOK Tryd.prog w0 No 41 [sv] hp (.t [.g (mgA zeroR), .a (.v (.iface 137 (.int .i64 3)))]) hp := by
  have := callOK_take (P := Tryd.prog) (w0 := w0) (ow := No) (f := 41) (svs := [sv]) (hp := hp) (sv1 := .t [.g (mgA zeroR), .a (.v (.iface 137 (.int .i64 3)))]) (hp1 := []) [] hbr (fun r hr => by cases hr)
    (fun x hx => by
      rcases List.mem_cons.1 hx with rfl | hx
      · exact of_eq_true (mgA_sbnd zeroR _)
      · rw [List.mem_singleton.1 hx]; trivial) fun γ w hS => ⟨No, fun b h => h.elim, by
      obtain ⟨A, c, e1, b1, r1⟩ := h γ w hS
      rw [List.length_map] at e1 b1
      have := decode_any l A c w hl b1 r1
      rw [hD] at this
      rw [show List.map (Sv.val γ) [sv] = List.map (Sv.val []) [.x (.a (.v (.slice A l.length c)))] from by simp only [List.map_cons, List.map_nil, e1]; rfl]
      exact this⟩
  have e : Sv.ren (shiftL hp.length ([] : List Res).length) (.t [.g (mgA zeroR), .a (.v (.iface 137 (.int .i64 3)))]) = .t [.g (mgA zeroR), .a (.v (.iface 137 (.int .i64 3)))] := by
    show Sv.t [Sc.ren _ (.g (mgA zeroR)), _] = _
    rw [mgA_sren]
    rfl
  rw [e, show goneAll [] hp ++ List.map (Res.ren (shiftL hp.length ([] : List Res).length)) [] = hp from List.append_nil hp] at this
  exact this
theorem decodeK_yes {w0 : World} {hp : List Res} {sv : Sv} {l : List UInt8} {m : MgS} (hl : l.length ≤ 10000000) (hD : decM l = some m) (h : Shows w0 No hp sv (l.map vU8)) (hbr : ∀ r ∈ hp, Res.bnd hp.length r) :
    CallOK Tryd.prog w0 No 41 [sv] hp (.t [.g (mgO m hp.length (hp.length + 1) (hp.length + 2) (hp.length + 3)), .a (.v .nilIface)]) (hp ++ [.own 3 (.i64 m.ids), .own 27 (.u64 m.ns), .onn 160 2 (.c (pcs m.ps)), .own 136 (.u32 m.xs)]) := by
  have ob := fun (m : MgS) a b c d n => mgO_bnd m a b c d n
  have zb := fun (m : MgR) n => mgA_bnd m n
  simp only [At.bnd] at ob zb
  have := callOK_take (P := Tryd.prog) (w0 := w0) (ow := No) (f := 41) (svs := [sv]) (hp := hp) (sv1 := .t [.g (mgO m 0 1 2 3), .a (.v .nilIface)]) (hp1 := [.own 3 (.i64 m.ids), .own 27 (.u64 m.ns), .onn 160 2 (.c (pcs m.ps)), .own 136 (.u32 m.xs)]) [] hbr (by simp (config := { maxSteps := 1000000 }) only [pcs_forall, push_cast, Nat.reduceAdd])
    (fun x hx => by
      rcases List.mem_cons.1 hx with rfl | hx
      · rw [mgO_sbnd]; show 0 < 4 ∧ 1 < 4 ∧ 2 < 4 ∧ 3 < 4; decide
      · rw [List.mem_singleton.1 hx]; trivial) fun γ w hS => ⟨No, fun b h => h.elim, by
      obtain ⟨A, c, e1, b1, r1⟩ := h γ w hS
      rw [List.length_map] at e1 b1
      have := decode_any l A c w hl b1 r1
      rw [hD] at this
      rw [show List.map (Sv.val γ) [sv] = List.map (Sv.val []) [.x (.a (.v (.slice A l.length c)))] from by simp only [List.map_cons, List.map_nil, e1]; rfl]
      exact this⟩
  have r0 := fun i (h : i < 4) => shiftL_rn (a := hp.length) (n := 4) h
  have e : Sv.ren (shiftL hp.length 4) (.t [.g (mgO m 0 1 2 3), .a (.v .nilIface)]) = .t [.g (mgO m hp.length (hp.length + 1) (hp.length + 2) (hp.length + 3)), .a (.v .nilIface)] := by
    show Sv.t [Sc.ren _ (.g (mgO m 0 1 2 3)), _] = _
    rw [mgO_sren, r0 0 (by decide), r0 1 (by decide), r0 2 (by decide), r0 3 (by decide)]
    rfl
  have e2 : goneAll [] hp ++ List.map (Res.ren (shiftL hp.length 4)) [.own 3 (.i64 m.ids), .own 27 (.u64 m.ns), .onn 160 2 (.c (pcs m.ps)), .own 136 (.u32 m.xs)] = hp ++ [.own 3 (.i64 m.ids), .own 27 (.u64 m.ns), .onn 160 2 (.c (pcs m.ps)), .own 136 (.u32 m.xs)] := by
    show hp ++ [_, _, Res.onn _ 2 (.c ((pcs m.ps).map _)), _] = _
    rw [pcs_ren]
    rfl
  rw [show ([.own 3 (.i64 m.ids), .own 27 (.u64 m.ns), .onn 160 2 (.c (pcs m.ps)), .own 136 (.u32 m.xs)] : List Res).length = 4 from rfl, e, e2] at this
  exact this
end
end Go.Proofs.YtiaeollemmkclaaDoor
