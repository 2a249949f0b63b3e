import Derived.Test.YtiaeollemmkclaaDoorSc8
import Derived.Test.YtiaeollemmkclaaDoorGn
/- Law 40's sure, ScriptBack. -/
namespace Go.Proofs.YtiaeollemmkclaaDoor
open Go.RowKit
set_option linter.unusedSimpArgs false
set_option linter.unusedVariables false
theorem parse_at (s : ByteArray) : 0 ≤ (parseF s).2.1 := by
  unfold parseF
  split
  · exact Int.le_refl _
  · split
    · exact Int.natCast_nonneg _
    · exact Int.le_refl _
theorem sure1 : parseF ⟨#[116, 105, 99, 107, 32, 51, 32, 35, 32, 116, 105, 99, 107, 115, 10, 10, 105, 110, 106, 101, 99, 116, 32, 53, 32, 48, 48, 102, 102, 10]⟩ = ([⟨⟨#[116,105,99,107]⟩, [⟨#[51]⟩]⟩, ⟨⟨#[105, 110, 106, 101, 99, 116]⟩, [⟨#[53]⟩, ⟨#[48,48,102,102]⟩]⟩], 0, 0) := by decide +kernel
theorem sure2 : parseF ⟨#[115, 117, 109, 10, 98, 111, 103, 117, 115]⟩ = ([], 2, 337) := by decide +kernel
theorem sure3 : intF [57] = some 9 := by decide +kernel
theorem sure4 : intF [48, 57] = none := by decide +kernel
theorem sure5 : bytesF [48, 48, 102, 102] = some [0, 255] := by decide +kernel
theorem sure6 : bytesF [48] = none := by decide +kernel
theorem vCm_get {l : List CmR} {i k : Nat} {v : Value} (d : At) (hi : i < l.length) (hk : (cmV (ix l i))[k]? = some v) : (vC (l.flatMap cmV)).getD (i * 2 + k) d = .v v := by
  have h : (l.flatMap cmV)[i * 2 + k]? = some v := by rw [flat_get cmV_len l i k hi (by have := (List.getElem?_eq_some_iff.1 hk).1; rwa [cmV_len] at this)]; exact hk
  unfold vC
  rw [List.getD_eq_getElem?_getD, List.getElem?_map, h]
  rfl
theorem vCm_whole {l : List CmR} {i : Nat} (hi : i < l.length) : ((vC (l.flatMap cmV)).drop (i * 2)).take 2 = [.v (.string (ix l i).word), .v (.slice (ix l i).args.A (ix l i).args.l.length (ix l i).args.c)] := by
  have hl : (vC (l.flatMap cmV)).length = l.length * 2 := by rw [vC_len, flat_len cmV_len]
  have h0 := vCm_get (.v undef) hi (k := 0) (v := .string (ix l i).word) rfl
  have h1 := vCm_get (.v undef) hi (k := 1) (v := .slice (ix l i).args.A (ix l i).args.l.length (ix l i).args.c) rfl
  rw [Nat.add_zero, List.getD_eq_getElem?_getD, List.getElem?_eq_getElem (by omega)] at h0
  rw [List.getD_eq_getElem?_getD, List.getElem?_eq_getElem (by omega)] at h1
  rw [List.drop_eq_getElem_cons (by omega), List.drop_eq_getElem_cons (by omega)]
  show [_, _] = [_, _]
  rw [← h0, ← h1]
  rfl
attribute [local irreducible] Callable CallOK CallG CallM DrawG LoopG symR symM
attribute [local irreducible] chkCm printT erV parseF vC intF bytesF printE bigF
section
variable {w0 : World} {hp : List Res}
theorem parseNoK (s : ByteArray) (hs : s.size ≤ 900000) (hv : Vars w0) (h : (parseF s).2.2 ≠ 0) : CallOK Tryd.prog w0 No 56 [.x (.a (.v (.string s)))] hp (.t [.a (.v (.slice none 0 0)), .a (.v (.int .i64 (parseF s).2.1)), .a (.v (erV (parseF s).2.2))]) hp := callOK_v fun γ w hS => by
  refine (parse_sym s w hs (hv.sat hS)).mono fun e w' ⟨x, γ1, hq, he, hS1⟩ => ?_
  cases x with
  | none => exact ⟨he, keeps_below hS1.keeps⟩
  | some x =>
    exfalso
    have := hq.1
    rw [this] at h
    exact h rfl
def PaOk (s : ByteArray) (x : PaR) : Prop := parseF s = (x.cs.map CmR.cm, 0, 0) ∧ x.cs.length ≤ 1000 ∧ CsOk x.fs x.cs
theorem parse_yes (s : ByteArray) (hs : s.size ≤ 900000) (hv : Vars w0) (h : (parseF s).2.2 = 0) (hbr : ∀ r ∈ hp, Res.bnd hp.length r) (γ : List Nm) (w : World) (hS : Sat w0 No γ hp w) :
    Calls Tryd.prog 56 (List.map (Sv.val γ) [.x (.a (.v (.string s)))]).toArray w fun e w' => ∃ (x : PaR) (δ : List Nm), PaOk s x ∧ e = .returned ((Sv.t [.a (.o hp.length), .a (.v (.int .i64 0)), .a (.v .nilIface)]).val (γ ++ δ)) ∧ Sat w0 No (γ ++ δ) (hp ++ [.onn 115 2 (.c (vC (x.cs.flatMap cmV))), .abs (fctRep x.fs)]) w' := by
  refine (parse_sym s w hs (hv.sat hS)).mono fun e w' ⟨x, γ1, hq, he, hS1⟩ => ?_
  cases x with
  | none => exact absurd h hq.2
  | some x =>
    refine ⟨x, γ1, hq, ?_, ?_⟩
    · rw [he]
      show Ending.returned (.tuple #[nmS γ1 0, _, _]) = Ending.returned (.tuple #[nmS (γ ++ γ1) hp.length, _, _])
      have : nmS (γ ++ γ1) hp.length = nmS γ1 0 := by
        unfold nmS
        rw [List.getElem?_append_right (by rw [hS.len]; exact Nat.le_refl _), hS.len, Nat.sub_self]
      rw [this]
      rfl
    · have h1 : Sat w No γ1 [.onn 115 2 (.c (vC (x.cs.flatMap cmV))), .abs (fctRep x.fs)] w' := hS1
      have h2 := hS.back [] (X := No) (fun b h => h.elim) h1 hbr (by simp (config := { maxSteps := 1000000 }) only [vC_forall, push_cast, Nat.reduceAdd])
      simp only [List.map_cons, List.map_nil, Res.ren, Cont.ren, vC_ren] at h2
      exact h2
theorem shows_csArgs {ow : Nat → Prop} {Fs : List Fct} {cs : List CmR} {c : CmR} (j : Nat) (hj : hp[j]? = some (.abs (fctRep Fs))) (hok : CsOk Fs cs) (hc : c ∈ cs) : ∀ γ w, Sat w0 ow γ hp w → c.Ok w := fun γ w hS => by
  obtain ⟨a1, a2, a3, a4⟩ := hok c hc
  have hk : Known w No Fs := known_fct hS hj [] (by simp) (fun b hb => hb.elim)
  obtain ⟨h3, h4⟩ := hk.fw a1 (fun e => by rw [e]; rfl)
  exact ⟨h3, a2, h4.rd, a3, a4⟩
theorem shows_onnCms {ow : Nat → Prop} {Fs : List Fct} {cs : List CmR} (k j : Nat) (hk : hp[k]? = some (.onn 115 2 (.c (vC (cs.flatMap cmV))))) (hj : hp[j]? = some (.abs (fctRep Fs))) (hok : CsOk Fs cs) (hl : cs.length ≤ 1000) : ShowsCms w0 ow hp (.x (.a (.o k))) (cs.map CmR.cm) := fun γ w hS => by
  obtain ⟨A, cap, h1, h2, h3⟩ := fct_onn hS hk (vC_val γ _) (flat_len cmV_len cs)
  obtain ⟨h4, h5⟩ := h3.rd rfl (fun b hb => (hS.mine k _ b hk hb).2)
  exact ⟨⟨A, cap, cs⟩, h1, ⟨h4, by show cs.length ≤ _; omega, h5, fun c hc => shows_csArgs j hj hok hc γ w hS⟩, rfl⟩
theorem shows_args {ow : Nat → Prop} {Fs : List Fct} {cs : List CmR} {c : CmR} (j : Nat) (hj : hp[j]? = some (.abs (fctRep Fs))) (hok : CsOk Fs cs) (hc : c ∈ cs) : Shows w0 ow hp (.x (.a (.v (.slice c.args.A c.args.l.length c.args.c)))) (c.args.l.map Value.string) := fun γ w hS => by
  have h := shows_csArgs j hj hok hc γ w hS
  exact ⟨c.args.A, c.args.c, by rw [List.length_map]; rfl, by rw [List.length_map]; exact h.len, h.rd⟩
theorem shows_given {x : SlV CmR} {y : SlV CmR × List Fct} (k : Nat) (hk : hp[k]? = some (.abs (fctRep y.2))) (hx : CmsW x w0) (h1 : y.1.l = x.l) (h2 : SlF y.2 y.1 (x.l.flatMap cmV)) : ShowsCms w0 No hp (.x (.a (.v y.1.val))) (cmsL x) := fun γ w hS => by
  have hkn : Known w No y.2 := known_fct hS hk [] (by simp) (fun b hb => hb.elim)
  obtain ⟨h3, h4⟩ := hkn.fw h2 (fun e => by rw [e] at h1; rw [← h1]; rfl)
  have hxw := hx.later hS
  refine ⟨y.1, rfl, ⟨h3, by rw [h1]; exact hx.few, by rw [h1]; exact h4.rd, fun c hc => hxw.each c (by rw [← h1]; exact hc)⟩, ?_⟩
  unfold cmsL
  rw [h1]
end
set_option maxRecDepth 100000 in
set_option maxHeartbeats 2000000 in
theorem sure40_any (w : World) (hg : Handle w) (hv : Vars w) : Calls Tryd.prog 53 #[] w fun e w' => e = .returned (.bool true) ∧ Below w.heap.size w w' := by
  refine calls_v (n := 103) Tryd.func53 rfl Tryd.ntmps53 [] (by simp) (.x (.a (.v (.bool true)))) (fun _ => rfl) ?_
  have e0 := erV_zero
  have e337 : erV 337 = .iface 137 (.int .i64 337) := erV_ne (by decide)
  have e3 : erV 3 = .iface 137 (.int .i64 3) := erV_ne (by decide)
  simp (config := { maxSteps := 1000000 }) only [push_cast, ↓reduceIte, Nat.reduceLT]
  (repeat (refine And.intro (by first | omega | decide) ?_))
  refine callG_ex (PaOk _) (fun _ => .t [.a (.o 0), .a (.v (.int .i64 0)), .a (.v .nilIface)]) (fun x => [.onn 115 2 (.c (vC (x.cs.flatMap cmV))), .abs (fctRep x.fs)]) rfl cb56 rfl (fun γ w' hS => parse_yes _ (by decide) hv (by rw [sure1]) (fun r hr => by cases hr) γ w' hS) (dOk_lt rfl) (by simp (config := { maxSteps := 1000000 }) only [push_cast]) ?_
  rintro ⟨cs, Fs⟩ ⟨h1, h2, hok⟩
  rw [sure1] at h1
  dsimp only at h1 h2 hok ⊢
  obtain ⟨c0, c1, rfl⟩ : ∃ c0 c1, cs = [c0, c1] := by
    have hl := congrArg (fun z => z.1.length) h1
    simp only [List.length_map, List.length_cons, List.length_nil] at hl
    match cs, hl with
    | [a, b], _ => exact ⟨a, b, rfl⟩
  have h1 := congrArg Prod.fst h1
  simp only [List.map_cons, List.map_nil, List.cons.injEq, and_true] at h1
  obtain ⟨q0, q1⟩ := h1
  have w0' : c0.word = ⟨#[116,105,99,107]⟩ := (congrArg CmS.word q0).symm
  have a1' : c1.args.l = [⟨#[53]⟩, ⟨#[48,48,102,102]⟩] := (congrArg CmS.args q1).symm
  have ev : vC ([c0, c1].flatMap cmV) = [.v (.string c0.word), .v (.slice c0.args.A c0.args.l.length c0.args.c), .v (.string c1.word), .v (.slice c1.args.A c1.args.l.length c1.args.c)] := by unfold vC; rfl
  rw [ev]
  have qw := ss_yes w0'
  have hc1 : c1 ∈ [c0, c1] := List.mem_cons_of_mem _ (List.mem_cons_self ..)
  have hal : c1.args.l.length = 2 := by rw [a1']; rfl
  simp (config := { maxSteps := 1000000 }) only [push_cast, ↓reduceIte, Nat.reduceEqDiff, Nat.reduceLT, Nat.reduceAdd]
  refine callG_v rfl cb56 rfl (parseNoK _ (by decide) hv (by rw [sure2]; decide)) (dOk_lt rfl) ?_
  rw [sure2]
  simp (config := { maxSteps := 1000000 }) only [push_cast, ↓reduceIte, Nat.reduceEqDiff, Nat.reduceLT, Nat.reduceAdd]
  refine callG_v rfl cb101 rfl (cmIntK _ (by decide) hv) (dOk_lt rfl) ?_
  rw [show intF (⟨#[57]⟩ : ByteArray).data.toList = some 9 from sure3]
  simp (config := { maxSteps := 1000000 }) only [Option.isSome_some, e0, push_cast, ↓reduceIte, Nat.reduceEqDiff, Nat.reduceLT, Nat.reduceAdd]
  refine callG_v rfl cb101 rfl (cmIntK _ (by decide) hv) (dOk_lt rfl) ?_
  rw [show intF (⟨#[48, 57]⟩ : ByteArray).data.toList = none from sure4]
  simp (config := { maxSteps := 1000000 }) only [Option.isSome_none, Bool.false_eq_true, push_cast, ↓reduceIte, Nat.reduceEqDiff, Nat.reduceLT, Nat.reduceAdd]
  refine callG_x rfl cb102 rfl (cmBytesK _ (by decide) (by simp (config := { maxSteps := 1000000 }) only [push_cast, Nat.reduceAdd])) (dOk_lt rfl) (by simp (config := { maxSteps := 1000000 }) only [push_cast, Nat.reduceLT, Nat.reduceAdd]) ?_
  rw [show bytesF (⟨#[48, 48, 102, 102]⟩ : ByteArray).data.toList = some [0, 255] from sure5]
  simp (config := { maxSteps := 1000000 }) only [Option.isSome_some, e0, push_cast, ↓reduceIte, Nat.reduceEqDiff, Nat.reduceLT, Nat.reduceAdd]
  refine callG_x rfl cb102 rfl (cmBytesK _ (by decide) (by simp (config := { maxSteps := 1000000 }) only [push_cast, Nat.reduceAdd])) (dOk_lt rfl) (by simp (config := { maxSteps := 1000000 }) only [push_cast, Nat.reduceLT, Nat.reduceAdd]) ?_
  rw [show bytesF (⟨#[48]⟩ : ByteArray).data.toList = none from sure6]
  have qb : ((bstr [0, 255]).toList == (⟨#[0, 255]⟩ : ByteArray).toList) = true := by decide +kernel
  simp (config := { maxSteps := 1000000 }) only [Option.isSome_none, Bool.false_eq_true, qw, undef, push_cast, ↓Int.cast_ofNat_Int, Int.cast_ofNat_Int, ↓reduceIte, reduceCtorEq, Nat.reduceEqDiff, Nat.reduceLT, Nat.reduceLeDiff, Nat.reduceAdd, Nat.reduceMul, Int.reduceLE, Int.reduceLT, Int.reduceToNat, Int.reduceAdd]
  refine callG_v rfl cb58 rfl (textsK (a := c1.args.l) (b := [⟨#[53]⟩, ⟨#[48, 48, 102, 102]⟩]) (by rw [hal]; decide) (shows_args 1 rfl hok hc1) (shows_blk_all (k := 4) rfl (fun _ => rfl) 2 2 rfl (Nat.le_refl 2))) (dOk_lt rfl) ?_
  have dt : decide (c1.args.l = [⟨#[53]⟩, ⟨#[48, 48, 102, 102]⟩]) = true := decide_eq_true a1'
  simp (config := { maxSteps := 1000000 }) only [dt, push_cast, ↓reduceIte, Nat.reduceEqDiff, Nat.reduceLT, Nat.reduceAdd]
  refine callG_v rfl cb103 rfl (nm40OK 337 hg) (dOk_lt rfl) ?_
  simp (config := { maxSteps := 1000000 }) only [undef, push_cast, ↓reduceIte, reduceCtorEq, Nat.reduceEqDiff, Nat.reduceLT, Nat.reduceAdd]
  refine callG_v rfl cb103 rfl (nm40OK 3 hg) (dOk_lt rfl) ?_
  simp (config := { maxSteps := 1000000 }) only [Option.getD_some, Option.getD_none, qb, push_cast, ↓Int.cast_ofNat_Int, Int.cast_ofNat_Int, ↓reduceIte, Nat.reduceEqDiff, Nat.reduceLT, Nat.reduceAdd]
  (repeat (refine And.intro (by first | omega | decide) ?_))
  refine callG_v rfl cb103 rfl (nm40OK 3 hg) (dOk_lt rfl) ?_
  simp (config := { maxSteps := 1000000 }) only [push_cast, ↓reduceIte, Nat.reduceEqDiff, Nat.reduceLT, Nat.reduceAdd]
  done
theorem sure40K {w0 : World} {hp : List Res} (hg : Handle w0) (hv : Vars w0) : CallOK Tryd.prog w0 No 53 [] hp (.x (.a (.v (.bool true)))) hp := callOK_v fun _ w hS => sure40_any w (handle_sat hg hS) (hv.sat hS)
theorem big40K {w0 : World} {hp : List Res} {x : SlV CmR} (hx : CmsI x w0) : CallOK Tryd.prog w0 No 52 [.x (.a (.v (.slice x.A x.l.length x.c)))] hp (.x (.a (.v (.bool (bigF (cmsL x)))))) hp := callOK_v fun _ w hS =>
  big40_any x w ⟨hx.len, hx.wide, rd_later hx.rd hS, fun c hc => ⟨(hx.each c hc).1, (hx.each c hc).2.1, rd_later (hx.each c hc).2.2 hS⟩⟩
section
variable {P : Program} {w0 : World} {ow : Nat → Prop} {n : Nat}
/-- What comes next at a call, once for all roads that lead there. -/
theorem joinG {R : Prop} {ops rest : List Oper} {o : Oper} {K : S → Prop} {X : Type} (I : X → Prop) (F : X → S) (h : (∀ x, I x → CallG P w0 ow n ops o rest (F x) K) → R) (k : ∀ x, I x → CallG P w0 ow n ops o rest (F x) K) : R := h k
end
theorem print_ok {L : List CmS} (h : printE L = 0) : L.length ≤ 1000 ∧ (∀ c ∈ L, chkCm c = true) ∧ (printT L).length ≤ 65536 := by
  unfold printE at h
  split at h
  · exact absurd h (by decide)
  · rename_i h1
    split at h
    · exact absurd h (by decide)
    · rename_i h2
      split at h
      · exact absurd h (by decide)
      · rename_i h3
        refine ⟨by omega, ?_, by omega⟩
        have h2 : L.all chkCm = true := by simpa using h2
        exact List.all_eq_true.1 h2
set_option maxRecDepth 100000 in
set_option maxHeartbeats 4000000 in
theorem scriptBack_any (x : SlV CmR) (s : ByteArray) (w : World) (hx : CmsI x w) (hg : Handle w) (hv : Vars w) : Calls Tryd.prog 8 #[x.val, .string s] w fun e w' => e = .returned (.bool true) ∧ Below w.heap.size w w' := by
  have h0 : Calls Tryd.prog 8 #[x.val, .string s] w fun e w' => ∃ (i : Unit) (γ1 : List Nm), True ∧ e = .returned ((Sv.x (.a (.v (.bool true)))).val γ1) ∧ Sat w No γ1 [] w' := by
    refine calls_ex (n := 142) (fun _ : Unit => True) (fun _ => .x (.a (.v (.bool true)))) (fun _ => []) Tryd.func8 rfl Tryd.ntmps8 [.x (.a (.v (.slice x.A x.l.length x.c))), .x (.a (.v (.string s)))] ((Sat.init w No).fct0 (fun r hr => by cases hr)) (by simp) ?_
    have e0 := erV_zero
    simp (config := { maxSteps := 1000000 }) only [push_cast, ↓reduceIte, reduceCtorEq, Nat.reduceLT]
    refine callG_v rfl cb52 rfl (big40K hx) (dOk_lt rfl) ?_
    cases hb : bigF (cmsL x) with
    | true =>
      simp (config := { maxSteps := 1000000 }) only [undef, push_cast, ↓reduceIte, Nat.reduceEqDiff, Nat.reduceLT]
      refine callG_v rfl cb53 rfl (sure40K hg hv) (dOk_lt rfl) ?_
      simp (config := { maxSteps := 1000000 }) only [push_cast, ↓reduceIte, Nat.reduceLT]
      refine ⟨(), endsAs [] ?_⟩
      simp (config := { maxSteps := 1000000 }) only [push_cast, ↓reduceIte]
    | false =>
      by_cases hs6 : (6000 : Int) < s.size
      · simp (config := { maxSteps := 1000000 }) only [hs6, push_cast, ↓reduceIte, reduceCtorEq, Nat.reduceEqDiff, Nat.reduceLT]
        refine callG_v rfl cb53 rfl (sure40K hg hv) (dOk_lt rfl) ?_
        simp (config := { maxSteps := 1000000 }) only [push_cast, ↓reduceIte, Nat.reduceLT]
        refine ⟨(), endsAs [] ?_⟩
        simp (config := { maxSteps := 1000000 }) only [push_cast, ↓reduceIte]
      obtain ⟨xw, x60⟩ := hx.small hb
      simp (config := { maxSteps := 1000000 }) only [hs6, push_cast, ↓reduceIte, reduceCtorEq, Nat.reduceEqDiff, Nat.reduceLT]
      (repeat (refine And.intro (by first | omega | decide) ?_))
      refine callG_F (fun y : SlV CmR × List Fct => y.1.l = x.l ∧ SlF y.2 y.1 (x.l.flatMap cmV)) (fun y => .x (.a (.v y.1.val))) (fun y => y.2) 0 rfl rfl cb55 rfl (fun γ w' hS => give40_any x w' (by omega) (rd_later xw.rd hS)) (fun _ _ => rfl) (dOk_lt rfl) (by simp (config := { maxSteps := 1000000 }) only [push_cast]) ?_
      rintro ⟨y, Fs⟩ ⟨y1, y2⟩
      dsimp only at y1 y2 ⊢
      simp (config := { maxSteps := 1000000 }) only [push_cast, ↓reduceIte]
      refine callG_v rfl cb54 rfl (printK (shows_given (y := (y, Fs)) 0 rfl xw y1 y2) hv) (dOk_lt rfl) ?_
      apply joinG (P := Tryd.prog) (w0 := w) (ow := No) (n := 142) (X := Unit) (fun _ => True) (fun _ => ⟨[(0, .x (.a (.v (.slice x.A x.l.length x.c)))), (1, .x (.a (.v (.string s)))), (61, .x (.a (.v (.string s))))], []⟩)
      · intro next
        by_cases he : printE (cmsL x) = 0
        case neg =>
          have en := erV_ne he
          simp (config := { maxSteps := 1000000 }) only [en, undef, push_cast, ↓reduceIte, reduceCtorEq, Nat.reduceEqDiff, Nat.reduceLT]
          refine call_leads (leads_le [] ?_) (next () trivial)
          simp (config := { maxSteps := 1000000 }) only [push_cast, ↓reduceIte, reduceCtorEq, Nat.reduceEqDiff]
        obtain ⟨p1, p2, p3⟩ := print_ok he
        have hsz := sb_size (printT (cmsL x))
        by_cases hlen : ((printT (cmsL x)).length : Int) < 60000
        case neg =>
          simp (config := { maxSteps := 1000000 }) only [he, e0, hsz, hlen, push_cast, ↓reduceIte, reduceCtorEq, Nat.reduceEqDiff, Nat.reduceLT]
          refine call_leads (leads_le [] ?_) (next () trivial)
          simp (config := { maxSteps := 1000000 }) only [push_cast, ↓reduceIte, reduceCtorEq, Nat.reduceEqDiff]
        have hz1 : (⟨#[35, 32, 120, 10]⟩ : ByteArray).size + (sb (printT (cmsL x))).size ≤ 9223372036854775807 := by show 4 + _ ≤ _; omega
        have hz2 : ((⟨#[35, 32, 120, 10]⟩ : ByteArray) ++ sb (printT (cmsL x))).size + (⟨#[32, 9, 35, 32, 121]⟩ : ByteArray).size ≤ 9223372036854775807 := by
          rw [ByteArray.size_append]
          show 4 + _ + 5 ≤ _
          omega
        obtain ⟨s2, hs2⟩ : ∃ s2, s2 = (⟨#[35, 32, 120, 10]⟩ : ByteArray) ++ sb (printT (cmsL x)) ++ (⟨#[32, 9, 35, 32, 121]⟩ : ByteArray) := ⟨_, rfl⟩
        have es2 : s2 = sb ([35, 32, 120, 10] ++ printT (cmsL x) ++ [32, 9, 35, 32, 121]) := by
          rw [← sb_of s2, hs2, sb_append, sb_append, sb_data]
        have hp2 : parseF s2 = (cmsL x, 0, 0) := by rw [es2]; exact parse_noted p1 p2 (by omega)
        have hsz2 : s2.size ≤ 900000 := by
          rw [es2, sb_size, List.length_append, List.length_append]
          show 4 + _ + 5 ≤ _
          omega
        simp (config := { maxSteps := 1000000 }) only [he, e0, hsz, hlen, hz2, ← hs2, push_cast, ↓reduceIte, Nat.reduceEqDiff, Nat.reduceLT]
        (repeat (refine And.intro (by first | omega | decide) ?_))
        refine callG_ex (PaOk s2) (fun _ => .t [.a (.o 1), .a (.v (.int .i64 0)), .a (.v .nilIface)]) (fun z => [.abs (fctRep Fs), .onn 115 2 (.c (vC (z.cs.flatMap cmV))), .abs (fctRep z.fs)]) rfl cb56 rfl (fun γ w' hS => parse_yes s2 hsz2 hv (by rw [hp2]) (by simp (config := { maxSteps := 1000000 }) only [push_cast]) γ w' hS) (dOk_lt rfl) (by simp (config := { maxSteps := 1000000 }) only [push_cast]) ?_
        rintro ⟨cs, F2⟩ ⟨h1, h2, hok⟩
        rw [hp2] at h1
        dsimp only at h1 h2 hok ⊢
        have h1 := congrArg Prod.fst h1
        dsimp only at h1
        simp (config := { maxSteps := 1000000 }) only [push_cast, ↓reduceIte, reduceCtorEq, Nat.reduceEqDiff, Nat.reduceLT, Nat.reduceAdd]
        (repeat (refine And.intro (by first | omega | decide) ?_))
        refine callG_v rfl cb57 rfl (areCmsK (shows_onnCms 1 2 rfl rfl hok h2) (fun γ w' hS => ⟨x, rfl, xw.later hS, rfl⟩)) (dOk_lt rfl) ?_
        have hd : decide (cs.map CmR.cm = cmsL x) = true := decide_eq_true h1.symm
        simp (config := { maxSteps := 1000000 }) only [hd, push_cast, ↓reduceIte, reduceCtorEq, Nat.reduceEqDiff, Nat.reduceLT, Nat.reduceAdd]
        refine call_leads (leads_le [] ?_) (next () trivial)
        simp (config := { maxSteps := 1000000 }) only [push_cast, ↓reduceIte, reduceCtorEq, Nat.reduceEqDiff]
      intro _ _
      have hpa := parse_at s
      by_cases hok0 : (parseF s).2.2 = 0
      case neg =>
        have en := erV_ne hok0
        refine callG_v rfl cb56 rfl (parseNoK s (by omega) hv hok0) (dOk_lt rfl) ?_
        simp (config := { maxSteps := 1000000 }) only [en, hpa, push_cast, ↓Int.cast_ofNat_Int, Int.cast_ofNat_Int, ↓reduceIte, Nat.reduceEqDiff, Nat.reduceLT]
        refine callG_v rfl cb53 rfl (sure40K hg hv) (dOk_lt rfl) ?_
        simp (config := { maxSteps := 1000000 }) only [push_cast, ↓reduceIte, Nat.reduceEqDiff, Nat.reduceLT]
        refine ⟨(), endsAs [] ?_⟩
        simp (config := { maxSteps := 1000000 }) only [push_cast, ↓reduceIte]
      refine callG_ex (PaOk s) (fun _ => .t [.a (.o 0), .a (.v (.int .i64 0)), .a (.v .nilIface)]) (fun z => [.onn 115 2 (.c (vC (z.cs.flatMap cmV))), .abs (fctRep z.fs)]) rfl cb56 rfl (fun γ w' hS => parse_yes s (by omega) hv hok0 (fun r hr => by cases hr) γ w' hS) (dOk_lt rfl) (by simp (config := { maxSteps := 1000000 }) only [push_cast]) ?_
      rintro ⟨cs, F1⟩ ⟨h1, h2, hok⟩
      dsimp only at h1 h2 hok ⊢
      obtain ⟨b1, b2, b3, b4, b5⟩ := parse_back (by omega) h1
      have hsz := sb_size (printT (cs.map CmR.cm))
      simp (config := { maxSteps := 1000000 }) only [push_cast, ↓reduceIte, Nat.reduceEqDiff, Nat.reduceLT, Nat.reduceAdd]
      refine callG_v rfl cb54 rfl (printK (shows_onnCms 0 1 rfl rfl hok h2) hv) (dOk_lt rfl) ?_
      simp (config := { maxSteps := 1000000 }) only [b3, e0, push_cast, ↓reduceIte, Nat.reduceEqDiff, Nat.reduceLT, Nat.reduceAdd]
      refine callG_ex (PaOk (sb (printT (cs.map CmR.cm)))) (fun _ => .t [.a (.o 2), .a (.v (.int .i64 0)), .a (.v .nilIface)]) (fun z => [.onn 115 2 (.c (vC (cs.flatMap cmV))), .abs (fctRep F1), .onn 115 2 (.c (vC (z.cs.flatMap cmV))), .abs (fctRep z.fs)]) rfl cb56 rfl (fun γ w' hS => parse_yes _ (by rw [hsz]; omega) hv (by rw [b5]) (by simp (config := { maxSteps := 1000000 }) only [vC_forall, push_cast, Nat.reduceAdd]) γ w' hS) (dOk_lt rfl) (by simp (config := { maxSteps := 1000000 }) only [vC_forall, push_cast, Nat.reduceLT, Nat.reduceAdd]) ?_
      rintro ⟨ds, F2⟩ ⟨k1, k2, kok⟩
      rw [b5] at k1
      dsimp only at k1 k2 kok ⊢
      have k1 := congrArg Prod.fst k1
      dsimp only at k1
      have hlen : ds.length = cs.length := by
        have := congrArg List.length k1
        rw [List.length_map, List.length_map] at this
        exact this.symm
      have l1 : (vC (cs.flatMap cmV)).length / 2 = cs.length := by rw [vC_len, flat_len cmV_len]; omega
      have l2 : (vC (ds.flatMap cmV)).length / 2 = cs.length := by rw [vC_len, flat_len cmV_len, hlen]; omega
      have l3 : (vC (cs.flatMap cmV)).length = cs.length * 2 := by rw [vC_len, flat_len cmV_len]
      have l4 : (vC (ds.flatMap cmV)).length = cs.length * 2 := by rw [vC_len, flat_len cmV_len, hlen]
      have l5 : cs.length * 2 / 2 = cs.length := by omega
      simp (config := { maxSteps := 1000000 }) only [l3, l4, l5, push_cast, ↓reduceIte, Nat.reduceEqDiff, Nat.reduceLT, Nat.reduceAdd]
      (repeat (refine And.intro (by first | omega | decide) ?_))
      refine loop_rule (ι := Nat) (fun i => ⟨[(10, .x (.a (.o 0))), (15, .x (.a (.o 2))), (18, .x (.a (.v (.int .i64 (i : Nat)))))], [.onn 115 2 (.c (vC (cs.flatMap cmV))), .abs (fctRep F1), .onn 115 2 (.c (vC (ds.flatMap cmV))), .abs (fctRep F2)]⟩) (fun i => i ≤ cs.length) (fun i => cs.length - i) 0 [0, 1, 2, 3] (Nat.zero_le _) ?_ ?_
      · simp (config := { maxSteps := 1000000 }) only [vC_forall, vC_ren, push_cast, ↓Int.cast_ofNat_Int, Int.cast_ofNat_Int, ↓reduceIte, reduceCtorEq, Nat.reduceEqDiff, Nat.reduceLT, Nat.reduceAdd]
      intro i hi
      by_cases hlt : (i : Int) < cs.length
      case neg =>
        simp (config := { maxSteps := 1000000 }) only [hlt, l3, l5, push_cast, ↓reduceIte, Nat.reduceEqDiff, Nat.reduceLT, Nat.reduceAdd]
        refine callG_v rfl cb53 rfl (sure40K hg hv) (dOk_lt rfl) ?_
        simp (config := { maxSteps := 1000000 }) only [push_cast, ↓reduceIte, Nat.reduceLT, Nat.reduceAdd]
        refine ⟨(), endsAs [] ?_⟩
        simp (config := { maxSteps := 1000000 }) only [push_cast, ↓reduceIte]
      have hil : i < cs.length := by omega
      have hil2 : i < ds.length := by omega
      have i0 : (0 : Int) ≤ i := by omega
      have nx : (i : Int) + 1 ≤ 9223372036854775807 := by omega
      have nm : -9223372036854775808 ≤ (i : Int) + 1 := by omega
      have g0 : ∀ d, (vC (cs.flatMap cmV)).getD (i * 2) d = .v (.string (ix cs i).word) := fun d => vCm_get d hil (k := 0) rfl
      have g1 : ∀ d, (vC (cs.flatMap cmV)).getD (i * 2 + 1) d = .v (.slice (ix cs i).args.A (ix cs i).args.l.length (ix cs i).args.c) := fun d => vCm_get d hil (k := 1) rfl
      have g2 := vCm_whole hil
      have q0 : ∀ d, (vC (ds.flatMap cmV)).getD (i * 2) d = .v (.string (ix ds i).word) := fun d => vCm_get d hil2 (k := 0) rfl
      have q1 : ∀ d, (vC (ds.flatMap cmV)).getD (i * 2 + 1) d = .v (.slice (ix ds i).args.A (ix ds i).args.l.length (ix ds i).args.c) := fun d => vCm_get d hil2 (k := 1) rfl
      have hcm := ix_mem hil
      have hdm := ix_mem hil2
      have e1 : (ix cs i).cm = (ix ds i).cm := by
        have h1 : (cs.map CmR.cm)[i]? = some (ix cs i).cm := by unfold ix; rw [List.getElem?_map, List.getD_eq_getElem?_getD, List.getElem?_eq_getElem hil]; rfl
        have h2 : (ds.map CmR.cm)[i]? = some (ix ds i).cm := by unfold ix; rw [List.getElem?_map, List.getD_eq_getElem?_getD, List.getElem?_eq_getElem hil2]; rfl
        rw [k1, h2] at h1
        exact (Option.some.inj h1).symm
      have hck := b2 _ (List.mem_map_of_mem hcm)
      generalize ix cs i = c at *
      generalize ix ds i = d at *
      have ew : c.word = d.word := congrArg CmS.word e1
      have ea : c.args.l = d.args.l := congrArg CmS.args e1
      have qw := ss_yes ew
      have dt : decide (c.args.l = d.args.l) = true := decide_eq_true ea
      have m0 : i * 2 < cs.length * 2 := by omega
      have m1 : i * 2 + 1 < cs.length * 2 := by omega
      have m2 : i * 2 + 2 ≤ cs.length * 2 := by omega
      have few := (hok c hcm).2.1
      simp (config := { maxSteps := 1000000 }) only [hlt, l3, l5, push_cast, ↓reduceIte, Nat.reduceEqDiff, Nat.reduceLT, Nat.reduceAdd]
      refine draw_rule ((0, true) :: (1, true) :: (2, true) :: (3, true) :: (4, true) :: (5, true) :: (6, true) :: (7, true) :: (8, true) :: (9, true) :: (10, true) :: (11, true) :: (12, true) :: (13, true) :: (14, true) :: (15, true) :: (16, true) :: (17, true) :: (18, true) :: (19, true) :: (20, true) :: (21, true) :: (22, false) :: (23, true) :: (24, true) :: (25, true) :: (26, true) :: (27, true) :: (28, true) :: (29, true) :: (30, false) :: (31, true) :: (32, true) :: []) (by kernel_rfl) (by kernel_rfl) rfl (by kernel_rfl) ?_
      simp (config := { maxSteps := 1000000 }) only [hlt, i0, l3, l4, l5, g0, g1, q0, q1, m0, m1, qw, undef, push_cast, ↓Int.toNat_natCast, ↓reduceIte, reduceCtorEq, Nat.reduceEqDiff, Nat.reduceLT, Nat.reduceAdd]
      (repeat (refine And.intro (by first | omega | decide) ?_))
      refine callM_v rfl cb58 rfl (textsK few (shows_args 1 rfl hok hcm) (shows_args 3 rfl kok hdm)) (dOk_lt rfl) ?_
      simp (config := { maxSteps := 1000000 }) only [dt, hlt, i0, l3, l5, g2, m2, push_cast, ↓Int.toNat_natCast, ↓reduceIte, Nat.reduceEqDiff, Nat.reduceLT, Nat.reduceAdd]
      (repeat (refine And.intro (by first | omega | decide) ?_))
      refine callM_v rfl cb59 rfl (checkCmK (c := c.cm) (fun γ w' hS => ⟨c, rfl, shows_csArgs 1 rfl hok hcm γ w' hS, rfl⟩) (fun γ w' hS => hv.sat hS)) (dOk_lt rfl) ?_
      simp (config := { maxSteps := 1000000 }) only [hck, e0, nx, nm, push_cast, ↓reduceIte, Nat.reduceEqDiff, Nat.reduceLT, Nat.reduceAdd, Int.reduceNeg]
      (repeat (refine And.intro (by first | omega | decide) ?_))
      refine loopK_normal (i + 1) [0, 1, 2, 3] (by show i + 1 ≤ _; omega) (by show cs.length - (i + 1) < cs.length - i; omega) ?_
      simp (config := { maxSteps := 1000000 }) only [vC_forall, vC_ren, push_cast, ↓reduceIte, reduceCtorEq, Nat.reduceEqDiff, Nat.reduceLT, Nat.reduceAdd]
  exact h0.mono fun e w' ⟨_, γ1, _, he, hS⟩ => ⟨he, keeps_below hS.keeps⟩
end Go.Proofs.YtiaeollemmkclaaDoor
