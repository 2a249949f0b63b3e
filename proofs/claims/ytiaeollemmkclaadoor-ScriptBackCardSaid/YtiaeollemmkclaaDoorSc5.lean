import Derived.Test.YtiaeollemmkclaaDoorSc4
import Derived.Test.YtiaeollemmkclaaDoorKn
/- Layer 40 walked: Parse. -/
namespace Go.Proofs.YtiaeollemmkclaaDoor
open Go.RowKit
set_option linter.unusedSimpArgs false
set_option linter.unusedVariables false
/-- Commands whose slices are facts. -/
structure CmsOk (Fs : List Fct) (x : SlV CmR) : Prop where
  f : SlF Fs x (x.l.flatMap cmV)
  few : x.l.length ≤ 1000000
  each : ∀ c ∈ x.l, SlF Fs c.args (c.args.l.map Value.string) ∧ c.args.l.length ≤ 1000000 ∧ c.word.size ≤ 1000000 ∧ ∀ s ∈ c.args.l, s.size ≤ 1000000
/-- A command, by whatever names it is told. -/
def ShowsCm (w0 : World) (ow : Nat → Prop) (hp : List Res) (sv : Sv) (c : CmS) : Prop := ∀ γ w, Sat w0 ow γ hp w → ∃ a : CmR, sv.val γ = .agg (cmV a).toArray ∧ a.Ok w ∧ a.cm = c
theorem checkCmK {w0 : World} {ow : Nat → Prop} {hp : List Res} {sv : Sv} {c : CmS} (h : ShowsCm w0 ow hp sv c) (hv : ∀ γ w, Sat w0 ow γ hp w → Vars w) : CallOK Tryd.prog w0 ow 59 [sv] hp (.x (.a (.v (erV (if chkCm c = true then 0 else 337))))) hp := callOK_v fun γ w hS => by
  obtain ⟨a, e, h1, rfl⟩ := h γ w hS
  show Calls _ _ #[sv.val γ] w _
  rw [e]
  exact checkCm_any a w h1 (hv γ w hS)
theorem Vars.sat2 {w w1 w2 : World} {ow : Nat → Prop} {γ : List Nm} {hp : List Res} (h : Vars w) (h01 : Below w.heap.size w w1) (hS : Sat w1 ow γ hp w2) (ho : ∀ b, ow b → w.heap.size ≤ b) : Vars w2 :=
  h.later (h01.trans (hS.keeps.below h01.size ho))
structure PaR where
  cs : List CmR
  fs : List Fct
def paSv (s : ByteArray) (x : Option PaR) : Sv := match x with
  | none => .t [.a (.v (.slice none 0 0)), .a (.v (.int .i64 (parseF s).2.1)), .a (.v (erV (parseF s).2.2))]
  | some _ => .t [.a (.o 0), .a (.v (.int .i64 0)), .a (.v .nilIface)]
def paHp (x : Option PaR) : List Res := match x with
  | none => []
  | some x => [.onn 115 2 (.c (vC (x.cs.flatMap cmV))), .abs (fctRep x.fs)]
def CsOk (Fs : List Fct) (l : List CmR) : Prop := ∀ c ∈ l, SlF Fs c.args (c.args.l.map Value.string) ∧ c.args.l.length ≤ 1000000 ∧ c.word.size ≤ 1000000 ∧ ∀ s ∈ c.args.l, s.size ≤ 1000000
def PaQ (s : ByteArray) (x : Option PaR) : Prop := match x with
  | none => (parseF s).1 = [] ∧ (parseF s).2.2 ≠ 0
  | some x => parseF s = (x.cs.map CmR.cm, 0, 0) ∧ x.cs.length ≤ 1000 ∧ CsOk x.fs x.cs
attribute [local irreducible] Callable CallOK CallG CallM DrawG LoopG symR symM
attribute [local irreducible] wordsF vC erV chkCm parseGo
set_option maxRecDepth 100000 in
set_option maxHeartbeats 1000000 in
theorem parse_sym (s : ByteArray) (w : World) (hs : s.size ≤ 900000) (hv : Vars w) : Calls Tryd.prog 56 #[.string s] w fun e w' => ∃ (x : Option PaR) (γ1 : List Nm), PaQ s x ∧ e = .returned ((paSv s x).val γ1) ∧ Sat w No γ1 (paHp x) w' := by
  refine calls_ex (n := 52) (PaQ s) (paSv s) paHp Tryd.func56 rfl Tryd.ntmps56 [.x (.a (.v (.string s)))] ((Sat.init w No).fct0 (fun r hr => by cases hr)) (by simp) ?_
  have e5 : erV 5 = .iface 137 (.int .i64 5) := erV_ne (by decide)
  have e337 : erV 337 = .iface 137 (.int .i64 337) := erV_ne (by decide)
  by_cases hlong : (65536 : Int) < s.size
  · have hp : parseF s = ([], 0, 5) := by unfold parseF; exact if_pos (by omega)
    simp (config := { maxSteps := 1000000 }) only [hlong, push_cast, ↓reduceIte, reduceCtorEq, Nat.reduceEqDiff, Nat.reduceLT]
    refine ⟨none, ⟨by rw [hp], by rw [hp]; decide⟩, ?_⟩
    unfold paSv paHp
    rw [hp, ← e5]
    refine endsAs [] ?_
    simp (config := { maxSteps := 1000000 }) only [push_cast, ↓reduceIte]
    done
  have hpf : parseF s = match parseGo 0 (wordsF s) with | some a => ([], (a : Int), 337) | none => ((wordsF s).map fun x => cmOf x.2, 0, 0) := by
    unfold parseF
    rw [if_neg (by omega)]
    rfl
  simp (config := { maxSteps := 1000000 }) only [hlong, push_cast, ↓reduceIte, reduceCtorEq, Nat.reduceLT]
  (repeat (refine And.intro (by first | omega | decide) ?_))
  refine callG_F (WdQ s) (fun x => .t [.a (.v x.at_.val), .a (.v x.rows.val)]) (fun x => x.fs) 0 rfl rfl cb107 rfl (fun γ w' hS => words_any s w' (by omega) (hv.sat hS)) (fun _ _ => rfl) (dOk_lt rfl) (by simp (config := { maxSteps := 1000000 }) only [push_cast]) fun x hx => ?_
  obtain ⟨⟨A1, c1, ats⟩, ⟨A2, c2, rows⟩, F⟩ := x
  obtain ⟨hn, hw, fa, fr, each⟩ := hx
  dsimp only [SlV.val] at hn hw fa fr each ⊢
  have hrl : rows.length = (wordsF s).length := by rw [← List.length_map (f := fun r : SlV ByteArray => r.l), hw, List.length_map]
  have hal : ats.length = rows.length := by rw [hn, List.length_map, hrl]
  have htw := wordsF_le s
  have hwl : ∀ y ∈ wordsF s, wordsW y.2 ≤ s.size + 1 := fun y hy => by
    have : ∀ l : List (List ByteArray), y.2 ∈ l → wordsW y.2 ≤ textW l := fun l => by
      induction l with
      | nil => exact fun h => by cases h
      | cons a r ih =>
        intro h
        unfold textW at ih ⊢
        rw [List.map_cons, List.sum_cons]
        rcases List.mem_cons.1 h with e | h
        · rw [e]; omega
        · have := ih h; omega
    exact Nat.le_trans (this _ (List.mem_map_of_mem hy)) htw
  have hlen : (wordsF s).length ≤ s.size + 1 := by
    have : ∀ l : List (List ByteArray), (∀ x ∈ l, x ≠ []) → l.length ≤ textW l := fun l => by
      induction l with
      | nil => exact fun _ => Nat.le_refl _
      | cons a r ih =>
        intro h
        have h1 := ih fun x hx => h x (List.mem_cons_of_mem _ hx)
        have h2 := (wordsW_len a).1
        have h3 := List.length_pos_iff.2 (h a (List.mem_cons_self ..))
        unfold textW at h1 ⊢
        rw [List.map_cons, List.sum_cons, List.length_cons]
        omega
    have h2 := this ((wordsF s).map (·.2)) (fun x hx => by
      obtain ⟨y, hy, rfl⟩ := List.mem_map.1 hx
      have : wordsF s = wordsGo 0 (linesOf s) := by unfold wordsF; rfl
      rw [this] at hy
      exact (wordsGo_ne _ _ y hy).1)
    rw [List.length_map] at h2
    exact Nat.le_trans h2 htw
  have hne : ∀ y ∈ wordsF s, y.2 ≠ [] := fun y hy => by
    have : wordsF s = wordsGo 0 (linesOf s) := by unfold wordsF; rfl
    rw [this] at hy
    exact (wordsGo_ne _ _ y hy).1
  generalize wordsF s = ws at *
  simp (config := { maxSteps := 1000000 }) only [push_cast, ↓reduceIte, Nat.reduceEqDiff, Nat.reduceLT]
  refine loop_ghostN 5 115 2 (.c []) (by omega) rfl rfl (by simp (config := { maxSteps := 1000000 }) only [push_cast]) ?_
  simp (config := { maxSteps := 1000000 }) only [push_cast]
  refine loop_fct (by simp (config := { maxSteps := 1000000 }) only [push_cast, Nat.reduceLT, Nat.reduceAdd]) ?_
  simp (config := { maxSteps := 1000000 }) only [push_cast]
  refine loop_leads (leads_le (s' := ⟨[(5, .x (.a (.o 0))), (6, .x (.a (.v (.slice A1 ats.length c1)))), (20, .x (.a (.v (.slice A2 rows.length c2)))), (21, .x (.a (.v (.int .i64 rows.length)))), (22, .x (.a (.v (.int .i64 0))))], [.onn 115 2 (.c []), .abs (fctRep []), .abs (fctRep F)]⟩) [1, 2, 0] (by simp (config := { maxSteps := 1000000 }) only [push_cast, ↓reduceIte, reduceCtorEq, Nat.reduceEqDiff, Nat.reduceLT, Nat.reduceAdd])) ?_
  refine loop_frame (A := [.onn 115 2 (.c []), .abs (fctRep [])]) (M := [.abs (fctRep F)]) [5, 6, 20, 21, 22] rfl (by show 0 < 2; omega) (by simp (config := { maxSteps := 1000000 }) only [push_cast, Nat.reduceAdd]) (by simp (config := { maxSteps := 1000000 }) only [push_cast, Nat.reduceLT, Nat.reduceAdd]) (by
    show ∀ x ∈ _, Sv.bnd 2 _
    simp (config := { maxSteps := 1000000 }) only [push_cast, ↓reduceIte, Nat.reduceEqDiff, Nat.reduceLT]) (fun q hq => by rw [List.mem_singleton.1 hq]; trivial) fun γ' w1 hS1 => ?_
  have hS2 : Sat w No γ' ([.onn 115 2 (.c []), .abs (fctRep [])] ++ [.abs (fctRep F)]) w1 := hS1
  have hkn := known_M hS2 (k := 0) rfl
  obtain ⟨ow1, how1⟩ : ∃ ow1 : Nat → Prop, ow1 = fun b => ∃ (k : Nat) (q : Res), ([.onn 115 2 (.c []), .abs (fctRep [])] : List Res)[k]? = some q ∧ q.has γ' k b := ⟨_, rfl⟩
  have hown : ∀ b, ow1 b → w.heap.size ≤ b := fun b hb => by
    rw [how1] at hb
    obtain ⟨k, q, h1, h2⟩ := hb
    exact ((hS2.mine k q b (by rw [List.getElem?_append_left (lt_of_get h1)]; exact h1) h2).1).elim (fun h => h.elim) id
  have hb01 : Below w.heap.size w w1 := keeps_below hS2.keeps
  have hvf : ∀ {hp : List Res} (γ : List Nm) (w2 : World), Sat w1 ow1 γ hp w2 → Vars w2 := fun γ w2 hS => hv.sat2 hb01 hS hown
  rw [← how1] at hkn ⊢
  clear how1 hS1 hS2
  obtain ⟨ac, fwA⟩ := hkn.fw (s := ⟨A1, c1, ats⟩) (.inr fa) (fun e => by injection e with _ _ e; rw [e]; rfl)
  obtain ⟨rc, fwR⟩ := hkn.fw (s := ⟨A2, c2, rows⟩) (.inr fr) (fun e => by injection e with _ _ e; rw [e]; rfl)
  have FA := fwA.fv
  have FR := fwR.fv
  refine loop_rule (ι := Nat × List CmR × List Fct) (fun x => ⟨[(5, .x (.a (.o 0))), (6, .x (.a (.v (.slice A1 ats.length c1)))), (20, .x (.a (.v (.slice A2 rows.length c2)))), (21, .x (.a (.v (.int .i64 rows.length)))), (22, .x (.a (.v (.int .i64 (x.1 : Nat)))))], [.onn 115 2 (.c (vC (x.2.1.flatMap cmV))), .abs (fctRep x.2.2)]⟩)
    (fun x => x.1 ≤ rows.length ∧ x.1 ≤ 1000 ∧ x.2.1.map CmR.cm = (ws.take x.1).map (fun y => cmOf y.2) ∧ parseGo 0 ws = parseGo x.1 (ws.drop x.1) ∧ CsOk x.2.2 x.2.1) (fun x => rows.length - x.1) (0, [], []) [0, 1] ⟨Nat.zero_le _, Nat.zero_le _, rfl, rfl, fun c h => by cases h⟩ ?_ ?_
  · have e0 : vC (([] : List CmR).flatMap cmV) = [] := by unfold vC; rfl
    simp (config := { maxSteps := 1000000 }) only [e0, push_cast, ↓Int.cast_ofNat_Int, Int.cast_ofNat_Int, ↓reduceIte, reduceCtorEq, Nat.reduceEqDiff, Nat.reduceLT, Nat.reduceAdd]
    done
  rintro ⟨i, cs, Gs⟩ ⟨hi, hi2, hcm, hgo, hcs⟩
  dsimp only at hi hi2 hcm hgo hcs ⊢
  have hcl : cs.length = i := by
    rw [← List.length_map (f := CmR.cm), hcm, List.length_map, List.length_take]
    omega
  by_cases hlt : (i : Int) < rows.length
  case neg =>
    obtain rfl : i = rows.length := by omega
    rw [List.drop_of_length_le (by omega), parseGo] at hgo
    rw [List.take_of_length_le (by omega)] at hcm
    rw [hgo] at hpf
    dsimp only at hpf
    simp (config := { maxSteps := 1000000 }) only [hlt, push_cast, ↓reduceIte, Nat.reduceEqDiff, Nat.reduceLT, Nat.reduceAdd]
    refine ⟨[.onn 115 2 (.c (vC (cs.flatMap cmV))), .abs (fctRep Gs)], [], [5], rfl, rfl, ?_, ?_, ?_⟩
    · show ∀ x ∈ _, Res.bnd 2 x
      simp (config := { maxSteps := 1000000 }) only [vC_forall, push_cast]
    · show ∀ x ∈ _, Sv.bnd 2 _
      simp (config := { maxSteps := 1000000 }) only [push_cast, ↓reduceIte, Nat.reduceEqDiff, Nat.reduceLT]
    simp (config := { maxSteps := 1000000 }) only [push_cast, ↓reduceIte, Nat.reduceEqDiff, Nat.reduceAdd]
    refine ⟨some ⟨cs, Gs⟩, ⟨by rw [hpf, hcm], by show cs.length ≤ 1000; omega, hcs⟩, ?_⟩
    unfold paSv paHp
    refine endsAs [0, 1] ?_
    simp (config := { maxSteps := 1000000 }) only [vC_forall, vC_ren, push_cast, ↓reduceIte, reduceCtorEq, Nat.reduceLT, Nat.reduceAdd]
    done
  have hil : i < rows.length := by omega
  obtain ⟨r, hr⟩ : ∃ r, rows[i]? = some r := ⟨_, List.getElem?_eq_getElem hil⟩
  obtain ⟨y, hy⟩ : ∃ y, ws[i]? = some y := ⟨_, List.getElem?_eq_getElem (by omega)⟩
  have hrm := List.mem_of_getElem? hr
  have hym := List.mem_of_getElem? hy
  have hry : r.l = y.2 := by
    have h1 : (rows.map (·.l))[i]? = some r.l := by rw [List.getElem?_map, hr]; rfl
    rw [hw, List.getElem?_map, hy] at h1
    exact (Option.some.inj h1).symm
  obtain ⟨wd, args, hwa⟩ : ∃ wd args, r.l = wd :: args := by
    cases hx : r.l with
    | nil => exact absurd (hry.symm.trans hx) (hne y hym)
    | cons a b => exact ⟨a, b, rfl⟩
  have hcm0 : cmOf y.2 = ⟨wd, args⟩ := by rw [← hry, hwa]; rfl
  have hat : ats[i]? = some (y.1 : Int) := by rw [hn, List.getElem?_map, hy]; rfl
  have hyw := hwl y hym
  rw [← hry, hwa] at hyw
  obtain ⟨hwl1, hwl2⟩ := wordsW_len (wd :: args)
  rw [List.length_cons] at hwl1
  have hwd : wd.size ≤ 1000000 := by have := hwl2 wd (List.mem_cons_self ..); omega
  have hasz : ∀ s ∈ args, s.size ≤ 1000000 := fun s hs => by have := hwl2 s (List.mem_cons_of_mem _ hs); omega
  obtain ⟨rcap, fwr⟩ := hkn.fw (s := r) (.inr (each r hrm)) (fun e => by rw [e]; rfl)
  have hlr : r.l.length = args.length + 1 := by rw [hwa]; rfl
  obtain ⟨q1, o1⟩ := FR.cell (i := i) (u := r.val) (by rw [List.getElem?_map, hr]; rfl)
  have q1 : cellOf w1 (pAdd A2 i) = .slice r.A r.l.length r.c := q1
  obtain ⟨q2, o2⟩ := fwr.fv.cell (i := 0) (u := .string wd) (by rw [hwa]; rfl)
  rw [pAdd_zero] at q2 o2
  have hA2 := FR.some_ (by rw [List.length_map]; omega)
  have hrA := fwr.fv.some_ (by rw [List.length_map]; omega)
  have fwc := (Sub.drop r.A (r.l.map Value.string) 1 r.c (by rw [List.length_map]; exact rcap)).fw fwr
  rw [← List.map_drop, hwa] at fwc
  have fwc : FW w1 ow1 (pCut r.A 1 r.c) (args.map Value.string) := fwc
  obtain ⟨v1, v2⟩ := rdV_of fwc.fv
  rw [List.length_map] at v1
  have hn1 : r.l.length - 1 = args.length := by omega
  have v3 : ∀ x ∈ args.map Value.string, x.oneCell' = true := fun x hx => by
    obtain ⟨s, _, rfl⟩ := List.mem_map.1 hx
    rfl
  have i0 : (0 : Int) ≤ i := by omega
  have nx : (i : Int) + 1 ≤ 9223372036854775807 := by omega
  have nm : -9223372036854775808 ≤ (i : Int) + 1 := by omega
  have hr0 : (0 : Int) < r.l.length := by omega
  have hr1 : (1 : Int) ≤ r.l.length := by omega
  have hlc : (r.l.length : Int) ≤ r.c := by omega
  have hc1 : (1 : Int) ≤ r.c := by omega
  have b1 : args.length * 16 ≤ 140737488355328 := by omega
  have b2 : args.length ≤ 2 ^ 63 - 1 := by omega
  have hdr : ws.drop i = y :: ws.drop (i + 1) := by rw [List.drop_eq_getElem_cons (by omega : i < ws.length)]; congr 1; exact Option.some.inj ((List.getElem?_eq_getElem _).symm.trans hy)
  rw [hdr, parseGo, hcm0] at hgo
  simp (config := { maxSteps := 1000000 }) only [hlt, i0, q1, o1, hA2, push_cast, ↓Int.toNat_natCast, ↓reduceIte, reduceCtorEq, Nat.reduceEqDiff, Nat.reduceLT, Nat.reduceAdd]
  (repeat (refine And.intro (by first | omega | decide) ?_))
  refine drawVT_rule 2 [] 8 (.rd 0 (.rd 1 (.rd 2 (.rd 3 (.rd 4 (.fk 5 (.fk 6 (.wr 7 .nil) 7 (.wr 6 .nil)) 7 (.wr 5 (.wr 6 .nil)))))))) ⟨[(5, .x (.a (.o 0))), (6, .x (.a (.v (.slice A1 ats.length c1)))), (20, .x (.a (.v (.slice A2 rows.length c2)))), (21, .x (.a (.v (.int .i64 rows.length)))), (22, .x (.a (.v (.int .i64 (i : Nat))))), (8, .x (.a (.v (.int .i64 (i : Nat))))), (33, .x (.g [.v (.string wd), .o 2])), (10, .x (.a (.p 3 0)))], [.onn 115 2 (.c (vC (cs.flatMap cmV))), .abs (fctRep Gs), .own 9 (.vs (args.map Value.string)), .blk 115 (.c [.v (.string ByteArray.empty), .v (.slice none 0 0)])]⟩ (by kernel_rfl) (by kernel_rfl) (by show 2 ≤ 2; omega) ?_ ?_
  · simp (config := { maxSteps := 1000000 }) only [hr0, hr1, hlc, hrA, q2, o2, hn1, v1, v2, List.forall_mem_map, implies_true, b1, b2, pAdd_zero, push_cast, ↓Int.toNat_natCast, ↓reduceIte, reduceCtorEq, Nat.reduceEqDiff, Nat.reduceLT, Nat.reduceAdd, Nat.reduceSub, Int.reduceLE, Int.reduceToNat]
    (repeat (refine And.intro (by first | omega | decide) ?_))
    refine ⟨⟨leads_le [0, 1, 2, 3] ?_, leads_le [0, 1, 2, 3] ?_⟩, leads_le [0, 1, 3, 2] ?_⟩
    all_goals simp (config := { maxSteps := 1000000 }) only [vC_forall, vC_ren, push_cast, ↓reduceIte, reduceCtorEq, Nat.reduceEqDiff, Nat.reduceLT, Nat.reduceAdd]
  have hat2 : (ats.map (Value.int .i64))[i]? = some (.int .i64 (y.1 : Int)) := by rw [List.getElem?_map, hat]; rfl
  obtain ⟨q3, o3⟩ := FA.cell hat2
  have hA1 := FA.some_ (by rw [List.length_map]; omega)
  have hil2 : (i : Int) < ats.length := by omega
  have toErr : (1000 ≤ i ∨ chkCm ⟨wd, args⟩ = false) → parseF s = ([], (y.1 : Int), 337) := fun h => by
    rw [if_pos h] at hgo
    rw [hgo] at hpf
    rw [hpf]
  by_cases h1000 : (1000 : Int) ≤ i
  · have hp := toErr (.inl (by omega))
    simp (config := { maxSteps := 1000000 }) only [h1000, undef, push_cast, ↓reduceIte, Nat.reduceEqDiff, Nat.reduceLT, Nat.reduceAdd]
    refine draw_rule [(0, true), (1, true), (2, true), (3, true), (4, true), (5, true), (6, true), (7, true)] (by kernel_rfl) (by kernel_rfl) rfl (by kernel_rfl) ?_
    simp (config := { maxSteps := 1000000 }) only [i0, q3, o3, hA1, hil2, push_cast, ↓Int.toNat_natCast, ↓reduceIte, reduceCtorEq, Nat.reduceEqDiff, Nat.reduceLT, Nat.reduceAdd]
    (repeat (refine And.intro (by first | omega | decide) ?_))
    refine ⟨[.onn 115 2 (.c (vC (cs.flatMap cmV))), .abs (fctRep Gs)], _, [2, 3, 4], rfl, rfl, ?_, ?_, ?_⟩
    · show ∀ x ∈ _, Res.bnd 2 x
      simp (config := { maxSteps := 1000000 }) only [vC_forall, push_cast]
    · show ∀ x ∈ _, Sv.bnd 2 _
      simp (config := { maxSteps := 1000000 }) only [push_cast, ↓reduceIte, Nat.reduceEqDiff]
    simp (config := { maxSteps := 1000000 }) only [push_cast, ↓reduceIte, Nat.reduceEqDiff]
    refine ⟨none, ⟨by rw [hp], by rw [hp]; exact (show (337 : Int) ≠ 0 by decide)⟩, ?_⟩
    unfold paSv paHp
    rw [hp]
    refine endsAs [] ?_
    simp (config := { maxSteps := 1000000 }) only [e337, push_cast, ↓reduceIte]
    done
  have sh : ∀ {hp : List Res}, hp[2]? = some (.own 9 (.vs (args.map Value.string))) → ShowsCm w1 ow1 hp (.x (.g [.v (.string wd), .o 2])) ⟨wd, args⟩ := fun hr γ w2 hS => by
    obtain ⟨A, c, e, h1, h2⟩ := shows_own (w0 := w1) (ow := ow1) (vs := args.map Value.string) hr (fun _ => rfl) γ w2 hS
    rw [List.length_map] at e h1
    have e : nmS γ 2 = .slice A args.length c := e
    refine ⟨⟨wd, ⟨A, c, args⟩⟩, ?_, ⟨h1, by show args.length ≤ _; omega, h2, hwd, hasz⟩, rfl⟩
    show Value.agg #[_, nmS γ 2] = _
    rw [e]
    rfl
  simp (config := { maxSteps := 1000000 }) only [h1000, undef, push_cast, ↓reduceIte, Nat.reduceEqDiff, Nat.reduceLT, Nat.reduceAdd]
  (repeat (refine And.intro (by first | omega | decide) ?_))
  refine callG_v rfl cb59 rfl (checkCmK (sh rfl) hvf) (dOk_lt rfl) ?_
  cases hck : chkCm ⟨wd, args⟩ with
  | false =>
    have hp := toErr (.inr hck)
    simp (config := { maxSteps := 1000000 }) only [Bool.false_eq_true, e337, push_cast, ↓reduceIte, Nat.reduceEqDiff, Nat.reduceLT, Nat.reduceAdd]
    refine draw_rule [(0, true), (1, true), (2, true), (3, true), (4, true), (5, true), (6, true), (7, true)] (by kernel_rfl) (by kernel_rfl) rfl (by kernel_rfl) ?_
    simp (config := { maxSteps := 1000000 }) only [i0, q3, o3, hA1, hil2, push_cast, ↓Int.toNat_natCast, ↓reduceIte, reduceCtorEq, Nat.reduceEqDiff, Nat.reduceLT, Nat.reduceAdd]
    (repeat (refine And.intro (by first | omega | decide) ?_))
    refine ⟨[.onn 115 2 (.c (vC (cs.flatMap cmV))), .abs (fctRep Gs)], _, [2, 3, 4], rfl, rfl, ?_, ?_, ?_⟩
    · show ∀ x ∈ _, Res.bnd 2 x
      simp (config := { maxSteps := 1000000 }) only [vC_forall, push_cast]
    · show ∀ x ∈ _, Sv.bnd 2 _
      simp (config := { maxSteps := 1000000 }) only [push_cast, ↓reduceIte, Nat.reduceEqDiff]
    simp (config := { maxSteps := 1000000 }) only [push_cast, ↓reduceIte, Nat.reduceEqDiff]
    refine ⟨none, ⟨by rw [hp], by rw [hp]; exact (show (337 : Int) ≠ 0 by decide)⟩, ?_⟩
    unfold paSv paHp
    rw [hp]
    refine endsAs [] ?_
    simp (config := { maxSteps := 1000000 }) only [e337, push_cast, ↓reduceIte]
    done
  | true =>
    have ez := erV_zero
    have hgo2 : parseGo 0 ws = parseGo (i + 1) (ws.drop (i + 1)) := by
      rw [hgo, if_neg]
      rintro (h | h)
      · omega
      · rw [hck] at h; cases h
    have hvl : (cs.flatMap cmV).length = i * 2 := by rw [flat_len cmV_len, hcl]
    have e3 : i * 2 / 2 = i := Nat.mul_div_cancel _ (by omega)
    have b3 : (i + 1) * 40 ≤ 140737488355328 := by omega
    have b4 : i + 1 ≤ 2 ^ 63 - 1 := by omega
    simp (config := { maxSteps := 1000000 }) only [ez, nx, nm, hvl, e3, b3, b4, vC_len, push_cast, ↓reduceIte, Nat.reduceEqDiff, Nat.reduceLT, Nat.reduceLeDiff, Nat.reduceAdd, Nat.reduceMul, Int.reduceNeg]
    (repeat (refine And.intro (by first | omega | decide) ?_))
    refine loopK_absorb 2 1 (vs := args.map Value.string) rfl (fun _ => rfl) rfl (by decide) fun A3 cap3 h1 h2 => ?_
    rw [List.length_map] at h1
    have ln : (args.map Value.string).length = args.length := List.length_map ..
    have e4 : ([(⟨wd, ⟨A3, cap3, args⟩⟩ : CmR)].flatMap cmV) = [.string wd, .slice A3 args.length cap3] := rfl
    have e5' : vC [.string wd, .slice A3 args.length cap3] = [.v (.string wd), .v (.slice A3 args.length cap3)] := by unfold vC; rfl
    refine loopK_normal (i + 1, cs ++ [(⟨wd, ⟨A3, cap3, args⟩⟩ : CmR)], Gs ++ [⟨.slice A3 args.length cap3, args.length, args.map Value.string⟩]) [5, 1] ⟨by show i + 1 ≤ _; omega, by show i + 1 ≤ 1000; omega, ?_, hgo2, fun x hx => ?_⟩ (by show rows.length - (i + 1) < rows.length - i; omega) ?_
    · show (cs ++ [_]).map CmR.cm = _
      rw [List.map_append, hcm, List.take_add_one, hy, Option.toList_some, List.map_append]
      congr 1
      show [CmR.cm _] = [cmOf y.2]
      rw [hcm0]
      rfl
    · rcases List.mem_append.1 hx with hx | hx
      · have := hcs x hx
        exact ⟨this.1.left, this.2⟩
      · rw [List.mem_singleton.1 hx]
        exact ⟨.inr (List.mem_append_right _ (List.mem_singleton.2 rfl)), by show args.length ≤ _; omega, hwd, hasz⟩
    · simp (config := { maxSteps := 1000000 }) only [List.flatMap_append, e4, vC_app, e5', vC_sub, vC_ren, ln, push_cast, ↓reduceIte, reduceCtorEq, Nat.reduceEqDiff, Nat.reduceLT, Nat.reduceAdd]
end Go.Proofs.YtiaeollemmkclaaDoor
