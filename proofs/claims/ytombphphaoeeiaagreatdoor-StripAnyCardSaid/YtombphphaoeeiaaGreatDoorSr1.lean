import Derived.Test.YtombphphaoeeiaaGreatDoorSt1
import Derived.Test.YtombphphaoeeiaaGreatDoorSrI
import Derived.Test.YtombphphaoeeiaaGreatDoorRh
import Derived.Test.YtombphphaoeeiaaGreatDoorBl4
/- Layer 15: sets out of two, what is in, what may be. -/
namespace Go.Proofs.YtombphphaoeeiaaGreatDoor
open Go.RowKit
set_option linter.unusedSimpArgs false
set_option linter.unusedVariables false
theorem hasF_yes {l : List Int} {n : Int} (h : 0 ≤ n ∧ n < 64) : hasF l n = decide (shr64 (bitsF l) n.toNat &&& 1 = 1) := by
  unfold hasF bitT
  rw [decide_eq_true h, Bool.true_and]
theorem hasF_no {l : List Int} {n : Int} (h : ¬ (0 ≤ n ∧ n < 64)) : hasF l n = false := by
  unfold hasF
  rw [decide_eq_false h, Bool.false_and]
attribute [local irreducible] Callable CallOK CallG CallM DrawG LoopG symR symM
attribute [local irreducible] bitsF fromF canF hasF chkS
section
variable {w0 : World} {ow : Nat → Prop} {hp : List Res} {a b : List Int} {s1 s2 : Sv}
set_option maxRecDepth 100000 in
theorem has_any (l : List Int) (n : Int) (A : Option Addr) (c : Nat) (w : World) (hm : l.length ≤ 1000000) (hc : l.length ≤ c) (hR : RdV w w.heap.size A (l.map (Value.int .i64))) :
    Calls Tryz.prog 22 #[.slice A l.length c, .int .i64 n] w fun e w' => e = .returned (.bool (hasF l n)) ∧ Below w.heap.size w w' := by
  refine calls_v (n := 15) Tryz.func22 rfl Tryz.ntmps22 [.x (.a (.v (.slice A l.length c))), .x (.a (.v (.int .i64 n)))] (by simp) (.x (.a (.v (.bool (hasF l n))))) (fun _ => rfl) ?_
  simp (config := { maxSteps := 1000000 }) only [push_cast, ↓reduceIte, reduceCtorEq, Nat.reduceEqDiff, Nat.reduceLT]
  (repeat (refine And.intro (by first | omega | decide) ?_))
  refine callG_v rfl cb42 rfl (canK _) (dOk_lt rfl) ?_
  by_cases h : 0 ≤ n ∧ n < 64
  · have hd := canF_yes h
    have hh := hasF_yes (l := l) h
    simp (config := { maxSteps := 1000000 }) only [hd, push_cast, ↓reduceIte, reduceCtorEq, Nat.reduceEqDiff, Nat.reduceLT]
    (repeat (refine And.intro (by first | omega | decide) ?_))
    refine callG_v rfl cb43 rfl (bitsK hm (shows_raw hR _ _ (by simp) hc)) (dOk_lt rfl) ?_
    obtain ⟨h1, h2⟩ := h
    simp (config := { maxSteps := 1000000 }) only [h1, hh, push_cast, ↓reduceIte, reduceCtorEq, Nat.reduceEqDiff, Nat.reduceLT]
    done
  · have hd := canF_no h
    have hh := hasF_no (l := l) h
    simp (config := { maxSteps := 1000000 }) only [hd, hh, undef, push_cast, ↓reduceIte, Nat.reduceEqDiff, Nat.reduceLT]
    done
theorem hasK {sv : Sv} {l : List Int} (n : Int) (hm : l.length ≤ 1000000) (h : Shows w0 ow hp sv (l.map (Value.int .i64))) : CallOK Tryz.prog w0 ow 22 [sv, .x (.a (.v (.int .i64 n)))] hp (.x (.a (.v (.bool (hasF l n))))) hp := callOK_v fun γ w hS => by
  obtain ⟨A, c, e1, b1, r1⟩ := h γ w hS
  rw [List.length_map] at e1 b1
  show Calls _ _ #[sv.val γ, _] w _
  rw [e1]
  exact has_any l n A c w hm b1 r1
/-- An error, or none. -/
def okV (b : Bool) (n : Int) : Value := if b = true then .nilIface else .iface 63 (.int .i64 n)
theorem okV_true (n : Int) : okV true n = .nilIface := rfl
theorem okV_false (n : Int) : okV false n = .iface 63 (.int .i64 n) := rfl
attribute [local irreducible] okV
set_option maxRecDepth 100000 in
theorem check_any (l : List Int) (A : Option Addr) (c : Nat) (w : World) (hm : l.length ≤ 1000000) (hR : RdV w w.heap.size A (l.map (Value.int .i64))) :
    Calls Tryz.prog 37 #[.slice A l.length c] w fun e w' => e = .returned (okV (chkS (-1) l) 1) ∧ Below w.heap.size w w' := by
  have F := FM.of hR
  refine calls_v (n := 23) Tryz.func37 rfl Tryz.ntmps37 [.x (.a (.v (.slice A l.length c)))] (by simp) (.x (.a (.v (okV (chkS (-1) l) 1)))) (fun _ => rfl) ?_
  simp (config := { maxSteps := 1000000 }) only [push_cast, ↓reduceIte, reduceCtorEq, Nat.reduceLT, Int.reduceNeg]
  refine loop_rule (ι := Nat × Int) (fun x => ⟨[(3, .x (.a (.v (.int .i64 x.2)))), (6, .x (.a (.v (.slice A l.length c)))), (7, .x (.a (.v (.int .i64 l.length)))), (8, .x (.a (.v (.int .i64 (x.1 : Nat)))))], []⟩) (fun x => x.1 ≤ l.length ∧ chkS (-1) l = chkS x.2 (l.drop x.1)) (fun x => l.length - x.1) (0, -1) [] ⟨Nat.zero_le _, rfl⟩ ?_ ?_
  · simp (config := { maxSteps := 1000000 }) only [push_cast, ↓Int.cast_ofNat_Int, Int.cast_ofNat_Int, ↓reduceIte, Nat.reduceEqDiff, Int.reduceNeg]
  rintro ⟨i, last⟩ ⟨hi, hk⟩
  dsimp only at hi hk
  by_cases hlt : (i : Int) < l.length
  · have hil : i < l.length := by omega
    have i0 : (0 : Int) ≤ i := by omega
    have c0 := F.cell i hil
    have o0 := F.ok i hil
    have hA := F.some_ (by omega)
    have hd : l.drop i = ix l i :: l.drop (i + 1) := by
      rw [List.drop_eq_getElem_cons hil, ix, List.getD_eq_getElem?_getD, List.getElem?_eq_getElem hil]; rfl
    rw [hd, chkS] at hk
    generalize ix l i = n at *
    have nx : (i : Int) + 1 ≤ 9223372036854775807 := by omega
    by_cases hle : n ≤ last
    · rw [if_pos (.inl hle)] at hk
      have hf := okV_false 1
      simp (config := { maxSteps := 1000000 }) only [hlt, i0, c0, o0, hA, hle, hk, hf, undef, push_cast, ↓Int.toNat_natCast, ↓reduceIte, reduceCtorEq, Nat.reduceEqDiff, Nat.reduceLT, Int.reduceNeg]
      done
    · simp (config := { maxSteps := 1000000 }) only [hlt, i0, c0, o0, hA, hle, push_cast, ↓Int.toNat_natCast, ↓reduceIte, reduceCtorEq, Nat.reduceEqDiff, Nat.reduceLT, Int.reduceNeg]
      (repeat (refine And.intro (by first | omega | decide) ?_))
      refine callG_v rfl cb42 rfl (canK _) (dOk_lt rfl) ?_
      by_cases h : 0 ≤ n ∧ n < 64
      · rw [if_neg (by intro e; rcases e with e | e; exact hle e; exact e h)] at hk
        have hc := canF_yes h
        simp (config := { maxSteps := 1000000 }) only [hc, push_cast, ↓reduceIte, Nat.reduceEqDiff, Nat.reduceLT, Int.reduceNeg]
        (repeat (refine And.intro (by first | omega | decide) ?_))
        refine loopK_normal (i + 1, n) [] ⟨by show i + 1 ≤ l.length; omega, hk⟩ (by show l.length - (i + 1) < l.length - i; omega) ?_
        simp (config := { maxSteps := 1000000 }) only [push_cast, ↓reduceIte, Nat.reduceEqDiff]
        done
      · rw [if_pos (.inr h)] at hk
        have hc := canF_no h
        have hf := okV_false 1
        simp (config := { maxSteps := 1000000 }) only [hc, hk, hf, push_cast, ↓reduceIte, Nat.reduceEqDiff, Nat.reduceLT, Int.reduceNeg]
        done
  · obtain rfl : i = l.length := by omega
    rw [List.drop_length, chkS] at hk
    have hf := okV_true 1
    simp (config := { maxSteps := 1000000 }) only [hlt, hk, hf, push_cast, ↓reduceIte, Nat.reduceEqDiff, Nat.reduceLT, Int.reduceNeg]
    done
theorem checkK {sv : Sv} {l : List Int} (hm : l.length ≤ 1000000) (h : Shows w0 ow hp sv (l.map (Value.int .i64))) : CallOK Tryz.prog w0 ow 37 [sv] hp (.x (.a (.v (okV (chkS (-1) l) 1)))) hp := callOK_v fun γ w hS => by
  obtain ⟨A, c, e1, b1, r1⟩ := h γ w hS
  rw [List.length_map] at e1
  show Calls _ _ #[sv.val γ] w _
  rw [e1]
  exact check_any l A c w hm r1
end
end Go.Proofs.YtombphphaoeeiaaGreatDoor
/- Groups as they lie there: peers, who came, and a map of lists; rows that are cloned; places of shares; sets less others. -/
namespace Go.Proofs.YtombphphaoeeiaaGreatDoor
open Go.RowKit
set_option linter.unusedSimpArgs false
set_option linter.unusedVariables false
attribute [local irreducible] Callable CallOK CallG CallM DrawG LoopG symR symM
/-- What one gave: a list that lies there. -/
structure GvE where
  id : Int
  A : Option Addr
  c : Nat
  l : List UInt64
deriving Inhabited
def GvE.val (e : GvE) : Value := .slice e.A e.l.length e.c
/-- A group that lies there. -/
structure Grp where
  pA : Option Addr
  pc : Nat
  ps : List Pr
  cA : Option Addr
  cc : Nat
  cm : List Int
  nd : Int
  mo : Option Nat
  gv : List GvE
deriving Inhabited
def Grp.mL (G : Grp) : List (Int × Value) := G.gv.map fun e => (e.id, e.val)
def Grp.gr (G : Grp) : Gr := ⟨G.ps, G.cm, G.nd, G.gv.map fun e => (e.id, e.l)⟩
def Grp.cells (G : Grp) : List At := [.v (.slice G.pA G.ps.length G.pc), .v (.slice G.cA G.cm.length G.cc), .v (.int .i64 G.nd), .v (.map G.mo)]
def Grp.vals (G : Grp) : List Value := [.slice G.pA G.ps.length G.pc, .slice G.cA G.cm.length G.cc, .int .i64 G.nd, .map G.mo]
theorem Grp.vals_len (G : Grp) : G.vals.length = 4 := rfl
def grVs (l : List Grp) : List Value := l.flatMap Grp.vals
theorem grVs_len (l : List Grp) : (grVs l).length = l.length * 4 := flat_len Grp.vals_len l
structure Grp.Ok (w : World) (G : Grp) : Prop where
  pl : G.ps.length ≤ G.pc
  pR : RdV w w.heap.size G.pA (pvs G.ps)
  cl : G.cm.length ≤ G.cc
  cR : RdV w w.heap.size G.cA (G.cm.map vI64)
  m : RawG w (.map G.mo) .i64 G.mL
  e : ∀ e ∈ G.gv, e.l.length ≤ e.c ∧ RdV w w.heap.size e.A (e.l.map vU64)
  nd : (G.gv.map GvE.id).Nodup
  few : G.ps.length ≤ 1000 ∧ G.cm.length ≤ 1000 ∧ G.gv.length ≤ 1000 ∧ ∀ e ∈ G.gv, e.l.length ≤ 1000
theorem rdV_later {w0 w : World} {γ : List Nm} {hp : List Res} {A : Option Addr} {vs : List Value} (h : RdV w0 w0.heap.size A vs) (hS : Sat w0 No γ hp w) : RdV w w.heap.size A vs :=
  (h.below (keeps_below hS.keeps)).more (keeps_below hS.keeps).size
theorem Grp.Ok.later {w0 w : World} {γ : List Nm} {hp : List Res} {G : Grp} (h : G.Ok w0) (hS : Sat w0 No γ hp w) : G.Ok w :=
  ⟨h.pl, rdV_later h.pR hS, h.cl, rdV_later h.cR hS, rawG_later h.m hS, fun e he => ⟨(h.e e he).1, rdV_later (h.e e he).2 hS⟩, h.nd, h.few⟩
def Grp.sv (G : Grp) : Sv := .x (.g G.cells)
theorem Grp.keys (G : Grp) : G.gr.gv.map (·.1) = G.gv.map GvE.id := by
  show (G.gv.map fun e => (e.id, e.l)).map (·.1) = _
  rw [List.map_map]
  rfl
theorem Grp.gvlen (G : Grp) : G.gr.gv.length = G.gv.length := List.length_map ..
theorem Grp.mLlen (G : Grp) : G.mL.length = G.gv.length := List.length_map ..
theorem Grp.mL_at (G : Grp) {i : Nat} {p : Int × Value} (h : G.mL[i]? = some p) : ∃ e ∈ G.gv, i < G.gv.length ∧ p = (e.id, e.val) ∧ ix G.gr.gv i = (e.id, e.l) ∧ G.gv[i]? = some e := by
  unfold Grp.mL at h
  rw [List.getElem?_map] at h
  cases hg : G.gv[i]? with
  | none => rw [hg] at h; cases h
  | some e =>
    rw [hg] at h
    have hi := (List.getElem?_eq_some_iff.1 hg).1
    refine ⟨e, List.mem_of_getElem? hg, hi, (Option.some.inj h).symm, ?_, rfl⟩
    have hx : i < G.gr.gv.length := by rw [G.gvlen]; exact hi
    rw [ix_getG hx]
    show (G.gv.map fun e => (e.id, e.l))[i]'(by simpa using hi) = _
    rw [List.getElem_map]
    have := (List.getElem?_eq_some_iff.1 hg).2
    rw [this]
def ShowsG (w0 : World) (hp : List Res) (sv : Sv) (g : Gr) : Prop := ∀ γ w, Sat w0 No γ hp w → ∃ G : Grp, sv.val γ = .agg G.vals.toArray ∧ G.Ok w ∧ G.gr = g
theorem showsG_raw {w0 : World} {hp : List Res} {G : Grp} (h : G.Ok w0) : ShowsG w0 hp G.sv G.gr := fun γ w hS => ⟨G, rfl, h.later hS, rfl⟩
/-! ### A place of shares; a clone; a set less another one -/
set_option maxRecDepth 100000 in
theorem at_any (n : Int) (w : World) : Calls Tryz.prog 20 #[.int .i64 n] w fun e w' => e = .returned (vU64 (atU n)) ∧ Below w.heap.size w w' := by
  refine calls_v (n := 6) Tryz.func20 rfl Tryz.ntmps20 [.x (.a (.v (.int .i64 n)))] (by simp) (.x (.a (.v (vU64 (atU n))))) (fun _ => rfl) ?_
  simp only [atU, push_cast, ↓reduceIte, reduceCtorEq, Nat.reduceLT]
theorem atOK {w0 : World} {ow : Nat → Prop} {hp : List Res} (n : Int) : CallOK Tryz.prog w0 ow 20 [.x (.a (.v (.int .i64 n)))] hp (.x (.a (.v (vU64 (atU n))))) hp := callOK_v fun _ w _ => at_any n w
set_option maxRecDepth 100000 in
theorem cloneU_any (l : List UInt32) (A : Option Addr) (c : Nat) (w : World) (hl : l.length ≤ 1000) (hR : RdV w w.heap.size A (l.map vU32)) : Calls Tryz.prog 16 #[.slice A l.length c] w fun e w' => ∃ v, e = .returned v ∧ Own w' w.heap.size 23 v (l.map vU32) ∧ Below w.heap.size w w' := by
  obtain ⟨e1, k1⟩ := rd32_of (FV.no hR)
  have h0 := fun h => calls_own (P := Tryz.prog) (w := w) (n := 8) Tryz.func16 rfl Tryz.ntmps16 [.x (.a (.v (.slice A l.length c)))] (by simp) 23 (.u32 l) (vs := l.map vU32) (fun _ => rfl) h
  refine h0 ?_
  clear h0
  have b1 : l.length * 4 ≤ 140737488355328 := by omega
  have b2 : l.length ≤ 2 ^ 63 - 1 := by omega
  cases A with
  | none =>
    have hn : l = [] := by
      cases l with
      | nil => rfl
      | cons x r => obtain ⟨b, off, h, _⟩ := hR (by simp); cases h
    subst hn
    simp only [ownT, push_cast, ↓reduceIte, reduceCtorEq, Nat.reduceLT]
  | some a =>
    simp only [e1, k1, b1, b2, ownT, push_cast, ↓reduceIte, reduceCtorEq, Nat.reduceEqDiff, Nat.reduceLT, Nat.reduceLeDiff, Nat.reduceAdd]
theorem cloneUOK {w0 : World} {ow : Nat → Prop} {hp : List Res} {sv : Sv} {l : List UInt32} (hl : l.length ≤ 1000) (h : Shows w0 ow hp sv (l.map vU32)) (hbr : ∀ r ∈ hp, Res.bnd hp.length r) : CallOK Tryz.prog w0 ow 16 [sv] hp (.x (.a (.o hp.length))) (hp ++ [.own 23 (.u32 l)]) := callOK_own hbr trivial fun γ w hS => by
  obtain ⟨A, c, e1, b1, r1⟩ := h γ w hS
  rw [List.length_map] at e1
  show Calls _ _ #[sv.val γ] w _
  rw [e1]
  exact cloneU_any l A c w hl r1
attribute [local irreducible] bitsF fromF
section
variable {w0 : World} {ow : Nat → Prop} {hp : List Res} {a b : List Int} {s1 s2 : Sv}
set_option maxRecDepth 100000 in
theorem less_any (a b : List Int) (A A2 : Option Addr) (c c2 : Nat) (w : World) (ha : a.length ≤ 1000000) (hb : b.length ≤ 1000000) (hc : a.length ≤ c) (hc2 : b.length ≤ c2) (hR : RdV w w.heap.size A (a.map (Value.int .i64))) (hR2 : RdV w w.heap.size A2 (b.map (Value.int .i64))) :
    Calls Tryz.prog 38 #[.slice A a.length c, .slice A2 b.length c2] w fun e w' => ∃ x, e = .returned x ∧ Own w' w.heap.size 3 x ((lessF a b).map (Value.int .i64)) ∧ Below w.heap.size w w' := by
  refine calls_own (n := 11) Tryz.func38 rfl Tryz.ntmps38 [.x (.a (.v (.slice A a.length c))), .x (.a (.v (.slice A2 b.length c2)))] (by simp) 3 (.i64 (lessF a b)) (fun _ => rfl) ?_
  simp (config := { maxSteps := 1000000 }) only [push_cast, ↓reduceIte, reduceCtorEq, Nat.reduceLT]
  (repeat (refine And.intro (by first | omega | decide) ?_))
  refine callG_v rfl cb43 rfl (bitsK ha (shows_raw hR _ _ (by simp) hc)) (dOk_lt rfl) ?_
  simp (config := { maxSteps := 1000000 }) only [push_cast, ↓reduceIte, reduceCtorEq, Nat.reduceEqDiff, Nat.reduceLT]
  (repeat (refine And.intro (by first | omega | decide) ?_))
  refine callG_v rfl cb43 rfl (bitsK hb (shows_raw hR2 _ _ (by simp) hc2)) (dOk_lt rfl) ?_
  simp (config := { maxSteps := 1000000 }) only [push_cast, ↓reduceIte, Nat.reduceEqDiff, Nat.reduceLT]
  (repeat (refine And.intro (by first | omega | decide) ?_))
  refine callG_x rfl cb56 rfl (fromK _ (by simp only [push_cast])) (dOk_lt rfl) (by simp only [push_cast]) ?_
  have e : fromF (bitsF a &&& ~~~ bitsF b) = lessF a b := rfl
  simp (config := { maxSteps := 1000000 }) only [e, push_cast, ↓reduceIte, Nat.reduceLT]
  done
theorem lessK (ha : a.length ≤ 1000000) (hb : b.length ≤ 1000000) (h1 : Shows w0 ow hp s1 (a.map (Value.int .i64))) (h2 : Shows w0 ow hp s2 (b.map (Value.int .i64))) (hbr : ∀ r ∈ hp, Res.bnd hp.length r) :
    CallOK Tryz.prog w0 ow 38 [s1, s2] hp (.x (.a (.o hp.length))) (hp ++ [.own 3 (.i64 (lessF a b))]) :=
  callOK_own hbr trivial fun γ w hS => by
    obtain ⟨A, c, e1, b1, r1⟩ := h1 γ w hS
    obtain ⟨A2, c2, e2, b2, r2⟩ := h2 γ w hS
    rw [List.length_map] at e1 e2 b1 b2
    show Calls _ _ #[s1.val γ, s2.val γ] w _
    rw [e1, e2]
    exact less_any a b A A2 c c2 w ha hb b1 b2 r1 r2
end
end Go.Proofs.YtombphphaoeeiaaGreatDoor
