import Derived.Test.YtombphphaoeeiaaGreatDoorSr6
import Derived.Test.YtombphphaoeeiaaGreatDoorCst0
import Derived.Test.YtombphphaoeeiaaGreatDoorEsA
/- What law 32's sure asks, in plain Lean. No program in sight. -/
namespace Go.Proofs.YtombphphaoeeiaaGreatDoor
set_option linter.unusedSimpArgs false
set_option linter.unusedVariables false
def gA32 : Gr := ⟨[(4, powU 3 7)], [4], 1, [(4, [9])]⟩
def gB32 : Gr := ⟨[(4, powU 3 7)], [], 1, []⟩
def gC32 : Gr := ⟨[(4, powU 3 7)], [], 1, [(4, [8])]⟩
theorem join_1 (x y : UInt64) (h1 : x ≠ 0) (h2 : x.toNat < 2305843009213693951) (h3 : y.toNat < 2305843009213693951) : joiE [(x, y)] 1 = 0 ∧ joiU [(x, y)] 1 = thU [(x, y)] 0 1 := by
  have s1 : sortP [(x, y)] = [(x, y)] := sortP_same fun i j h1 h2 => by simp at h2; omega
  have s2 : sorE [(x, y)] = 0 := by
    refine sorE_of (by show 1 ≤ 64; omega) ?_ ?_
    · unfold okAll
      simp only [List.all_cons, List.all_nil, Bool.and_true]
      exact okSh_iff.2 ⟨h1, h2, h3⟩
    · exact List.nodup_cons.2 ⟨by simp, List.nodup_nil⟩
  have e : joiE [(x, y)] 1 = 0 := by
    unfold joiE
    rw [if_neg (by decide), if_pos s2, if_neg (by show ¬ ((1 : Nat) : Int) < 1; decide), s1]
    rfl
  exact ⟨e, by unfold joiU; rw [if_pos e, s1]; rfl⟩
theorem powU_one (n : UInt64) : powU 1 n = 1 := by
  apply UInt64.toNat_inj.1
  rw [powU_toNat, show (1 : UInt64).toNat = 1 from rfl, Nat.one_pow]
theorem th_1 (x y : UInt64) : thU [(x, y)] 0 1 = addU 0 (fpMul y (fpMul 1 1)) := by
  have e : wtU [x] 0 0 = fpMul 1 1 := by
    show fpMul (prU [x] 0 0 1) (powU (prU [x] 0 x 1) _) = _
    rw [prU_same, prU_same, prU_zero, prU_zero, powU_one]
  show addU 0 (fpMul y (wtU [x] 0 0)) = _
  rw [e]
theorem jA : joiE [(5, 9)] 1 = 0 ∧ joiU [(5, 9)] 1 = 9 := by
  obtain ⟨h1, h2⟩ := join_1 5 9 (by decide) (by decide) (by decide)
  exact ⟨h1, by rw [h2, th_1]; decide +kernel⟩
theorem jC : joiE [(5, 8)] 1 = 0 ∧ joiU [(5, 8)] 1 = 8 := by
  obtain ⟨h1, h2⟩ := join_1 5 8 (by decide) (by decide) (by decide)
  exact ⟨h1, by rw [h2, th_1]; decide +kernel⟩
theorem shA : gA32.sh 0 = [(5, 9)] := by decide +kernel
theorem shC : gC32.sh 0 = [(5, 8)] := by decide +kernel
theorem mayA : gA32.mayB = true := by decide +kernel
theorem mayB : gB32.mayB = true := by decide +kernel
theorem mayC : gC32.mayB = true := by decide +kernel
theorem secA : gA32.sec 0 = 9 := by unfold Gr.sec; rw [shA]; exact jA.2
theorem secC : gC32.sec 0 = 8 := by unfold Gr.sec; rw [shC]; exact jC.2
theorem hasA : hasF gA32.cm 4 = true := by decide +kernel
theorem hasC : hasF gC32.cm 4 = false := by decide +kernel
theorem okA : gA32.okI 0 = true := by
  unfold Gr.okI
  rw [shA, show gA32.nd = 1 from rfl, jA.1, show (ix gA32.ps 0).1 = 4 from rfl, hasA]
  rfl
theorem okC : gC32.okI 0 = false := by
  unfold Gr.okI
  rw [secC, show (ix gC32.ps 0).1 = 4 from rfl, hasC, show (ix gC32.ps 0).2 = powU 3 7 from rfl, Bool.false_or]
  have : decide (powU 3 8 = powU 3 7) = false := by decide +kernel
  rw [this, Bool.and_false]
theorem errA : gA32.err = 0 := err_all mayA (by decide) (Gr.all_iff.2 fun i hi => by
  have : i = 0 := by have : i < 1 := hi; omega
  subst this
  exact okA)
theorem errB : gB32.err = 7 := err_few mayB (by decide)
theorem errC : gC32.err = 13 := err_no (i := 0) mayC (by decide) (by decide) okC
theorem sdA : gA32.sd 1 = [(4, .a (.v (vU64 9)))] := by
  have := (sd_in (g := gA32) (i := 0) hasA).1
  rw [← this, secA]
  rfl
theorem kyA : gA32.ky 1 = [] := by
  rw [(sd_in (g := gA32) (i := 0) hasA).2]
  rfl
theorem rowB : rowN [] [5] = 0 ∧ rowO [] [5] = [5] := by decide +kernel
theorem sfA : gA32.sf = fun k => if 4 = k then some 9 else none := funext fun k => by
  show (if hasF gA32.cm 4 = true ∧ (4 : Int) = k then some (gA32.sec 0) else none) = _
  rw [secA]
  by_cases h : (4 : Int) = k
  · rw [if_pos ⟨hasA, h⟩, if_pos h]
  · rw [if_neg fun x => h x.2, if_neg h]
theorem kfA : gA32.kf = fun _ => none := funext fun k => by
  show (if ¬ hasF gA32.cm 4 = true ∧ (4 : Int) = k then some (gA32.sec 0) else none) = _
  rw [if_neg fun x => x.1 hasA]
theorem opnA : opnNum gA32.cm gA32.ps gA32.sf gA32.kf (2 : Nat) = 0 := by
  rw [sfA, kfA]
  decide +kernel
theorem codeA : gA32.code 2 = 0 := by unfold Gr.code; rw [if_pos errA]; exact opnA
theorem offA : gA32.off 2 = opTo (· + ·) [0, 0] (ownW 9 2) 2 := by
  unfold Gr.off opnVal
  have e1 : soTo 2 (fd gA32.kf) gA32.cm gA32.ps (ocTo 2 (fd gA32.sf) gA32.cm gA32.cm.length) gA32.ps.length = soTo 2 (fd gA32.kf) gA32.cm gA32.ps (ocTo 2 (fd gA32.sf) gA32.cm gA32.cm.length) 0 := soTo_in (i := 0) (by decide +kernel)
  rw [e1]
  show opTo (· + ·) [0, 0] (ownW (fd gA32.sf 4) 2) 2 = _
  have : fd gA32.sf 4 = 9 := by rw [sfA]; rfl
  rw [this]
theorem rowA {d : Nat} {o : List UInt32} (ho : o = ownW 9 2) : rowN [gA32] o = 0 ∧ rowO [gA32] o = [0, 0] := by
  have hl : o.length = 2 := by rw [ho]; exact ownW_length _ _
  have ha : apartG [gA32] = true := by decide +kernel
  have e : rowN [gA32] o = 0 := by
    rw [rowN_all (by omega) ha, hl]
    show (if rwN [gA32] 2 0 = 0 then gA32.code 2 else _) = 0
    rw [if_pos (show rwN [gA32] 2 0 = 0 from rfl)]
    exact codeA
  refine ⟨e, ?_⟩
  rw [rowO_yes e]
  show opTo (· - ·) o (gA32.off o.length) o.length = _
  rw [hl, offA, ← ho]
  match o, hl with
  | [a, b], _ =>
    show [a - (0 + a), b - (0 + b)] = _
    simp
end Go.Proofs.YtombphphaoeeiaaGreatDoor
/- Groups as the program's (law 32's givePeers, giveGroup): what they hold is told as facts. -/
namespace Go.Proofs.YtombphphaoeeiaaGreatDoor
open Go.RowKit
set_option linter.unusedSimpArgs false
set_option linter.unusedVariables false
attribute [local irreducible] Callable CallOK CallG CallM DrawG LoopG symR symM
set_option maxRecDepth 100000 in
theorem give32_any (l : List Pr) (A : Option Addr) (c : Nat) (w : World) (hl : l.length ≤ 1000) (hR : RdV w w.heap.size A (pvs l)) : Calls Tryz.prog 14 #[.slice A l.length c] w fun e w' => ∃ γ1, e = .returned ((Sv.x (.a (.o 0))).val γ1) ∧ Sat w No γ1 [.onn 54 2 (.c (pcs l))] w' := by
  have F := FP.of hR
  refine calls_fun (n := 19) Tryz.func14 rfl Tryz.ntmps14 [.x (.a (.v (.slice A l.length c)))] (Sat.init w No) (by simp) _ _ ?_
  simp only [push_cast, ↓reduceIte, Nat.reduceLT]
  refine loop_ghostN 3 54 2 (.c []) (by omega) rfl rfl (by simp only [push_cast]) ?_
  refine loop_rule (ι := Nat) (fun i => ⟨[(0, .x (.a (.v (.slice A l.length c)))), (3, .x (.a (.o 0))), (4, .x (.a (.v (.int .i64 i))))], [.onn 54 2 (.c (pcs (l.take i)))]⟩) (fun i => i ≤ l.length) (fun i => l.length - i) 0 [0] (by omega) ?_ ?_
  · simp only [List.take_zero, pcs_nil, push_cast, ↓Int.cast_ofNat_Int, Int.cast_ofNat_Int, ↓reduceIte, reduceCtorEq, Nat.reduceEqDiff, Nat.reduceLT]
  · intro i hi
    by_cases hlt : (i : Int) < l.length
    · have i0 : (0 : Int) ≤ i := by omega
      have c0 := F.c0 i (by omega)
      have c1 := F.c1 i (by omega)
      have o0 := F.ok0 i (by omega)
      have o1 := F.ok1 i (by omega)
      have hA := F.some_ (by omega)
      have hlen : (l.take i).length = i := by rw [List.length_take]; omega
      have ht := pcs_take l i (by omega)
      simp only [hlt, i0, c0, c1, o0, o1, hA, hlen, ht, pAdd_zero, pAdd_add, pAdd_isSome, push_cast, ↓Int.toNat_natCast, ↓reduceIte, reduceCtorEq, Nat.reduceEqDiff, Nat.reduceLT, Nat.reduceLeDiff, Nat.reduceAdd, Nat.reduceMul, Int.reduceNeg]
      (repeat (refine And.intro (by first | omega | decide) ?_))
      refine loopK_normal (i + 1) [2] (by omega) (by omega) ?_
      simp only [push_cast, ↓reduceIte, reduceCtorEq, Nat.reduceEqDiff, Nat.reduceLT]
    · have e : i = l.length := by omega
      subst e
      simp only [hlt, List.take_length, push_cast, ↓reduceIte, reduceCtorEq, Nat.reduceEqDiff, Nat.reduceLT]
      refine endsAs [0] ?_
      simp only [push_cast, ↓reduceIte, Nat.reduceLT]
theorem give32K {w0 : World} {hp : List Res} {sv : Sv} {l : List Pr} (hl : l.length ≤ 1000) (h : ShowsR w0 No hp sv l.length (pvs l)) (hbr : ∀ r ∈ hp, Res.bnd hp.length r) :
    CallOK Tryz.prog w0 No 14 [sv] hp (.x (.a (.o hp.length))) (hp ++ [.onn 54 2 (.c (pcs l))]) := by
  have := callOK_take (P := Tryz.prog) (f := 14) (svs := [sv]) (w0 := w0) (ow := No) (sv1 := .x (.a (.o 0))) (hp1 := [.onn 54 2 (.c (pcs l))]) [] hbr (by simp only [push_cast]) (by simp only [push_cast, Nat.reduceLT])
    fun γ w hS => ⟨No, fun b h => h.elim, by
      obtain ⟨A, c, e1, b1, r1⟩ := h γ w hS
      show Calls _ _ #[sv.val γ] w _
      rw [e1]
      exact give32_any l A c w hl r1⟩
  simp only [goneAll, shiftL, push_cast] at this
  exact this
/-! ### A map of lists -/
def mclE (l : List GvE) : List (Int × Sc) := l.map fun e => (e.id, .a (.v e.val))
theorem mcl_mL (G : Grp) : mcl G.mL = mclE G.gv := by unfold mcl Grp.mL mclE; rw [List.map_map]; rfl
def putE : List GvE → GvE → List GvE
  | [], e => [e]
  | x :: r, e => if x.id = e.id then e :: r else x :: putE r e
theorem mclE_put (l : List GvE) (e : GvE) : putI (mclE l) e.id (.a (.v e.val)) = mclE (putE l e) := by
  induction l with
  | nil => rfl
  | cons x r ih =>
    show (if x.id = e.id then _ else _) = mclE (if x.id = e.id then _ else _)
    split
    · rfl
    · show _ :: putI (mclE r) _ _ = _ :: mclE (putE r e)
      rw [ih]
theorem putE_mem {l : List GvE} {e x : GvE} (h : x ∈ putE l e) : x = e ∨ x ∈ l := by
  induction l with
  | nil => exact .inl (List.mem_singleton.1 h)
  | cons y r ih =>
    unfold putE at h
    split at h
    · rcases List.mem_cons.1 h with h | h
      · exact .inl h
      · exact .inr (List.mem_cons_of_mem _ h)
    · rcases List.mem_cons.1 h with h | h
      · exact .inr (by rw [h]; exact List.mem_cons_self ..)
      · exact (ih h).imp id (List.mem_cons_of_mem _)
theorem putE_nodup {l : List GvE} {e : GvE} (h : (l.map GvE.id).Nodup) : ((putE l e).map GvE.id).Nodup := by
  induction l with
  | nil => exact List.nodup_cons.2 ⟨by simp, List.nodup_nil⟩
  | cons y r ih =>
    obtain ⟨h1, h2⟩ := List.nodup_cons.1 h
    unfold putE
    split
    · rename_i he
      exact List.nodup_cons.2 ⟨by rw [← he]; exact h1, h2⟩
    · rename_i he
      refine List.nodup_cons.2 ⟨fun hm => ?_, ih h2⟩
      obtain ⟨x, hx, hxe⟩ := List.mem_map.1 hm
      rcases putE_mem hx with rfl | hx
      · exact he hxe.symm
      · exact h1 (List.mem_map.2 ⟨x, hx, hxe⟩)
theorem putE_len (l : List GvE) (e : GvE) : (putE l e).length ≤ l.length + 1 := by
  induction l with
  | nil => exact Nat.le_refl _
  | cons y r ih =>
    unfold putE
    split
    · simp
    · simp only [List.length_cons]; omega
theorem mclE_sub (j : Nat) (v : Value) (l : List GvE) : mpSub j v (mclE l) = mclE l := by unfold mpSub mclE; rw [List.map_map]; rfl
theorem mclE_ren (ρ : List Nat) (l : List GvE) : mpRen ρ (mclE l) = mclE l := by unfold mpRen mclE; rw [List.map_map]; rfl
theorem mclE_bnd (n : Nat) (l : List GvE) : mpBnd n (mclE l) = True := eq_true fun p hp => by
  obtain ⟨e, _, rfl⟩ := List.mem_map.1 hp
  trivial
theorem mpSub_putI (j : Nat) (v : Value) (l : List (Int × Sc)) (i : Int) (x : Sc) : mpSub j v (putI l i x) = putI (mpSub j v l) i (x.sub j v) := by
  induction l with
  | nil => rfl
  | cons p r ih =>
    show mpSub j v (if p.1 = i then _ else _) = if p.1 = i then _ else _
    split
    · rfl
    · show _ :: mpSub j v (putI r i x) = _
      rw [ih]
      rfl
/-- A group's slices are facts. -/
structure GivOk (Fs : List Fct) (G : Grp) : Prop where
  p : (⟨.slice G.pA G.ps.length G.pc, G.ps.length, pvs G.ps⟩ : Fct) ∈ Fs
  c : (⟨.slice G.cA G.cm.length G.cc, G.cm.length, G.cm.map vI64⟩ : Fct) ∈ Fs
  e : ∀ e ∈ G.gv, (⟨e.val, e.l.length, e.l.map vU64⟩ : Fct) ∈ Fs
  nd : (G.gv.map GvE.id).Nodup
  few : G.ps.length ≤ 1000 ∧ G.cm.length ≤ 1000 ∧ G.gv.length ≤ 1000 ∧ ∀ e ∈ G.gv, e.l.length ≤ 1000
theorem fct_got {w0 w : World} {ow : Nat → Prop} {γ : List Nm} {hp : List Res} {k : Nat} {Fs : List Fct} (hS : Sat w0 ow γ hp w) (hk : hp[k]? = some (.abs (fctRep Fs))) {A : Option Addr} {n c : Nat} {vs : List Value} (h : (⟨.slice A n c, n, vs⟩ : Fct) ∈ Fs) : n ≤ c ∧ RdV w w.heap.size A vs := by
  obtain ⟨A', c', h1, h2, _, h4⟩ := fct_rd hS hk h
  have h1 : Value.slice A n c = .slice A' n c' := h1
  injection h1 with e1 _ e3
  subst e1 e3
  exact ⟨h2, h4⟩
theorem GivOk.ok {w0 w : World} {γ : List Nm} {hp : List Res} {k kf : Nat} {Fs : List Fct} {G : Grp} (h : GivOk Fs G) (hS : Sat w0 No γ hp w) (hk : hp[k]? = some (.mp .i64 (mclE G.gv))) (hf : hp[kf]? = some (.abs (fctRep Fs))) : ∃ g, nmS γ k = .map (some g) ∧ Grp.Ok w { G with mo := some g } := by
  have hr := rawG_mp (L := G.mL) hS (by rw [mcl_mL]; exact hk)
  obtain ⟨_, g, es, h1, _⟩ := hS.holds k _ hk
  refine ⟨g, h1, ?_⟩
  have hv : (Sv.x (.a (.o k))).val γ = .map (some g) := h1
  rw [hv] at hr
  obtain ⟨p1, p2⟩ := fct_got hS hf h.p
  obtain ⟨c1, c2⟩ := fct_got hS hf h.c
  exact ⟨p1, p2, c1, c2, hr, fun e he => fct_got hS hf (h.e e he), h.nd, h.few⟩
theorem showsG_own {w0 : World} {hp : List Res} {k kf : Nat} {Fs : List Fct} {G : Grp} (h : GivOk Fs G) (hk : hp[k]? = some (.mp .i64 (mclE G.gv))) (hf : hp[kf]? = some (.abs (fctRep Fs))) :
    ShowsG w0 hp (.x (.g [.v (.slice G.pA G.ps.length G.pc), .v (.slice G.cA G.cm.length G.cc), .v (.int .i64 G.nd), .o k])) G.gr := fun γ w hS => by
  obtain ⟨g, h1, h2⟩ := h.ok hS hk hf
  refine ⟨_, ?_, h2, rfl⟩
  show Value.agg #[_, _, _, nmS γ k] = _
  rw [h1]
  rfl
end Go.Proofs.YtombphphaoeeiaaGreatDoor
