/- blind.Own, Row and Open: rows that are hidden, and what hides their sum. -/
import Derived.Test.YteiifdpikcnbgaaDoorBl3
import Derived.Test.YteiifdpikcnbgaaDoorBl2
import Derived.Test.YteiifdpikcnbgaaDoorHnd
namespace Go.Proofs.YteiifdpikcnbgaaDoor
open Go.RowKit
set_option linter.unusedSimpArgs false
/-! ### Rows, wherever they lie -/
def ShowsRows (w0 : World) (hp : List Res) (sv : Sv) (L : List (List UInt32)) : Prop :=
  ∀ γ w, Sat w0 No γ hp w → ∃ (R : List Rw) (A : Option Addr) (c : Nat), R.map (·.l) = L ∧ sv.val γ = .slice A R.length c ∧ RdV w w.heap.size A (R.map Rw.val) ∧ ∀ i, i < R.length → RdV w w.heap.size (ix R i).A ((ix R i).l.map vU32)
theorem vecSumOKr {w0 : World} {hp : List Res} {sv : Sv} {L : List (List UInt32)} (n : Nat) (hn : n ≤ 32) (hRl : L.length ≤ 1000) (h : ShowsRows w0 hp sv L) (hl : ∀ i, i < L.length → (ix L i).length = n) (hbr : ∀ r ∈ hp, Res.bnd hp.length r) :
    CallOK Tryd.prog w0 No 21 [sv, .x (.a (.v (.int .i64 n)))] hp (.t [.a (.o hp.length), .a (.v .nilIface)]) (hp ++ [.own 50 (.u32 (sumR n L L.length))]) := callOK_own2 hbr trivial fun γ w hS => by
  obtain ⟨R, A, c, rfl, h1, h2, h3⟩ := h γ w hS
  rw [List.length_map] at hRl hl ⊢
  show Calls _ _ #[sv.val γ, .int .i64 n] w _
  rw [h1]
  refine vecSum_any R n hn hRl A c w h2 fun i hi => ⟨?_, h3 i hi⟩
  have := hl i hi
  rwa [show ix (R.map (·.l)) i = (ix R i).l by simp [ix, List.getD_eq_getElem?_getD, hi]] at this
/-- Three rows, in a literal. -/
theorem showsRows3 {w0 : World} {hp : List Res} {k n cap : Nat} {t : TypeId} {x y z : At} {a b d : List UInt32} (hr : hp[k]? = some (.blk t (.c [x, y, z]))) (hn : n = 3) (hx : Shows w0 No hp (.x (.a x)) (a.map vU32)) (hy : Shows w0 No hp (.x (.a y)) (b.map vU32)) (hz : Shows w0 No hp (.x (.a z)) (d.map vU32)) :
    ShowsRows w0 hp (.x (.a (.s k 0 n cap))) [a, b, d] := fun γ w hS => by
  subst hn
  obtain ⟨A1, c1, e1, _, r1⟩ := hx γ w hS
  obtain ⟨A2, c2, e2, _, r2⟩ := hy γ w hS
  obtain ⟨A3, c3, e3, _, r3⟩ := hz γ w hS
  rw [List.length_map] at e1 e2 e3
  have e1 : x.val γ = .slice A1 a.length c1 := e1
  have e2 : y.val γ = .slice A2 b.length c2 := e2
  have e3 : z.val γ = .slice A3 d.length c3 := e3
  refine ⟨[⟨A1, c1, a⟩, ⟨A2, c2, b⟩, ⟨A3, c3, d⟩], some ⟨nmB γ k, 0, none⟩, cap, rfl, rfl, ?_, fun i hi => ?_⟩
  · have := hS.rdBlk hr 0
    rw [List.drop_zero] at this
    have e : (Cont.c [x, y, z]).vals γ = [Rw.val ⟨A1, c1, a⟩, Rw.val ⟨A2, c2, b⟩, Rw.val ⟨A3, c3, d⟩] := by
      simp only [Cont.vals, List.map_cons, List.map_nil, e1, e2, e3, Rw.val]
    rw [e] at this
    exact this
  · match i, hi with
    | 0, _ => exact r1
    | 1, _ => exact r2
    | 2, _ => exact r3
attribute [local irreducible] Callable CallOK CallG CallM DrawG LoopG symR symM
/-! ### Own -/
set_option maxRecDepth 100000 in
theorem own10_any (seed : UInt64) (n : Int) (w : World) (hk : LaidK 2 w) : Calls Tryd.prog 13 #[vU64 seed, .int .i64 n] w fun e w' => ∃ v, e = .returned (.tuple #[v, wErr ownS n 32]) ∧ Own w' w.heap.size 50 v ((wOut seed ownS n).map vU32) ∧ Below w.heap.size w w' := by
  have h0 := fun h => calls_own2 (P := Tryd.prog) (w := w) (n := 11) Tryd.func13 rfl Tryd.ntmps13 [.x (.a (.v (vU64 seed))), .x (.a (.v (.int .i64 n)))] (by simp) 50 (.u32 (wOut seed ownS n)) (wErr ownS n 32) (vs := (wOut seed ownS n).map vU32) (fun _ => rfl) h
  refine h0 ?_
  clear h0
  simp only [ownLit, push_cast, ↓Int.toNat_natCast, ↓Int.cast_ofNat_Int, Int.cast_ofNat_Int, ↓reduceIte, reduceCtorEq, Nat.reduceEqDiff, Nat.reduceLT, Nat.reduceLeDiff, Nat.reduceAdd, Nat.reduceSub, Nat.reduceMul, Int.reduceNeg, Int.reduceLE, Int.reduceLT, Int.reduceToNat, Int.reduceAdd, Int.reduceSub, Int.reduceMul, Int.reduceEq]
  refine callG_x rfl cb51 rfl (words7OK seed ownS n hk (by simp only [push_cast, ↓Int.toNat_natCast, ↓Int.cast_ofNat_Int, Int.cast_ofNat_Int, ↓reduceIte, reduceCtorEq, Nat.reduceEqDiff, Nat.reduceLT, Nat.reduceLeDiff, Nat.reduceAdd, Nat.reduceSub, Nat.reduceMul, Int.reduceNeg, Int.reduceLE, Int.reduceLT, Int.reduceToNat, Int.reduceAdd, Int.reduceSub, Int.reduceMul, Int.reduceEq])) (dOk_lt rfl) (by simp only [push_cast, ↓Int.toNat_natCast, ↓Int.cast_ofNat_Int, Int.cast_ofNat_Int, ↓reduceIte, reduceCtorEq, Nat.reduceEqDiff, Nat.reduceLT, Nat.reduceLeDiff, Nat.reduceAdd, Nat.reduceSub, Nat.reduceMul, Int.reduceNeg, Int.reduceLE, Int.reduceLT, Int.reduceToNat, Int.reduceAdd, Int.reduceSub, Int.reduceMul, Int.reduceEq]) ?_
  simp only [undef, ownT2, ownT, push_cast, ↓Int.toNat_natCast, ↓Int.cast_ofNat_Int, Int.cast_ofNat_Int, ↓reduceIte, reduceCtorEq, Nat.reduceEqDiff, Nat.reduceLT, Nat.reduceLeDiff, Nat.reduceAdd, Nat.reduceSub, Nat.reduceMul, Int.reduceNeg, Int.reduceLE, Int.reduceLT, Int.reduceToNat, Int.reduceAdd, Int.reduceSub, Int.reduceMul, Int.reduceEq]
theorem own10OK {w0 : World} {hp : List Res} (seed : UInt64) (n : Int) (hk : LaidK 2 w0) (hbr : ∀ r ∈ hp, Res.bnd hp.length r) : CallOK Tryd.prog w0 No 13 [.x (.a (.v (vU64 seed))), .x (.a (.v (.int .i64 n)))] hp (.t [.a (.o hp.length), .a (.v (wErr ownS n 32))]) (hp ++ [.own 50 (.u32 (wOut seed ownS n))]) := callOK_own2 hbr trivial fun _ w hS => own10_any seed n w (laid_later hk hS)
/-! ### Row -/
def brErr (me : Int) (l : List Pr) (d : Nat) : Value := if brOk me l d = true then .nilIface else .iface 121 (.int .i64 1)
theorem brErr_no {me : Int} {l : List Pr} {d : Nat} (h : brOk me l d = false) : brErr me l d = .iface 121 (.int .i64 1) := by unfold brErr; rw [h]; rfl
theorem brErr_yes {me : Int} {l : List Pr} {d : Nat} (h : brOk me l d = true) : brErr me l d = .nilIface := by unfold brErr; rw [h]; rfl
attribute [local irreducible] prOut prOk may powU opOut opErr wOut wErr brOut brOk sumR
set_option maxRecDepth 100000 in
set_option maxHeartbeats 1000000 in
theorem blindRow_any (x : List UInt32) (me : Int) (seed key : UInt64) (l : List Pr) (A : Option Addr) (c : Nat) (A2 : Option Addr) (c2 : Nat) (w : World) (hc : l.length ≤ c) (hc2 : x.length ≤ c2) (hR : RdV w w.heap.size A (pvs l)) (hR2 : RdV w w.heap.size A2 (x.map vU32)) (hk : LaidK 2 w) :
    Calls Tryd.prog 10 (List.map (Sv.val []) [(.x (.a (.v (.slice A2 x.length c2)))), .x (.a (.v (.int .i64 me))), .x (.a (.v (vU64 seed))), .x (.a (.v (vU64 key))), (.x (.a (.v (.slice A l.length c))))]).toArray w fun e w' => ∃ v, e = .returned (.tuple #[v, brErr me l x.length]) ∧ Own w' w.heap.size 50 v ((brOut x me seed key l).map vU32) ∧ Below w.heap.size w w' := by
  have h0 := fun h => calls_own2 (P := Tryd.prog) (w := w) (n := 46) Tryd.func10 rfl Tryd.ntmps10 [(.x (.a (.v (.slice A2 x.length c2)))), .x (.a (.v (.int .i64 me))), .x (.a (.v (vU64 seed))), .x (.a (.v (vU64 key))), (.x (.a (.v (.slice A l.length c))))] (by simp) 50 (.u32 (brOut x me seed key l)) (brErr me l x.length) (vs := (brOut x me seed key l).map vU32) (fun _ => rfl) h
  refine h0 ?_
  clear h0
  simp only [undef, push_cast, ↓Int.toNat_natCast, ↓Int.cast_ofNat_Int, Int.cast_ofNat_Int, ↓reduceIte, reduceCtorEq, Nat.reduceEqDiff, Nat.reduceLT, Nat.reduceLeDiff, Nat.reduceAdd, Nat.reduceSub, Nat.reduceMul, Int.reduceNeg, Int.reduceLE, Int.reduceLT, Int.reduceToNat, Int.reduceAdd, Int.reduceSub, Int.reduceMul, Int.reduceEq]
  refine callG_x rfl cb13 rfl (own10OK seed x.length hk (by simp only [push_cast, ↓Int.toNat_natCast, ↓Int.cast_ofNat_Int, Int.cast_ofNat_Int, ↓reduceIte, reduceCtorEq, Nat.reduceEqDiff, Nat.reduceLT, Nat.reduceLeDiff, Nat.reduceAdd, Nat.reduceSub, Nat.reduceMul, Int.reduceNeg, Int.reduceLE, Int.reduceLT, Int.reduceToNat, Int.reduceAdd, Int.reduceSub, Int.reduceMul, Int.reduceEq])) (dOk_lt rfl) (by simp only [push_cast, ↓Int.toNat_natCast, ↓Int.cast_ofNat_Int, Int.cast_ofNat_Int, ↓reduceIte, reduceCtorEq, Nat.reduceEqDiff, Nat.reduceLT, Nat.reduceLeDiff, Nat.reduceAdd, Nat.reduceSub, Nat.reduceMul, Int.reduceNeg, Int.reduceLE, Int.reduceLT, Int.reduceToNat, Int.reduceAdd, Int.reduceSub, Int.reduceMul, Int.reduceEq]) ?_
  by_cases h32 : x.length ≤ 32
  · have hwe := wErr_yes (own_wOk x.length h32)
    have hwo := own_wOut seed x.length h32
    simp only [hwe, hwo, undef, push_cast, ↓Int.toNat_natCast, ↓Int.cast_ofNat_Int, Int.cast_ofNat_Int, ↓reduceIte, reduceCtorEq, Nat.reduceEqDiff, Nat.reduceLT, Nat.reduceLeDiff, Nat.reduceAdd, Nat.reduceSub, Nat.reduceMul, Int.reduceNeg, Int.reduceLE, Int.reduceLT, Int.reduceToNat, Int.reduceAdd, Int.reduceSub, Int.reduceMul, Int.reduceEq]
    refine callG_x rfl cb48 rfl (pairRowOK (l := l) me key x.length (showsR_raw hR hc) hk (by simp only [push_cast, ↓Int.toNat_natCast, ↓Int.cast_ofNat_Int, Int.cast_ofNat_Int, ↓reduceIte, reduceCtorEq, Nat.reduceEqDiff, Nat.reduceLT, Nat.reduceLeDiff, Nat.reduceAdd, Nat.reduceSub, Nat.reduceMul, Int.reduceNeg, Int.reduceLE, Int.reduceLT, Int.reduceToNat, Int.reduceAdd, Int.reduceSub, Int.reduceMul, Int.reduceEq])) (dOk_lt rfl) (by simp only [push_cast, ↓Int.toNat_natCast, ↓Int.cast_ofNat_Int, Int.cast_ofNat_Int, ↓reduceIte, reduceCtorEq, Nat.reduceEqDiff, Nat.reduceLT, Nat.reduceLeDiff, Nat.reduceAdd, Nat.reduceSub, Nat.reduceMul, Int.reduceNeg, Int.reduceLE, Int.reduceLT, Int.reduceToNat, Int.reduceAdd, Int.reduceSub, Int.reduceMul, Int.reduceEq]) ?_
    cases hp : prOk me l x.length
    · have hb : brOk me l x.length = false := by unfold brOk; rw [hp, Bool.and_false]
      simp only [prErr_no hp, brErr_no hb, brOut_no hb, undef, ownT2, ownT, push_cast, ↓Int.toNat_natCast, ↓Int.cast_ofNat_Int, Int.cast_ofNat_Int, ↓reduceIte, reduceCtorEq, Nat.reduceEqDiff, Nat.reduceLT, Nat.reduceLeDiff, Nat.reduceAdd, Nat.reduceSub, Nat.reduceMul, Int.reduceNeg, Int.reduceLE, Int.reduceLT, Int.reduceToNat, Int.reduceAdd, Int.reduceSub, Int.reduceMul, Int.reduceEq]
    · have hb : brOk me l x.length = true := by unfold brOk; rw [hp, decide_eq_true h32]; rfl
      have hpl := prTo_len (key := key) hp
      simp only [prErr_yes hp, undef, push_cast, ↓Int.toNat_natCast, ↓Int.cast_ofNat_Int, Int.cast_ofNat_Int, ↓reduceIte, reduceCtorEq, Nat.reduceEqDiff, Nat.reduceLT, Nat.reduceLeDiff, Nat.reduceAdd, Nat.reduceSub, Nat.reduceMul, Int.reduceNeg, Int.reduceLE, Int.reduceLT, Int.reduceToNat, Int.reduceAdd, Int.reduceSub, Int.reduceMul, Int.reduceEq]
      refine callG_x rfl cb21 rfl (vecSumOKr (L := [x, ownW seed x.length, prOut me key l x.length]) x.length h32 (by simp) (showsRows3 rfl rfl (shows_raw hR2 _ _ (by simp) hc2) (shows_own rfl fun _ => rfl) (shows_own rfl fun _ => rfl)) (fun i hi => ?_) (by simp only [push_cast, ↓Int.toNat_natCast, ↓Int.cast_ofNat_Int, Int.cast_ofNat_Int, ↓reduceIte, reduceCtorEq, Nat.reduceEqDiff, Nat.reduceLT, Nat.reduceLeDiff, Nat.reduceAdd, Nat.reduceSub, Nat.reduceMul, Int.reduceNeg, Int.reduceLE, Int.reduceLT, Int.reduceToNat, Int.reduceAdd, Int.reduceSub, Int.reduceMul, Int.reduceEq])) (dOk_lt rfl) (by simp only [push_cast, ↓Int.toNat_natCast, ↓Int.cast_ofNat_Int, Int.cast_ofNat_Int, ↓reduceIte, reduceCtorEq, Nat.reduceEqDiff, Nat.reduceLT, Nat.reduceLeDiff, Nat.reduceAdd, Nat.reduceSub, Nat.reduceMul, Int.reduceNeg, Int.reduceLE, Int.reduceLT, Int.reduceToNat, Int.reduceAdd, Int.reduceSub, Int.reduceMul, Int.reduceEq]) ?_
      · match i, hi with
        | 0, _ => rfl
        | 1, _ => exact ownW_length _ _
        | 2, _ => exact hpl
      · have hbo := brOut_yes (x := x) (seed := seed) (key := key) hb
        simp only [brErr_yes hb, hbo, undef, ownT2, ownT, push_cast, ↓Int.toNat_natCast, ↓Int.cast_ofNat_Int, Int.cast_ofNat_Int, ↓reduceIte, reduceCtorEq, Nat.reduceEqDiff, Nat.reduceLT, Nat.reduceLeDiff, Nat.reduceAdd, Nat.reduceSub, Nat.reduceMul, Int.reduceNeg, Int.reduceLE, Int.reduceLT, Int.reduceToNat, Int.reduceAdd, Int.reduceSub, Int.reduceMul, Int.reduceEq]
  · have hb : brOk me l x.length = false := by unfold brOk; rw [decide_eq_false h32]; rfl
    have hwe : wErr ownS x.length 32 = .iface 121 (.int .i64 1) := wErr_no (wOk_hi (s := ownS) (by omega))
    simp only [hwe, brErr_no hb, brOut_no hb, undef, ownT2, ownT, push_cast, ↓Int.toNat_natCast, ↓Int.cast_ofNat_Int, Int.cast_ofNat_Int, ↓reduceIte, reduceCtorEq, Nat.reduceEqDiff, Nat.reduceLT, Nat.reduceLeDiff, Nat.reduceAdd, Nat.reduceSub, Nat.reduceMul, Int.reduceNeg, Int.reduceLE, Int.reduceLT, Int.reduceToNat, Int.reduceAdd, Int.reduceSub, Int.reduceMul, Int.reduceEq]
theorem blindRowOK {w0 : World} {hp : List Res} {s1 s2 : Sv} {x : List UInt32} {l : List Pr} (me : Int) (seed key : UInt64) (h1 : Shows w0 No hp s1 (x.map vU32)) (h2 : ShowsR w0 No hp s2 l.length (pvs l)) (hk : LaidK 2 w0) (hbr : ∀ r ∈ hp, Res.bnd hp.length r) :
    CallOK Tryd.prog w0 No 10 [s1, .x (.a (.v (.int .i64 me))), .x (.a (.v (vU64 seed))), .x (.a (.v (vU64 key))), s2] hp (.t [.a (.o hp.length), .a (.v (brErr me l x.length))]) (hp ++ [.own 50 (.u32 (brOut x me seed key l))]) := callOK_own2 hbr trivial fun γ w hS => by
  obtain ⟨A, c, e1, b1, r1⟩ := h1 γ w hS
  obtain ⟨A2, c2, e2, b2, r2⟩ := h2 γ w hS
  rw [List.length_map] at e1 b1
  show Calls _ _ #[s1.val γ, .int .i64 me, vU64 seed, vU64 key, s2.val γ] w _
  rw [e1, e2]
  exact blindRow_any x me seed key l A2 c2 A c w b2 b1 r2 r1 (laid_later hk hS)
/-! ### Open -/
theorem withOK {w0 : World} {hp : List Res} {s1 s2 : Sv} {came : List Int} {l : List Pr} (one : Pr) (hl : l.length ≤ 1000) (hl2 : came.length ≤ 1000000) (h1 : Shows w0 No hp s1 (came.map vI64)) (h2 : ShowsR w0 No hp s2 l.length (pvs l)) (hbr : ∀ r ∈ hp, Res.bnd hp.length r) :
    CallOK Tryd.prog w0 No 59 [.x (.g [.v (.int .i64 one.1), .v (vU64 one.2)]), s1, s2] hp (.x (.a (.o hp.length))) (hp ++ [.onn 55 2 (.c (pcs (withL one came l)))]) := by
  have := callOK_take (P := Tryd.prog) (f := 59) (svs := [.x (.g [.v (.int .i64 one.1), .v (vU64 one.2)]), s1, s2]) (w0 := w0) (ow := No) (sv1 := .x (.a (.o 0))) (hp1 := [.onn 55 2 (.c (pcs (withL one came l)))]) [] hbr (by simp only [push_cast, ↓Int.toNat_natCast, ↓Int.cast_ofNat_Int, Int.cast_ofNat_Int, ↓reduceIte, reduceCtorEq, Nat.reduceEqDiff, Nat.reduceLT, Nat.reduceLeDiff, Nat.reduceAdd, Nat.reduceSub, Nat.reduceMul, Int.reduceNeg, Int.reduceLE, Int.reduceLT, Int.reduceToNat, Int.reduceAdd, Int.reduceSub, Int.reduceMul, Int.reduceEq]) (by simp only [pcs_forall, push_cast, ↓Int.toNat_natCast, ↓Int.cast_ofNat_Int, Int.cast_ofNat_Int, ↓reduceIte, reduceCtorEq, Nat.reduceEqDiff, Nat.reduceLT, Nat.reduceLeDiff, Nat.reduceAdd, Nat.reduceSub, Nat.reduceMul, Int.reduceNeg, Int.reduceLE, Int.reduceLT, Int.reduceToNat, Int.reduceAdd, Int.reduceSub, Int.reduceMul, Int.reduceEq])
    fun γ w hS => ⟨No, fun b h => h.elim, by
      obtain ⟨A, c, e1, b1, r1⟩ := h1 γ w hS
      obtain ⟨A2, c2, e2, b2, r2⟩ := h2 γ w hS
      rw [List.length_map] at e1 b1
      show Calls _ _ #[.agg #[.int .i64 one.1, vU64 one.2], s1.val γ, s2.val γ] w _
      rw [e1, e2]
      exact with_any one came l A2 c2 A c w hl hl2 b1 r2 r1⟩
  simp only [goneAll, shiftL, pcs_ren, push_cast, ↓Int.toNat_natCast, ↓Int.cast_ofNat_Int, Int.cast_ofNat_Int, ↓reduceIte, reduceCtorEq, Nat.reduceEqDiff, Nat.reduceLT, Nat.reduceLeDiff, Nat.reduceAdd, Nat.reduceSub, Nat.reduceMul, Int.reduceNeg, Int.reduceLE, Int.reduceLT, Int.reduceToNat, Int.reduceAdd, Int.reduceSub, Int.reduceMul, Int.reduceEq] at this
  exact this
attribute [local irreducible] opnOut opnNum opnVal ocTo soTo withL given among hidW
set_option maxRecDepth 100000 in
set_option maxHeartbeats 4000000 in
theorem blindOpen_any (came : List Int) (l : List Pr) (sf kf : Int → Option UInt64) (sv kv : Value) (dim : Int) (A : Option Addr) (c : Nat) (A2 : Option Addr) (c2 : Nat) (w : World) (hl : l.length ≤ 1000000) (hl2 : came.length ≤ 1000000) (hc : l.length ≤ c) (hc2 : came.length ≤ c2) (hR : RdV w w.heap.size A (pvs l)) (hR2 : RdV w w.heap.size A2 (came.map vI64)) (hs : RawU w sv sf) (hkv : RawU w kv kf) (hk : LaidK 2 w) :
    Calls Tryd.prog 15 (List.map (Sv.val []) [(.x (.a (.v (.slice A2 came.length c2)))), (.x (.a (.v (.slice A l.length c)))), .x (.a (.v sv)), .x (.a (.v kv)), .x (.a (.v (.int .i64 dim)))]).toArray w fun e w' => ∃ v, e = .returned (.tuple #[v, erV (opnNum came l sf kf dim)]) ∧ Own w' w.heap.size 50 v ((opnOut came l sf kf dim).map vU32) ∧ Below w.heap.size w w' := by
  have F := FP.of hR
  have G := FM.of hR2
  have h0 := fun h => calls_own2 (P := Tryd.prog) (w := w) (n := 113) Tryd.func15 rfl Tryd.ntmps15 [(.x (.a (.v (.slice A2 came.length c2)))), (.x (.a (.v (.slice A l.length c)))), .x (.a (.v sv)), .x (.a (.v kv)), .x (.a (.v (.int .i64 dim)))] (by simp) 50 (.u32 (opnOut came l sf kf dim)) (erV (opnNum came l sf kf dim)) (vs := (opnOut came l sf kf dim).map vU32) (fun _ => rfl) h
  refine h0 ?_
  clear h0
  have no : ∀ {n : Int}, opnNum came l sf kf dim = n → ¬ n = 0 → erV (opnNum came l sf kf dim) = .iface 121 (.int .i64 n) ∧ opnOut came l sf kf dim = [] := fun h1 h2 => ⟨by rw [h1]; exact erV_ne h2, opnOut_no (by rw [h1]; exact h2)⟩
  simp only [undef, push_cast, ↓Int.toNat_natCast, ↓Int.cast_ofNat_Int, Int.cast_ofNat_Int, ↓reduceIte, reduceCtorEq, Nat.reduceEqDiff, Nat.reduceLT, Nat.reduceLeDiff, Nat.reduceAdd, Nat.reduceSub, Nat.reduceMul, Int.reduceNeg, Int.reduceLE, Int.reduceLT, Int.reduceToNat, Int.reduceAdd, Int.reduceSub, Int.reduceMul, Int.reduceEq]
  refine callG_x rfl cb54 rfl (zero02OK dim (by simp only [push_cast, ↓Int.toNat_natCast, ↓Int.cast_ofNat_Int, Int.cast_ofNat_Int, ↓reduceIte, reduceCtorEq, Nat.reduceEqDiff, Nat.reduceLT, Nat.reduceLeDiff, Nat.reduceAdd, Nat.reduceSub, Nat.reduceMul, Int.reduceNeg, Int.reduceLE, Int.reduceLT, Int.reduceToNat, Int.reduceAdd, Int.reduceSub, Int.reduceMul, Int.reduceEq])) (dOk_lt rfl) (by simp only [push_cast, ↓Int.toNat_natCast, ↓Int.cast_ofNat_Int, Int.cast_ofNat_Int, ↓reduceIte, reduceCtorEq, Nat.reduceEqDiff, Nat.reduceLT, Nat.reduceLeDiff, Nat.reduceAdd, Nat.reduceSub, Nat.reduceMul, Int.reduceNeg, Int.reduceLE, Int.reduceLT, Int.reduceToNat, Int.reduceAdd, Int.reduceSub, Int.reduceMul, Int.reduceEq]) ?_
  cases hz : zOk dim
  · have ez : zErr dim = .iface 121 (.int .i64 1) := by unfold zErr; rw [hz]; rfl
    obtain ⟨h1, h2⟩ := no (opnNum_dim hz) (by decide)
    simp only [ez, h1, h2, undef, ownT2, ownT, push_cast, ↓Int.toNat_natCast, ↓Int.cast_ofNat_Int, Int.cast_ofNat_Int, ↓reduceIte, reduceCtorEq, Nat.reduceEqDiff, Nat.reduceLT, Nat.reduceLeDiff, Nat.reduceAdd, Nat.reduceSub, Nat.reduceMul, Int.reduceNeg, Int.reduceLE, Int.reduceLT, Int.reduceToNat, Int.reduceAdd, Int.reduceSub, Int.reduceMul, Int.reduceEq]
  have hz' : 0 ≤ dim ∧ dim ≤ 32 := of_decide_eq_true hz
  obtain ⟨d, rfl⟩ : ∃ d : Nat, dim = d := ⟨dim.toNat, by omega⟩
  have hd : d ≤ 32 := by omega
  have ez : zErr d = .nilIface := by unfold zErr; rw [hz]; rfl
  have eo : zOut d = ocTo d (fd sf) came 0 := by unfold zOut; rw [hz, Int.toNat_natCast]; exact (ocTo_zero d (fd sf) came).symm
  simp only [ez, eo, undef, push_cast, ↓Int.toNat_natCast, ↓Int.cast_ofNat_Int, Int.cast_ofNat_Int, ↓reduceIte, reduceCtorEq, Nat.reduceEqDiff, Nat.reduceLT, Nat.reduceLeDiff, Nat.reduceAdd, Nat.reduceSub, Nat.reduceMul, Int.reduceNeg, Int.reduceLE, Int.reduceLT, Int.reduceToNat, Int.reduceAdd, Int.reduceSub, Int.reduceMul, Int.reduceEq]
  refine callG_v rfl cb55 rfl (check09OK (showsR_raw hR hc)) (dOk_lt rfl) ?_
  cases hm : may l
  · obtain ⟨h1, h2⟩ := no (opnNum_may hm) (by decide)
    simp only [mayErr_no hm, h1, h2, undef, ownT2, ownT, push_cast, ↓Int.toNat_natCast, ↓Int.cast_ofNat_Int, Int.cast_ofNat_Int, ↓reduceIte, reduceCtorEq, Nat.reduceEqDiff, Nat.reduceLT, Nat.reduceLeDiff, Nat.reduceAdd, Nat.reduceSub, Nat.reduceMul, Int.reduceNeg, Int.reduceLE, Int.reduceLT, Int.reduceToNat, Int.reduceAdd, Int.reduceSub, Int.reduceMul, Int.reduceEq]
  have h64 := may_len hm
  simp only [mayErr_yes hm, undef, push_cast, ↓Int.toNat_natCast, ↓Int.cast_ofNat_Int, Int.cast_ofNat_Int, ↓reduceIte, reduceCtorEq, Nat.reduceEqDiff, Nat.reduceLT, Nat.reduceLeDiff, Nat.reduceAdd, Nat.reduceSub, Nat.reduceMul, Int.reduceNeg, Int.reduceLE, Int.reduceLT, Int.reduceToNat, Int.reduceAdd, Int.reduceSub, Int.reduceMul, Int.reduceEq]
  refine callG_v rfl cb56 rfl (amongOK (came := came) (l := l) hl hl2 (shows_raw hR2 _ _ (by simp) hc2) (showsR_raw hR hc)) (dOk_lt rfl) ?_
  cases ha : among came l
  · obtain ⟨h1, h2⟩ := no (opnNum_among ha) (by decide)
    simp only [h1, h2, undef, ownT2, ownT, push_cast, ↓Int.toNat_natCast, ↓Int.cast_ofNat_Int, Int.cast_ofNat_Int, ↓reduceIte, reduceCtorEq, Nat.reduceEqDiff, Nat.reduceLT, Nat.reduceLeDiff, Nat.reduceAdd, Nat.reduceSub, Nat.reduceMul, Int.reduceNeg, Int.reduceLE, Int.reduceLT, Int.reduceToNat, Int.reduceAdd, Int.reduceSub, Int.reduceMul, Int.reduceEq]
  simp only [undef, push_cast, ↓Int.toNat_natCast, ↓Int.cast_ofNat_Int, Int.cast_ofNat_Int, ↓reduceIte, reduceCtorEq, Nat.reduceEqDiff, Nat.reduceLT, Nat.reduceLeDiff, Nat.reduceAdd, Nat.reduceSub, Nat.reduceMul, Int.reduceNeg, Int.reduceLE, Int.reduceLT, Int.reduceToNat, Int.reduceAdd, Int.reduceSub, Int.reduceMul, Int.reduceEq]
  refine callG_v rfl cb57 rfl (givenOK (came := came) (l := l) (sf := sf) (kf := kf) hl hl2 (shows_raw hR2 _ _ (by simp) hc2) (showsR_raw hR hc) (fun γ w' hS => rawU_later hs hS) (fun γ w' hS => rawU_later hkv hS)) (dOk_lt rfl) ?_
  cases hg : given came l sf kf
  · obtain ⟨h1, h2⟩ := no (opnNum_given hz hm ha hg) (by decide)
    simp only [h1, h2, undef, ownT2, ownT, push_cast, ↓Int.toNat_natCast, ↓Int.cast_ofNat_Int, Int.cast_ofNat_Int, ↓reduceIte, reduceCtorEq, Nat.reduceEqDiff, Nat.reduceLT, Nat.reduceLeDiff, Nat.reduceAdd, Nat.reduceSub, Nat.reduceMul, Int.reduceNeg, Int.reduceLE, Int.reduceLT, Int.reduceToNat, Int.reduceAdd, Int.reduceSub, Int.reduceMul, Int.reduceEq]
  have hnum := opnNum_yes hz hm ha hg
  have hout := opnOut_yes hnum
  rw [Int.toNat_natCast] at hout
  simp only [undef, push_cast, ↓Int.toNat_natCast, ↓Int.cast_ofNat_Int, Int.cast_ofNat_Int, ↓reduceIte, reduceCtorEq, Nat.reduceEqDiff, Nat.reduceLT, Nat.reduceLeDiff, Nat.reduceAdd, Nat.reduceSub, Nat.reduceMul, Int.reduceNeg, Int.reduceLE, Int.reduceLT, Int.reduceToNat, Int.reduceAdd, Int.reduceSub, Int.reduceMul, Int.reduceEq]
  refine loop_rule (ι := Nat) (fun i => ⟨[(0, (.x (.a (.v (.slice A2 came.length c2))))), (1, (.x (.a (.v (.slice A l.length c))))), (2, .x (.a (.v sv))), (3, .x (.a (.v kv))), (4, .x (.a (.v (.int .i64 d)))), (12, .x (.a (.o 0))), (47, (.x (.a (.v (.slice A2 came.length c2))))), (48, .x (.a (.v (.int .i64 came.length)))), (49, .x (.a (.v (.int .i64 i))))], [.own 50 (.u32 (ocTo d (fd sf) came i))]⟩) (fun i => i ≤ came.length) (fun i => came.length - i) 0 [0] (by omega) ?_ ?_
  · simp only [push_cast, ↓Int.toNat_natCast, ↓Int.cast_ofNat_Int, Int.cast_ofNat_Int, ↓reduceIte, reduceCtorEq, Nat.reduceEqDiff, Nat.reduceLT, Nat.reduceLeDiff, Nat.reduceAdd, Nat.reduceSub, Nat.reduceMul, Int.reduceNeg, Int.reduceLE, Int.reduceLT, Int.reduceToNat, Int.reduceAdd, Int.reduceSub, Int.reduceMul, Int.reduceEq]
  · intro i hi
    by_cases hlt : (i : Int) < came.length
    · have i0 : (0 : Int) ≤ i := by omega
      have c0 : cellOf w (pAdd A2 i) = .int .i64 (ix came i) := G.cell i (by omega)
      have o0 := G.ok i (by omega)
      have hA := G.some_ (by omega)
      obtain ⟨v, hv⟩ := given_seed hg ha (i := i) (by omega)
      have hX := hs.look (ix came i)
      rw [hv] at hX
      have hX : lookX w sv (ix came i) = some (vU64 v) := hX
      have hraw := hs.raw
      have hfd := fd_some hv
      have hwe := wErr_yes (own_wOk d hd)
      have hwo := own_wOut v d hd
      have hop : opOk (ocTo d (fd sf) came i) (ownW v d) = true := opOk_len (ocTo_length _ _ _ _) (ownW_length _ _) hd
      have hso : opOut (· + ·) (ocTo d (fd sf) came i) (ownW v d) = ocTo d (fd sf) came (i + 1) := by rw [opOut_yes hop, ocTo_length, ocTo_succ, hfd]
      simp (config := { maxSteps := 600000 }) only [hlt, i0, c0, o0, hA, hX, hraw, undef, push_cast, ↓Int.toNat_natCast, ↓Int.cast_ofNat_Int, Int.cast_ofNat_Int, ↓reduceIte, reduceCtorEq, Nat.reduceEqDiff, Nat.reduceLT, Nat.reduceLeDiff, Nat.reduceAdd, Nat.reduceSub, Nat.reduceMul, Int.reduceNeg, Int.reduceLE, Int.reduceLT, Int.reduceToNat, Int.reduceAdd, Int.reduceSub, Int.reduceMul, Int.reduceEq]
      (repeat (refine And.intro (by first | omega | decide) ?_))
      refine callG_x rfl cb13 rfl (own10OK v d hk (by simp only [push_cast, ↓Int.toNat_natCast, ↓Int.cast_ofNat_Int, Int.cast_ofNat_Int, ↓reduceIte, reduceCtorEq, Nat.reduceEqDiff, Nat.reduceLT, Nat.reduceLeDiff, Nat.reduceAdd, Nat.reduceSub, Nat.reduceMul, Int.reduceNeg, Int.reduceLE, Int.reduceLT, Int.reduceToNat, Int.reduceAdd, Int.reduceSub, Int.reduceMul, Int.reduceEq])) (dOk_lt rfl) (by simp only [push_cast, ↓Int.toNat_natCast, ↓Int.cast_ofNat_Int, Int.cast_ofNat_Int, ↓reduceIte, reduceCtorEq, Nat.reduceEqDiff, Nat.reduceLT, Nat.reduceLeDiff, Nat.reduceAdd, Nat.reduceSub, Nat.reduceMul, Int.reduceNeg, Int.reduceLE, Int.reduceLT, Int.reduceToNat, Int.reduceAdd, Int.reduceSub, Int.reduceMul, Int.reduceEq]) ?_
      simp (config := { maxSteps := 600000 }) only [hwe, hwo, undef, push_cast, ↓Int.toNat_natCast, ↓Int.cast_ofNat_Int, Int.cast_ofNat_Int, ↓reduceIte, reduceCtorEq, Nat.reduceEqDiff, Nat.reduceLT, Nat.reduceLeDiff, Nat.reduceAdd, Nat.reduceSub, Nat.reduceMul, Int.reduceNeg, Int.reduceLE, Int.reduceLT, Int.reduceToNat, Int.reduceAdd, Int.reduceSub, Int.reduceMul, Int.reduceEq]
      refine callG_x rfl cb24 rfl (vecAddOK (shows_own rfl fun _ => rfl) (shows_own rfl fun _ => rfl) (by simp only [push_cast, ↓Int.toNat_natCast, ↓Int.cast_ofNat_Int, Int.cast_ofNat_Int, ↓reduceIte, reduceCtorEq, Nat.reduceEqDiff, Nat.reduceLT, Nat.reduceLeDiff, Nat.reduceAdd, Nat.reduceSub, Nat.reduceMul, Int.reduceNeg, Int.reduceLE, Int.reduceLT, Int.reduceToNat, Int.reduceAdd, Int.reduceSub, Int.reduceMul, Int.reduceEq])) (dOk_lt rfl) (by simp only [push_cast, ↓Int.toNat_natCast, ↓Int.cast_ofNat_Int, Int.cast_ofNat_Int, ↓reduceIte, reduceCtorEq, Nat.reduceEqDiff, Nat.reduceLT, Nat.reduceLeDiff, Nat.reduceAdd, Nat.reduceSub, Nat.reduceMul, Int.reduceNeg, Int.reduceLE, Int.reduceLT, Int.reduceToNat, Int.reduceAdd, Int.reduceSub, Int.reduceMul, Int.reduceEq]) ?_
      simp (config := { maxSteps := 600000 }) only [opErr_yes hop, hso, undef, push_cast, ↓Int.toNat_natCast, ↓Int.cast_ofNat_Int, Int.cast_ofNat_Int, ↓reduceIte, reduceCtorEq, Nat.reduceEqDiff, Nat.reduceLT, Nat.reduceLeDiff, Nat.reduceAdd, Nat.reduceSub, Nat.reduceMul, Int.reduceNeg, Int.reduceLE, Int.reduceLT, Int.reduceToNat, Int.reduceAdd, Int.reduceSub, Int.reduceMul, Int.reduceEq]
      (repeat (refine And.intro (by first | omega | decide) ?_))
      refine loopK_normal (i + 1) [2] (by omega) (by omega) ?_
      simp (config := { maxSteps := 600000 }) only [push_cast, ↓Int.toNat_natCast, ↓Int.cast_ofNat_Int, Int.cast_ofNat_Int, ↓reduceIte, reduceCtorEq, Nat.reduceEqDiff, Nat.reduceLT, Nat.reduceLeDiff, Nat.reduceAdd, Nat.reduceSub, Nat.reduceMul, Int.reduceNeg, Int.reduceLE, Int.reduceLT, Int.reduceToNat, Int.reduceAdd, Int.reduceSub, Int.reduceMul, Int.reduceEq]
    · have hil : i = came.length := by omega
      subst hil
      clear hi
      simp (config := { maxSteps := 600000 }) only [hlt, undef, push_cast, ↓Int.toNat_natCast, ↓Int.cast_ofNat_Int, Int.cast_ofNat_Int, ↓reduceIte, reduceCtorEq, Nat.reduceEqDiff, Nat.reduceLT, Nat.reduceLeDiff, Nat.reduceAdd, Nat.reduceSub, Nat.reduceMul, Int.reduceNeg, Int.reduceLE, Int.reduceLT, Int.reduceToNat, Int.reduceAdd, Int.reduceSub, Int.reduceMul, Int.reduceEq]
      have e0 := (soTo_zero d (fd kf) came l (ocTo d (fd sf) came came.length)).symm
      refine loop_rule (ι := Nat) (fun i => ⟨[(0, (.x (.a (.v (.slice A2 came.length c2))))), (1, (.x (.a (.v (.slice A l.length c))))), (3, .x (.a (.v kv))), (4, .x (.a (.v (.int .i64 d)))), (12, .x (.a (.o 0))), (74, (.x (.a (.v (.slice A l.length c))))), (75, .x (.a (.v (.int .i64 l.length)))), (76, .x (.a (.v (.int .i64 i))))], [.own 50 (.u32 (soTo d (fd kf) came l (ocTo d (fd sf) came came.length) i))]⟩) (fun i => i ≤ l.length) (fun i => l.length - i) 0 [0] (by omega) ?_ ?_
      · simp (config := { maxSteps := 600000 }) only [← e0, push_cast, ↓Int.toNat_natCast, ↓Int.cast_ofNat_Int, Int.cast_ofNat_Int, ↓reduceIte, reduceCtorEq, Nat.reduceEqDiff, Nat.reduceLT, Nat.reduceLeDiff, Nat.reduceAdd, Nat.reduceSub, Nat.reduceMul, Int.reduceNeg, Int.reduceLE, Int.reduceLT, Int.reduceToNat, Int.reduceAdd, Int.reduceSub, Int.reduceMul, Int.reduceEq]
      · intro i hi
        have hsl := soTo_length (f := fd kf) (came := came) (l := l) (ocTo_length d (fd sf) came came.length) i
        by_cases hlt : (i : Int) < l.length
        · have i0 : (0 : Int) ≤ i := by omega
          have c0 := F.c0 i (by omega)
          have c1 := F.c1 i (by omega)
          have o0 := F.ok0 i (by omega)
          have o1 := F.ok1 i (by omega)
          have hA := F.some_ (by omega)
          simp (config := { maxSteps := 600000 }) only [hlt, i0, c0, c1, o0, o1, hA, pAdd_zero, pAdd_add, pAdd_isSome, undef, push_cast, ↓Int.toNat_natCast, ↓Int.cast_ofNat_Int, Int.cast_ofNat_Int, ↓reduceIte, reduceCtorEq, Nat.reduceEqDiff, Nat.reduceLT, Nat.reduceLeDiff, Nat.reduceAdd, Nat.reduceSub, Nat.reduceMul, Int.reduceNeg, Int.reduceLE, Int.reduceLT, Int.reduceToNat, Int.reduceAdd, Int.reduceSub, Int.reduceMul, Int.reduceEq]
          (repeat (refine And.intro (by first | omega | decide) ?_))
          refine callG_v rfl cb58 rfl (containsIOK (l := came) (ix l i).1 hl2 (shows_raw hR2 _ _ (by simp) hc2)) (dOk_lt rfl) ?_
          cases hin : isIn came (ix l i).1
          · obtain ⟨v, hv⟩ := given_key hg (i := i) (by omega) hin
            have hX := hkv.look (ix l i).1
            rw [hv] at hX
            have hX : lookX w kv (ix l i).1 = some (vU64 v) := hX
            have hraw := hkv.raw
            have hwo := withL_ok (came := came) (i := i) hm (by omega) hd
            have hpo := hidW_out (came := came) (i := i) (fd kf) hm (by omega) hd
            rw [fd_some hv] at hpo
            have hop : opOk (soTo d (fd kf) came l (ocTo d (fd sf) came came.length) i) (hidW came l d (fd kf) i) = true := opOk_len hsl (hidW_length _ _ _ _ _) hd
            have hso : opOut (· - ·) (soTo d (fd kf) came l (ocTo d (fd sf) came came.length) i) (hidW came l d (fd kf) i) = soTo d (fd kf) came l (ocTo d (fd sf) came came.length) (i + 1) := by rw [opOut_yes hop, hsl, soTo_out hin]
            simp (config := { maxSteps := 600000 }) only [hlt, undef, push_cast, ↓Int.toNat_natCast, ↓Int.cast_ofNat_Int, Int.cast_ofNat_Int, ↓reduceIte, reduceCtorEq, Nat.reduceEqDiff, Nat.reduceLT, Nat.reduceLeDiff, Nat.reduceAdd, Nat.reduceSub, Nat.reduceMul, Int.reduceNeg, Int.reduceLE, Int.reduceLT, Int.reduceToNat, Int.reduceAdd, Int.reduceSub, Int.reduceMul, Int.reduceEq]
            refine draw_rule [(0, true), (1, true), (2, true), (3, true), (4, true), (5, true), (6, true), (7, true), (8, true), (10, true), (9, false), (11, false), (12, true), (13, true), (14, true), (15, true), (16, true)] (by kernel_rfl) (by kernel_rfl) rfl (by kernel_rfl) ?_
            simp (config := { maxSteps := 600000 }) only [hlt, hX, hraw, undef, push_cast, ↓Int.toNat_natCast, ↓Int.cast_ofNat_Int, Int.cast_ofNat_Int, ↓reduceIte, reduceCtorEq, Nat.reduceEqDiff, Nat.reduceLT, Nat.reduceLeDiff, Nat.reduceAdd, Nat.reduceSub, Nat.reduceMul, Int.reduceNeg, Int.reduceLE, Int.reduceLT, Int.reduceToNat, Int.reduceAdd, Int.reduceSub, Int.reduceMul, Int.reduceEq]
            (repeat (refine And.intro (by first | omega | decide) ?_))
            refine callM_x rfl cb59 rfl (withOK (ix l i) (by omega) hl2 (shows_raw hR2 _ _ (by simp) hc2) (showsR_raw hR hc) (by simp only [push_cast, ↓Int.toNat_natCast, ↓Int.cast_ofNat_Int, Int.cast_ofNat_Int, ↓reduceIte, reduceCtorEq, Nat.reduceEqDiff, Nat.reduceLT, Nat.reduceLeDiff, Nat.reduceAdd, Nat.reduceSub, Nat.reduceMul, Int.reduceNeg, Int.reduceLE, Int.reduceLT, Int.reduceToNat, Int.reduceAdd, Int.reduceSub, Int.reduceMul, Int.reduceEq])) (dOk_lt rfl) (by simp only [push_cast, ↓Int.toNat_natCast, ↓Int.cast_ofNat_Int, Int.cast_ofNat_Int, ↓reduceIte, reduceCtorEq, Nat.reduceEqDiff, Nat.reduceLT, Nat.reduceLeDiff, Nat.reduceAdd, Nat.reduceSub, Nat.reduceMul, Int.reduceNeg, Int.reduceLE, Int.reduceLT, Int.reduceToNat, Int.reduceAdd, Int.reduceSub, Int.reduceMul, Int.reduceEq]) ?_
            simp (config := { maxSteps := 600000 }) only [hlt, hX, hraw, undef, push_cast, ↓Int.toNat_natCast, ↓Int.cast_ofNat_Int, Int.cast_ofNat_Int, ↓reduceIte, reduceCtorEq, Nat.reduceEqDiff, Nat.reduceLT, Nat.reduceLeDiff, Nat.reduceAdd, Nat.reduceSub, Nat.reduceMul, Int.reduceNeg, Int.reduceLE, Int.reduceLT, Int.reduceToNat, Int.reduceAdd, Int.reduceSub, Int.reduceMul, Int.reduceEq]
            (repeat (refine And.intro (by first | omega | decide) ?_))
            refine callM_x rfl cb48 rfl (pairRowOK (l := withL (ix l i) came l) (ix l i).1 v d (showsR_pcs rfl) hk (by simp only [pcs_forall, push_cast, ↓Int.toNat_natCast, ↓Int.cast_ofNat_Int, Int.cast_ofNat_Int, ↓reduceIte, reduceCtorEq, Nat.reduceEqDiff, Nat.reduceLT, Nat.reduceLeDiff, Nat.reduceAdd, Nat.reduceSub, Nat.reduceMul, Int.reduceNeg, Int.reduceLE, Int.reduceLT, Int.reduceToNat, Int.reduceAdd, Int.reduceSub, Int.reduceMul, Int.reduceEq])) (dOk_lt rfl) (by simp only [pcs_forall, push_cast, ↓Int.toNat_natCast, ↓Int.cast_ofNat_Int, Int.cast_ofNat_Int, ↓reduceIte, reduceCtorEq, Nat.reduceEqDiff, Nat.reduceLT, Nat.reduceLeDiff, Nat.reduceAdd, Nat.reduceSub, Nat.reduceMul, Int.reduceNeg, Int.reduceLE, Int.reduceLT, Int.reduceToNat, Int.reduceAdd, Int.reduceSub, Int.reduceMul, Int.reduceEq]) ?_
            simp (config := { maxSteps := 600000 }) only [prErr_yes hwo, hpo, undef, push_cast, ↓Int.toNat_natCast, ↓Int.cast_ofNat_Int, Int.cast_ofNat_Int, ↓reduceIte, reduceCtorEq, Nat.reduceEqDiff, Nat.reduceLT, Nat.reduceLeDiff, Nat.reduceAdd, Nat.reduceSub, Nat.reduceMul, Int.reduceNeg, Int.reduceLE, Int.reduceLT, Int.reduceToNat, Int.reduceAdd, Int.reduceSub, Int.reduceMul, Int.reduceEq]
            (repeat (refine And.intro (by first | omega | decide) ?_))
            refine callG_x rfl cb22 rfl (vecSubOK (shows_own rfl fun _ => rfl) (shows_own rfl fun _ => rfl) (by simp only [pcs_forall, push_cast, ↓Int.toNat_natCast, ↓Int.cast_ofNat_Int, Int.cast_ofNat_Int, ↓reduceIte, reduceCtorEq, Nat.reduceEqDiff, Nat.reduceLT, Nat.reduceLeDiff, Nat.reduceAdd, Nat.reduceSub, Nat.reduceMul, Int.reduceNeg, Int.reduceLE, Int.reduceLT, Int.reduceToNat, Int.reduceAdd, Int.reduceSub, Int.reduceMul, Int.reduceEq])) (dOk_lt rfl) (by simp only [pcs_forall, push_cast, ↓Int.toNat_natCast, ↓Int.cast_ofNat_Int, Int.cast_ofNat_Int, ↓reduceIte, reduceCtorEq, Nat.reduceEqDiff, Nat.reduceLT, Nat.reduceLeDiff, Nat.reduceAdd, Nat.reduceSub, Nat.reduceMul, Int.reduceNeg, Int.reduceLE, Int.reduceLT, Int.reduceToNat, Int.reduceAdd, Int.reduceSub, Int.reduceMul, Int.reduceEq]) ?_
            simp (config := { maxSteps := 600000 }) only [opErr_yes hop, hso, undef, push_cast, ↓Int.toNat_natCast, ↓Int.cast_ofNat_Int, Int.cast_ofNat_Int, ↓reduceIte, reduceCtorEq, Nat.reduceEqDiff, Nat.reduceLT, Nat.reduceLeDiff, Nat.reduceAdd, Nat.reduceSub, Nat.reduceMul, Int.reduceNeg, Int.reduceLE, Int.reduceLT, Int.reduceToNat, Int.reduceAdd, Int.reduceSub, Int.reduceMul, Int.reduceEq]
            (repeat (refine And.intro (by first | omega | decide) ?_))
            refine loopK_normal (i + 1) [4] (by omega) (by omega) ?_
            simp (config := { maxSteps := 600000 }) only [push_cast, ↓Int.toNat_natCast, ↓Int.cast_ofNat_Int, Int.cast_ofNat_Int, ↓reduceIte, reduceCtorEq, Nat.reduceEqDiff, Nat.reduceLT, Nat.reduceLeDiff, Nat.reduceAdd, Nat.reduceSub, Nat.reduceMul, Int.reduceNeg, Int.reduceLE, Int.reduceLT, Int.reduceToNat, Int.reduceAdd, Int.reduceSub, Int.reduceMul, Int.reduceEq]
          · have hso := soTo_in (d := d) (f := fd kf) (s := ocTo d (fd sf) came came.length) hin
            simp (config := { maxSteps := 600000 }) only [hlt, undef, push_cast, ↓Int.toNat_natCast, ↓Int.cast_ofNat_Int, Int.cast_ofNat_Int, ↓reduceIte, reduceCtorEq, Nat.reduceEqDiff, Nat.reduceLT, Nat.reduceLeDiff, Nat.reduceAdd, Nat.reduceSub, Nat.reduceMul, Int.reduceNeg, Int.reduceLE, Int.reduceLT, Int.reduceToNat, Int.reduceAdd, Int.reduceSub, Int.reduceMul, Int.reduceEq]
            (repeat (refine And.intro (by first | omega | decide) ?_))
            refine loopK_normal (i + 1) [0] (by omega) (by omega) ?_
            simp (config := { maxSteps := 600000 }) only [hso, push_cast, ↓Int.toNat_natCast, ↓Int.cast_ofNat_Int, Int.cast_ofNat_Int, ↓reduceIte, reduceCtorEq, Nat.reduceEqDiff, Nat.reduceLT, Nat.reduceLeDiff, Nat.reduceAdd, Nat.reduceSub, Nat.reduceMul, Int.reduceNeg, Int.reduceLE, Int.reduceLT, Int.reduceToNat, Int.reduceAdd, Int.reduceSub, Int.reduceMul, Int.reduceEq]
        · have hil : i = l.length := by omega
          subst hil
          have e1 : erV (opnNum came l sf kf d) = .nilIface := by rw [hnum]; rfl
          have e2 : soTo d (fd kf) came l (ocTo d (fd sf) came came.length) l.length = opnOut came l sf kf d := (opnVal_eq came l sf kf d).trans hout.symm
          simp (config := { maxSteps := 600000 }) only [hlt, e1, e2, undef, ownT2, ownT, push_cast, ↓Int.toNat_natCast, ↓Int.cast_ofNat_Int, Int.cast_ofNat_Int, ↓reduceIte, reduceCtorEq, Nat.reduceEqDiff, Nat.reduceLT, Nat.reduceLeDiff, Nat.reduceAdd, Nat.reduceSub, Nat.reduceMul, Int.reduceNeg, Int.reduceLE, Int.reduceLT, Int.reduceToNat, Int.reduceAdd, Int.reduceSub, Int.reduceMul, Int.reduceEq]
theorem blindOpenOK {w0 : World} {hp : List Res} {s1 s2 s3 s4 : Sv} {came : List Int} {l : List Pr} {sf kf : Int → Option UInt64} (dim : Int) (hl : l.length ≤ 1000000) (hl2 : came.length ≤ 1000000) (h1 : Shows w0 No hp s1 (came.map vI64)) (h2 : ShowsR w0 No hp s2 l.length (pvs l)) (h3 : ShowsM w0 No hp s3 sf) (h4 : ShowsM w0 No hp s4 kf) (hk : LaidK 2 w0) (hbr : ∀ r ∈ hp, Res.bnd hp.length r) :
    CallOK Tryd.prog w0 No 15 [s1, s2, s3, s4, .x (.a (.v (.int .i64 dim)))] hp (.t [.a (.o hp.length), .a (.v (erV (opnNum came l sf kf dim)))]) (hp ++ [.own 50 (.u32 (opnOut came l sf kf dim))]) := callOK_own2 hbr trivial fun γ w hS => by
  obtain ⟨A, c, e1, b1, r1⟩ := h1 γ w hS
  obtain ⟨A2, c2, e2, b2, r2⟩ := h2 γ w hS
  rw [List.length_map] at e1 b1
  show Calls _ _ #[s1.val γ, s2.val γ, s3.val γ, s4.val γ, .int .i64 dim] w _
  rw [e1, e2]
  exact blindOpen_any came l sf kf _ _ dim A2 c2 A c w hl hl2 b2 b1 r2 r1 (h3 γ w hS) (h4 γ w hS) (laid_later hk hS)
end Go.Proofs.YteiifdpikcnbgaaDoor
