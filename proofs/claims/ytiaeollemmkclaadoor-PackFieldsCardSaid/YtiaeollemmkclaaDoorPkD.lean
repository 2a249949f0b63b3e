import Derived.Test.YtiaeollemmkclaaDoorPkC
import Derived.Test.YtiaeollemmkclaaDoorNs13
/- Fields as they came in; law 13's same, blank, great. -/
namespace Go.Proofs.YtiaeollemmkclaaDoor
open Go.RowKit
set_option linter.unusedSimpArgs false
set_option linter.unusedVariables false
/-- A slice as it lies there. -/
structure SlR (α : Type) where
  A : Option Addr
  c : Nat
  l : List α
def SlR.val {α : Type} (s : SlR α) : Value := .slice s.A s.l.length s.c
structure SlR.Ok {α : Type} (s : SlR α) (f : α → Value) (w : World) : Prop where
  len : s.l.length ≤ s.c
  rd : RdV w w.heap.size s.A (s.l.map f)
/-- A field as it came in. -/
structure FdR where
  k : UInt8
  n : UInt64
  l : SlR UInt64
  b : SlR UInt8
  s : List UInt8
  x : SlR UInt32
  many : Int
  most : UInt64
def FdR.fd (f : FdR) : Fd := ⟨f.k, f.n, f.l.l, f.b.l, f.s, f.x.l, f.many, f.most⟩
def fdV (f : FdR) : List Value := [vU8 f.k, vU64 f.n, f.l.val, f.b.val] ++ (f.s.map vU8 ++ [f.x.val, .int .i64 f.many, vU64 f.most])
def fdA (f : FdR) : List At := [.v (vU8 f.k), .v (vU64 f.n), .v f.l.val, .v f.b.val] ++ (f.s.map f8 ++ [.v f.x.val, .v (.int .i64 f.many), .v (vU64 f.most)])
structure FdR.Ok (f : FdR) (w : World) : Prop where
  l : f.l.Ok vU64 w
  b : f.b.Ok vU8 w
  s : f.s.length = 32
  x : f.x.Ok vU32 w
  many : -9223372036854775808 ≤ f.many ∧ f.many ≤ 9223372036854775807
theorem fdA_eq (f : FdR) : fdA f = (fdV f).map At.v := by
  unfold fdA fdV
  rw [List.map_append, List.map_append, List.map_map]
  rfl
theorem fdA_val (f : FdR) (γ : List Nm) : (fdA f).map (At.val γ) = fdV f := by
  rw [fdA_eq, List.map_map]
  show (fdV f).map (fun x => x) = _
  exact List.map_id' _
theorem fdA_sv (f : FdR) (γ : List Nm) : (Sv.x (.g (fdA f))).val γ = .agg (fdV f).toArray := by
  show Value.agg _ = _
  rw [fdA_val]
theorem fdA_len {f : FdR} (h : f.s.length = 32) : (fdA f).length = 39 := by simp [fdA, h]
theorem fdA_get {f : FdR} (h : f.s.length = 32) : (∀ d, (fdA f).getD 0 d = .v (vU8 f.k)) ∧ (∀ d, (fdA f).getD 1 d = .v (vU64 f.n)) ∧ (∀ d, (fdA f).getD 2 d = .v f.l.val) ∧ (∀ d, (fdA f).getD 3 d = .v f.b.val) ∧ (∀ d, (fdA f).getD 36 d = .v f.x.val) ∧ (∀ d, (fdA f).getD 37 d = .v (.int .i64 f.many)) ∧ (∀ d, (fdA f).getD 38 d = .v (vU64 f.most)) := by
  refine ⟨fun d => rfl, fun d => rfl, fun d => rfl, fun d => rfl, fun d => ?_, fun d => ?_, fun d => ?_⟩ <;> simp [fdA, List.getD_eq_getElem?_getD, List.getElem?_append_right, h]
theorem fdA_s {f : FdR} (h : f.s.length = 32) : ((fdA f).drop 4).take 32 = f.s.map f8 := by
  have e : (fdA f).drop 4 = f.s.map f8 ++ [.v f.x.val, .v (.int .i64 f.many), .v (vU64 f.most)] := rfl
  rw [e, List.take_append_of_le_length (by simp [h]), List.take_of_length_le (by simp [h])]
theorem fdA_all {f : FdR} {q : At → Prop} (h : ∀ v : Value, v.oneCell' = true → scalar v → q (.v v)) : (∀ x ∈ fdA f, q x) = True := eq_true fun x hx => by
  unfold fdA at hx
  simp only [List.mem_append, List.mem_cons, List.mem_map, List.not_mem_nil, or_false] at hx
  rcases hx with (rfl | rfl | rfl | rfl) | ⟨y, _, rfl⟩ | rfl | rfl | rfl <;> exact h _ rfl trivial
theorem fdA_scalar (f : FdR) (hp : List Res) : (∀ x ∈ fdA f, x.scalar hp) = True := fdA_all fun v _ h => h
theorem fdA_one (f : FdR) (hp : List Res) : (∀ x ∈ fdA f, x.one hp) = True := fdA_all fun v h _ => h
theorem fdA_bnd (f : FdR) (n : Nat) : (∀ x ∈ fdA f, x.bnd n) = True := fdA_all fun v _ _ => trivial
theorem fdA_ren (f : FdR) (ρ : List Nat) : (fdA f).map (At.ren ρ) = fdA f := by
  rw [fdA_eq, List.map_map]
  rfl
theorem fdA_cbnd (f : FdR) (n : Nat) : Cont.bnd n (.c (fdA f)) = True := fdA_bnd f n
theorem fdA_sbnd (f : FdR) (n : Nat) : Sc.bnd n (.g (fdA f)) = True := fdA_bnd f n
theorem fdA_vbnd (f : FdR) (n : Nat) : Sv.bnd n (.x (.g (fdA f))) = True := fdA_bnd f n
theorem fdA_cont (f : FdR) (hp : List Res) : Sc.cont hp (.g (fdA f)) = (True, .c (fdA f)) := by
  show (_, _) = _
  rw [fdA_scalar]
theorem fdA_cren (f : FdR) (ρ : List Nat) : Cont.ren ρ (.c (fdA f)) = .c (fdA f) := by
  show Cont.c _ = _
  rw [fdA_ren]
theorem fdA_sren (f : FdR) (ρ : List Nat) : Sc.ren ρ (.g (fdA f)) = .g (fdA f) := by
  show Sc.g _ = _
  rw [fdA_ren]
theorem fdA_vren (f : FdR) (ρ : List Nat) : Sv.ren ρ (.x (.g (fdA f))) = .x (.g (fdA f)) := by
  show Sv.x (Sc.g _) = _
  rw [fdA_ren]
theorem str8_cmp (a b : List UInt8) : ((bstr a).toList == (bstr b).toList) = decide (a = b) := by
  rw [ByteArray.toList_eq, ByteArray.toList_eq]
  show (a == b) = decide (a = b)
  by_cases h : a = b
  · subst h; simp
  · rw [decide_eq_false h, beq_eq_false_iff_ne]
    exact h
def sameF (f g : Fd) : Bool := decide (f.n = g.n ∧ f.l = g.l ∧ f.b = g.b ∧ f.s = g.s ∧ f.x = g.x)
attribute [local irreducible] Callable CallOK CallG CallM DrawG LoopG symR symM
attribute [local irreducible] fdA
set_option maxRecDepth 100000 in
set_option maxHeartbeats 1000000 in
theorem same13_any (f g : FdR) (w : World) (hf : f.Ok w) (hg : g.Ok w) (hl : f.l.l.length ≤ 100000) (hx : f.x.l.length ≤ 100000) :
    Calls Tryd.prog 23 (List.map (Sv.val []) [.x (.g (fdA f)), .x (.g (fdA g))]).toArray w fun e w' => e = .returned (.bool (sameF f.fd g.fd)) ∧ Below w.heap.size w w' := by
  obtain ⟨f0, f1, f2, f3, f36, f37, f38⟩ := fdA_get hf.s
  obtain ⟨g0, g1, g2, g3, g36, g37, g38⟩ := fdA_get hg.s
  have fl := fdA_len hf.s
  have gl := fdA_len hg.s
  have fs := fdA_s hf.s
  have gs := fdA_s hg.s
  have hfs := hf.s
  have hgs := hg.s
  have F := F8.of (FV.no hf.b.rd)
  have G := F8.of (FV.no hg.b.rd)
  have r1 := F.rd
  have r2 := F.rdOk
  have r3 := G.rd
  have r4 := G.rdOk
  refine calls_v (n := 40) Tryd.func23 rfl Tryd.ntmps23 [.x (.g (fdA f)), .x (.g (fdA g))] (by simp) (.x (.a (.v (.bool (sameF f.fd g.fd))))) (fun _ => rfl) ?_
  have cn : ∀ hp, CallOK Tryd.prog w No 72 [.x (.a (.v f.l.val)), .x (.a (.v g.l.val))] hp (.x (.a (.v (.bool (decide (f.l.l = g.l.l)))))) hp := fun hp => nums13OK hl (shows_raw hf.l.rd _ _ (by simp) hf.l.len) (shows_raw hg.l.rd _ _ (by simp) hg.l.len)
  have cx : ∀ hp, CallOK Tryd.prog w No 71 [.x (.a (.v f.x.val)), .x (.a (.v g.x.val))] hp (.x (.a (.v (.bool (decide (f.x.l = g.x.l)))))) hp := fun hp => refSame32OK hx (shows_raw hf.x.rd _ _ (by simp) hf.x.len) (shows_raw hg.x.rd _ _ (by simp) hg.x.len)
  have fb := fun n => fdA_bnd f n
  have gb := fun n => fdA_bnd g n
  simp only [At.bnd] at fb gb
  by_cases h1 : f.n = g.n
  · by_cases h2 : f.l.l = g.l.l
    · by_cases h3 : f.b.l = g.b.l
      · have e3 := str8_cmp f.b.l g.b.l
        rw [decide_eq_true h3] at e3
        by_cases h4 : f.s = g.s
        · have hs : sameF f.fd g.fd = decide (f.x.l = g.x.l) := by
            by_cases h5 : f.x.l = g.x.l
            · rw [decide_eq_true h5]; exact decide_eq_true ⟨h1, h2, h3, h4, h5⟩
            · rw [decide_eq_false h5]; exact decide_eq_false fun h => h5 h.2.2.2.2
          simp (config := { maxSteps := 1000000 }) only [fb, gb, fl, gl, f0, f1, f2, f3, f36, f37, f38, g0, g1, g2, g3, g36, g37, g38, ↓fdA_cbnd, ↓fdA_sbnd, ↓fdA_vbnd, ↓fdA_cont, ↓fdA_cren, ↓fdA_sren, ↓fdA_vren, h1, undef, push_cast, ↓Int.toNat_natCast, ↓Int.cast_ofNat_Int, Int.cast_ofNat_Int, ↓reduceIte, reduceCtorEq, Nat.reduceEqDiff, Nat.reduceLT, Nat.reduceLeDiff, Nat.reduceAdd, Nat.reduceSub, Nat.reduceMul, Int.reduceNeg, Int.reduceLE, Int.reduceLT, Int.reduceToNat, Int.reduceAdd, Int.reduceSub, Int.reduceMul, Int.reduceEq]
          (repeat (refine And.intro (by first | omega | decide) ?_))
          refine callG_v rfl cb72 rfl (cn _) (dOk_lt rfl) ?_
          simp (config := { maxSteps := 1000000 }) only [fb, gb, fl, gl, f0, f1, f2, f3, f36, f37, f38, g0, g1, g2, g3, g36, g37, g38, ↓fdA_cbnd, ↓fdA_sbnd, ↓fdA_vbnd, ↓fdA_cont, ↓fdA_cren, ↓fdA_sren, ↓fdA_vren, h1, h2, SlR.val, r1, r2, r3, r4, fs, gs, hfs, hgs, e3, h4, undef, push_cast, ↓Int.toNat_natCast, ↓Int.cast_ofNat_Int, Int.cast_ofNat_Int, ↓reduceIte, reduceCtorEq, Nat.reduceEqDiff, Nat.reduceLT, Nat.reduceLeDiff, Nat.reduceAdd, Nat.reduceSub, Nat.reduceMul, Int.reduceNeg, Int.reduceLE, Int.reduceLT, Int.reduceToNat, Int.reduceAdd, Int.reduceSub, Int.reduceMul, Int.reduceEq]
          (repeat (refine And.intro (by first | omega | decide) ?_))
          refine callG_v rfl cb71 rfl (cx _) (dOk_lt rfl) ?_
          simp (config := { maxSteps := 1000000 }) only [hs, undef, push_cast, ↓Int.toNat_natCast, ↓Int.cast_ofNat_Int, Int.cast_ofNat_Int, ↓reduceIte, reduceCtorEq, Nat.reduceEqDiff, Nat.reduceLT, Nat.reduceLeDiff, Nat.reduceAdd, Nat.reduceSub, Nat.reduceMul, Int.reduceNeg, Int.reduceLE, Int.reduceLT, Int.reduceToNat, Int.reduceAdd, Int.reduceSub, Int.reduceMul, Int.reduceEq]
        · have hs : sameF f.fd g.fd = false := decide_eq_false fun h => h4 h.2.2.2.1
          simp (config := { maxSteps := 1000000 }) only [fb, gb, fl, gl, f0, f1, f2, f3, f36, f37, f38, g0, g1, g2, g3, g36, g37, g38, ↓fdA_cbnd, ↓fdA_sbnd, ↓fdA_vbnd, ↓fdA_cont, ↓fdA_cren, ↓fdA_sren, ↓fdA_vren, h1, undef, push_cast, ↓Int.toNat_natCast, ↓Int.cast_ofNat_Int, Int.cast_ofNat_Int, ↓reduceIte, reduceCtorEq, Nat.reduceEqDiff, Nat.reduceLT, Nat.reduceLeDiff, Nat.reduceAdd, Nat.reduceSub, Nat.reduceMul, Int.reduceNeg, Int.reduceLE, Int.reduceLT, Int.reduceToNat, Int.reduceAdd, Int.reduceSub, Int.reduceMul, Int.reduceEq]
          (repeat (refine And.intro (by first | omega | decide) ?_))
          refine callG_v rfl cb72 rfl (cn _) (dOk_lt rfl) ?_
          simp (config := { maxSteps := 1000000 }) only [fb, gb, fl, gl, f0, f1, f2, f3, f36, f37, f38, g0, g1, g2, g3, g36, g37, g38, ↓fdA_cbnd, ↓fdA_sbnd, ↓fdA_vbnd, ↓fdA_cont, ↓fdA_cren, ↓fdA_sren, ↓fdA_vren, h1, h2, SlR.val, r1, r2, r3, r4, fs, gs, hfs, hgs, e3, h4, hs, undef, push_cast, ↓Int.toNat_natCast, ↓Int.cast_ofNat_Int, Int.cast_ofNat_Int, ↓reduceIte, reduceCtorEq, Nat.reduceEqDiff, Nat.reduceLT, Nat.reduceLeDiff, Nat.reduceAdd, Nat.reduceSub, Nat.reduceMul, Int.reduceNeg, Int.reduceLE, Int.reduceLT, Int.reduceToNat, Int.reduceAdd, Int.reduceSub, Int.reduceMul, Int.reduceEq]
      · have e3 := str8_cmp f.b.l g.b.l
        rw [decide_eq_false h3] at e3
        have hs : sameF f.fd g.fd = false := decide_eq_false fun h => h3 h.2.2.1
        simp (config := { maxSteps := 1000000 }) only [fb, gb, fl, gl, f0, f1, f2, f3, f36, f37, f38, g0, g1, g2, g3, g36, g37, g38, ↓fdA_cbnd, ↓fdA_sbnd, ↓fdA_vbnd, ↓fdA_cont, ↓fdA_cren, ↓fdA_sren, ↓fdA_vren, h1, undef, push_cast, ↓Int.toNat_natCast, ↓Int.cast_ofNat_Int, Int.cast_ofNat_Int, ↓reduceIte, reduceCtorEq, Nat.reduceEqDiff, Nat.reduceLT, Nat.reduceLeDiff, Nat.reduceAdd, Nat.reduceSub, Nat.reduceMul, Int.reduceNeg, Int.reduceLE, Int.reduceLT, Int.reduceToNat, Int.reduceAdd, Int.reduceSub, Int.reduceMul, Int.reduceEq]
        (repeat (refine And.intro (by first | omega | decide) ?_))
        refine callG_v rfl cb72 rfl (cn _) (dOk_lt rfl) ?_
        simp (config := { maxSteps := 1000000 }) only [fb, gb, fl, gl, f0, f1, f2, f3, f36, f37, f38, g0, g1, g2, g3, g36, g37, g38, ↓fdA_cbnd, ↓fdA_sbnd, ↓fdA_vbnd, ↓fdA_cont, ↓fdA_cren, ↓fdA_sren, ↓fdA_vren, h1, h2, SlR.val, r1, r2, r3, r4, fs, gs, hfs, hgs, e3, hs, undef, push_cast, ↓Int.toNat_natCast, ↓Int.cast_ofNat_Int, Int.cast_ofNat_Int, ↓reduceIte, reduceCtorEq, Nat.reduceEqDiff, Nat.reduceLT, Nat.reduceLeDiff, Nat.reduceAdd, Nat.reduceSub, Nat.reduceMul, Int.reduceNeg, Int.reduceLE, Int.reduceLT, Int.reduceToNat, Int.reduceAdd, Int.reduceSub, Int.reduceMul, Int.reduceEq]
    · have hs : sameF f.fd g.fd = false := decide_eq_false fun h => h2 h.2.1
      simp (config := { maxSteps := 1000000 }) only [fb, gb, fl, gl, f0, f1, f2, f3, f36, f37, f38, g0, g1, g2, g3, g36, g37, g38, ↓fdA_cbnd, ↓fdA_sbnd, ↓fdA_vbnd, ↓fdA_cont, ↓fdA_cren, ↓fdA_sren, ↓fdA_vren, h1, undef, push_cast, ↓Int.toNat_natCast, ↓Int.cast_ofNat_Int, Int.cast_ofNat_Int, ↓reduceIte, reduceCtorEq, Nat.reduceEqDiff, Nat.reduceLT, Nat.reduceLeDiff, Nat.reduceAdd, Nat.reduceSub, Nat.reduceMul, Int.reduceNeg, Int.reduceLE, Int.reduceLT, Int.reduceToNat, Int.reduceAdd, Int.reduceSub, Int.reduceMul, Int.reduceEq]
      (repeat (refine And.intro (by first | omega | decide) ?_))
      refine callG_v rfl cb72 rfl (cn _) (dOk_lt rfl) ?_
      simp (config := { maxSteps := 1000000 }) only [fb, gb, fl, gl, f0, f1, f2, f3, f36, f37, f38, g0, g1, g2, g3, g36, g37, g38, ↓fdA_cbnd, ↓fdA_sbnd, ↓fdA_vbnd, ↓fdA_cont, ↓fdA_cren, ↓fdA_sren, ↓fdA_vren, h1, h2, SlR.val, r1, r2, r3, r4, fs, gs, hfs, hgs, hs, undef, push_cast, ↓Int.toNat_natCast, ↓Int.cast_ofNat_Int, Int.cast_ofNat_Int, ↓reduceIte, reduceCtorEq, Nat.reduceEqDiff, Nat.reduceLT, Nat.reduceLeDiff, Nat.reduceAdd, Nat.reduceSub, Nat.reduceMul, Int.reduceNeg, Int.reduceLE, Int.reduceLT, Int.reduceToNat, Int.reduceAdd, Int.reduceSub, Int.reduceMul, Int.reduceEq]
  · have hs : sameF f.fd g.fd = false := decide_eq_false fun h => h1 h.1
    simp (config := { maxSteps := 1000000 }) only [fb, gb, fl, gl, f0, f1, f2, f3, f36, f37, f38, g0, g1, g2, g3, g36, g37, g38, ↓fdA_cbnd, ↓fdA_sbnd, ↓fdA_vbnd, ↓fdA_cont, ↓fdA_cren, ↓fdA_sren, ↓fdA_vren, h1, hs, undef, push_cast, ↓Int.toNat_natCast, ↓Int.cast_ofNat_Int, Int.cast_ofNat_Int, ↓reduceIte, reduceCtorEq, Nat.reduceEqDiff, Nat.reduceLT, Nat.reduceLeDiff, Nat.reduceAdd, Nat.reduceSub, Nat.reduceMul, Int.reduceNeg, Int.reduceLE, Int.reduceLT, Int.reduceToNat, Int.reduceAdd, Int.reduceSub, Int.reduceMul, Int.reduceEq]
/-- A field that lies there, by whatever names it is told. -/
def ShowsFd (w0 : World) (hp : List Res) (sv : Sv) (f : Fd) : Prop := ∀ γ w, Sat w0 No γ hp w → ∃ a : FdR, sv.val γ = .agg (fdV a).toArray ∧ a.Ok w ∧ a.fd = f
theorem same13K {w0 : World} {hp : List Res} {s1 s2 : Sv} {f g : Fd} (h1 : ShowsFd w0 hp s1 f) (h2 : ShowsFd w0 hp s2 g) (hl : f.l.length ≤ 100000) (hx : f.x.length ≤ 100000) : CallOK Tryd.prog w0 No 23 [s1, s2] hp (.x (.a (.v (.bool (sameF f g))))) hp := callOK_v fun γ w hS => by
  obtain ⟨a, e1, a1, rfl⟩ := h1 γ w hS
  obtain ⟨b, e2, b1, rfl⟩ := h2 γ w hS
  have := same13_any a b w a1 b1 hl hx
  have e : List.map (Sv.val γ) [s1, s2] = List.map (Sv.val []) [.x (.g (fdA a)), .x (.g (fdA b))] := by
    simp only [List.map_cons, List.map_nil, e1, e2, fdA_sv]
  rw [e]
  exact this
theorem showsFd_raw {w0 : World} {hp : List Res} {a : FdR} (h : a.Ok w0) : ShowsFd w0 hp (.x (.g (fdA a))) a.fd := fun γ w hS =>
  ⟨a, fdA_sv a γ, ⟨⟨h.l.len, rd_later h.l.rd hS⟩, ⟨h.b.len, rd_later h.b.rd hS⟩, h.s, ⟨h.x.len, rd_later h.x.rd hS⟩, h.many⟩, rfl⟩
end Go.Proofs.YtiaeollemmkclaaDoor
