import Derived.Test.YtiaeollemmkclaaDoorMgF
/- Law 16: MsgBack. -/
namespace Go.Proofs.YtiaeollemmkclaaDoor
open Go.RowKit
set_option linter.unusedSimpArgs false
set_option linter.unusedVariables false
/-- The region that gives both messages: how it stands, by what is done. -/
def mbF (a b : MgR) (cut : Nat) : Nat → S
  | 0 => ⟨[(2, .x (.a (.v (.int .u16 cut)))), (26, .x (.g (mgA a))), (28, .x (.g (mgA b)))], [.blk 83 (.c (mgA a)), .blk 83 (.c (mgA b))]⟩
  | 1 => ⟨[(2, .x (.a (.v (.int .u16 cut)))), (26, .x (.g (mgA a))), (28, .x (.g (mgA b))), (27, .x (.g (mgO a.mg 2 3 4 5)))], [.blk 83 (.c (mgA a)), .blk 83 (.c (mgA b)), .own 3 (.i64 a.ids.l), .own 27 (.u64 a.ns.l), .onn 160 2 (.c (pcs a.ps.l)), .own 136 (.u32 a.xs.l)]⟩
  | 2 => ⟨[(2, .x (.a (.v (.int .u16 cut)))), (26, .x (.g (mgA a))), (28, .x (.g (mgA b))), (7, .x (.a (.p 2 0)))], [.blk 83 (.c (mgA a)), .blk 83 (.c (mgA b)), .blk 89 (.c (mgA zeroR))]⟩
  | 3 => ⟨[(2, .x (.a (.v (.int .u16 cut)))), (26, .x (.g (mgA a))), (28, .x (.g (mgA b))), (8, .x (.a (.p 2 0)))], [.blk 83 (.c (mgA a)), .blk 83 (.c (mgA b)), .blk 89 (.c (mgA zeroR))]⟩
  | 4 => ⟨[(2, .x (.a (.v (.int .u16 cut)))), (26, .x (.g (mgA a))), (28, .x (.g (mgA b))), (27, .x (.g (mgO a.mg 2 3 4 5))), (29, .x (.g (mgO b.mg 6 7 8 9)))], [.blk 83 (.c (mgA a)), .blk 83 (.c (mgA b)), .own 3 (.i64 a.ids.l), .own 27 (.u64 a.ns.l), .onn 160 2 (.c (pcs a.ps.l)), .own 136 (.u32 a.xs.l), .own 3 (.i64 b.ids.l), .own 27 (.u64 b.ns.l), .onn 160 2 (.c (pcs b.ps.l)), .own 136 (.u32 b.xs.l)]⟩
  | 5 => ⟨[(2, .x (.a (.v (.int .u16 cut)))), (26, .x (.g (mgA a))), (28, .x (.g (mgA b))), (27, .x (.g (mgO a.mg 2 3 4 5))), (7, .x (.a (.p 6 0)))], [.blk 83 (.c (mgA a)), .blk 83 (.c (mgA b)), .own 3 (.i64 a.ids.l), .own 27 (.u64 a.ns.l), .onn 160 2 (.c (pcs a.ps.l)), .own 136 (.u32 a.xs.l), .blk 89 (.c (mgA zeroR))]⟩
  | 6 => ⟨[(2, .x (.a (.v (.int .u16 cut)))), (26, .x (.g (mgA a))), (28, .x (.g (mgA b))), (27, .x (.g (mgO a.mg 2 3 4 5))), (8, .x (.a (.p 6 0)))], [.blk 83 (.c (mgA a)), .blk 83 (.c (mgA b)), .own 3 (.i64 a.ids.l), .own 27 (.u64 a.ns.l), .onn 160 2 (.c (pcs a.ps.l)), .own 136 (.u32 a.xs.l), .blk 89 (.c (mgA zeroR))]⟩
  | 7 => ⟨[(2, .x (.a (.v (.int .u16 cut)))), (26, .x (.g (mgA a))), (28, .x (.g (mgA b))), (7, .x (.a (.p 2 0))), (8, .x (.a (.p 3 0)))], [.blk 83 (.c (mgA a)), .blk 83 (.c (mgA b)), .blk 89 (.c (mgA zeroR)), .blk 89 (.c (mgA zeroR))]⟩
  | 8 => ⟨[(2, .x (.a (.v (.int .u16 cut)))), (26, .x (.g (mgA a))), (28, .x (.g (mgA b))), (27, .x (.g (mgO a.mg 2 3 4 5))), (29, .x (.g (mgO b.mg 6 7 8 9))), (7, .x (.a (.p 10 0)))], [.blk 83 (.c (mgA a)), .blk 83 (.c (mgA b)), .own 3 (.i64 a.ids.l), .own 27 (.u64 a.ns.l), .onn 160 2 (.c (pcs a.ps.l)), .own 136 (.u32 a.xs.l), .own 3 (.i64 b.ids.l), .own 27 (.u64 b.ns.l), .onn 160 2 (.c (pcs b.ps.l)), .own 136 (.u32 b.xs.l), .blk 89 (.c (mgA zeroR))]⟩
  | 9 => ⟨[(2, .x (.a (.v (.int .u16 cut)))), (26, .x (.g (mgA a))), (28, .x (.g (mgA b))), (27, .x (.g (mgO a.mg 2 3 4 5))), (29, .x (.g (mgO b.mg 6 7 8 9))), (8, .x (.a (.p 10 0)))], [.blk 83 (.c (mgA a)), .blk 83 (.c (mgA b)), .own 3 (.i64 a.ids.l), .own 27 (.u64 a.ns.l), .onn 160 2 (.c (pcs a.ps.l)), .own 136 (.u32 a.xs.l), .own 3 (.i64 b.ids.l), .own 27 (.u64 b.ns.l), .onn 160 2 (.c (pcs b.ps.l)), .own 136 (.u32 b.xs.l), .blk 89 (.c (mgA zeroR))]⟩
  | 10 => ⟨[(2, .x (.a (.v (.int .u16 cut)))), (26, .x (.g (mgA a))), (28, .x (.g (mgA b))), (27, .x (.g (mgO a.mg 2 3 4 5))), (7, .x (.a (.p 6 0))), (8, .x (.a (.p 7 0)))], [.blk 83 (.c (mgA a)), .blk 83 (.c (mgA b)), .own 3 (.i64 a.ids.l), .own 27 (.u64 a.ns.l), .onn 160 2 (.c (pcs a.ps.l)), .own 136 (.u32 a.xs.l), .blk 89 (.c (mgA zeroR)), .blk 89 (.c (mgA zeroR))]⟩
  | 11 => ⟨[(2, .x (.a (.v (.int .u16 cut)))), (26, .x (.g (mgA a))), (28, .x (.g (mgA b))), (27, .x (.g (mgO a.mg 2 3 4 5))), (29, .x (.g (mgO b.mg 6 7 8 9))), (7, .x (.a (.p 10 0))), (8, .x (.a (.p 11 0)))], [.blk 83 (.c (mgA a)), .blk 83 (.c (mgA b)), .own 3 (.i64 a.ids.l), .own 27 (.u64 a.ns.l), .onn 160 2 (.c (pcs a.ps.l)), .own 136 (.u32 a.xs.l), .own 3 (.i64 b.ids.l), .own 27 (.u64 b.ns.l), .onn 160 2 (.c (pcs b.ps.l)), .own 136 (.u32 b.xs.l), .blk 89 (.c (mgA zeroR)), .blk 89 (.c (mgA zeroR))]⟩
  | _ => ⟨[], []⟩
def mbD : Dag := [([true, false, true, false, false, false, false, false], [(1, 1), (4, 2), (5, 3)]),
  ([true, true, true, false, false, false, false, false], [(3, 4), (4, 5), (5, 6)]),
  ([true, false, true, false, true, false, false, false], [(1, 5), (5, 7)]),
  ([true, false, true, false, false, true, false, false], [(1, 6), (4, 7)]),
  ([true, true, true, true, false, false, false, false], [(4, 8), (5, 9)]),
  ([true, true, true, false, true, false, false, false], [(3, 8), (5, 10)]),
  ([true, true, true, false, false, true, false, false], [(3, 9), (4, 10)]),
  ([true, false, true, false, true, true, false, false], [(1, 10)]),
  ([true, true, true, true, true, false, false, false], [(5, 11)]),
  ([true, true, true, true, false, true, false, false], [(4, 11)]),
  ([true, true, true, false, true, true, false, false], [(3, 11)]),
  ([true, true, true, true, true, true, false, false], [])]
theorem mbF_0 (a b : MgR) (cut : Nat) : mbF a b cut 0 = ⟨[(2, .x (.a (.v (.int .u16 cut)))), (26, .x (.g (mgA a))), (28, .x (.g (mgA b)))], [.blk 83 (.c (mgA a)), .blk 83 (.c (mgA b))]⟩ := rfl
theorem mbF_1 (a b : MgR) (cut : Nat) : mbF a b cut 1 = ⟨[(2, .x (.a (.v (.int .u16 cut)))), (26, .x (.g (mgA a))), (28, .x (.g (mgA b))), (27, .x (.g (mgO a.mg 2 3 4 5)))], [.blk 83 (.c (mgA a)), .blk 83 (.c (mgA b)), .own 3 (.i64 a.ids.l), .own 27 (.u64 a.ns.l), .onn 160 2 (.c (pcs a.ps.l)), .own 136 (.u32 a.xs.l)]⟩ := rfl
theorem mbF_2 (a b : MgR) (cut : Nat) : mbF a b cut 2 = ⟨[(2, .x (.a (.v (.int .u16 cut)))), (26, .x (.g (mgA a))), (28, .x (.g (mgA b))), (7, .x (.a (.p 2 0)))], [.blk 83 (.c (mgA a)), .blk 83 (.c (mgA b)), .blk 89 (.c (mgA zeroR))]⟩ := rfl
theorem mbF_3 (a b : MgR) (cut : Nat) : mbF a b cut 3 = ⟨[(2, .x (.a (.v (.int .u16 cut)))), (26, .x (.g (mgA a))), (28, .x (.g (mgA b))), (8, .x (.a (.p 2 0)))], [.blk 83 (.c (mgA a)), .blk 83 (.c (mgA b)), .blk 89 (.c (mgA zeroR))]⟩ := rfl
theorem mbF_4 (a b : MgR) (cut : Nat) : mbF a b cut 4 = ⟨[(2, .x (.a (.v (.int .u16 cut)))), (26, .x (.g (mgA a))), (28, .x (.g (mgA b))), (27, .x (.g (mgO a.mg 2 3 4 5))), (29, .x (.g (mgO b.mg 6 7 8 9)))], [.blk 83 (.c (mgA a)), .blk 83 (.c (mgA b)), .own 3 (.i64 a.ids.l), .own 27 (.u64 a.ns.l), .onn 160 2 (.c (pcs a.ps.l)), .own 136 (.u32 a.xs.l), .own 3 (.i64 b.ids.l), .own 27 (.u64 b.ns.l), .onn 160 2 (.c (pcs b.ps.l)), .own 136 (.u32 b.xs.l)]⟩ := rfl
theorem mbF_5 (a b : MgR) (cut : Nat) : mbF a b cut 5 = ⟨[(2, .x (.a (.v (.int .u16 cut)))), (26, .x (.g (mgA a))), (28, .x (.g (mgA b))), (27, .x (.g (mgO a.mg 2 3 4 5))), (7, .x (.a (.p 6 0)))], [.blk 83 (.c (mgA a)), .blk 83 (.c (mgA b)), .own 3 (.i64 a.ids.l), .own 27 (.u64 a.ns.l), .onn 160 2 (.c (pcs a.ps.l)), .own 136 (.u32 a.xs.l), .blk 89 (.c (mgA zeroR))]⟩ := rfl
theorem mbF_6 (a b : MgR) (cut : Nat) : mbF a b cut 6 = ⟨[(2, .x (.a (.v (.int .u16 cut)))), (26, .x (.g (mgA a))), (28, .x (.g (mgA b))), (27, .x (.g (mgO a.mg 2 3 4 5))), (8, .x (.a (.p 6 0)))], [.blk 83 (.c (mgA a)), .blk 83 (.c (mgA b)), .own 3 (.i64 a.ids.l), .own 27 (.u64 a.ns.l), .onn 160 2 (.c (pcs a.ps.l)), .own 136 (.u32 a.xs.l), .blk 89 (.c (mgA zeroR))]⟩ := rfl
theorem mbF_7 (a b : MgR) (cut : Nat) : mbF a b cut 7 = ⟨[(2, .x (.a (.v (.int .u16 cut)))), (26, .x (.g (mgA a))), (28, .x (.g (mgA b))), (7, .x (.a (.p 2 0))), (8, .x (.a (.p 3 0)))], [.blk 83 (.c (mgA a)), .blk 83 (.c (mgA b)), .blk 89 (.c (mgA zeroR)), .blk 89 (.c (mgA zeroR))]⟩ := rfl
theorem mbF_8 (a b : MgR) (cut : Nat) : mbF a b cut 8 = ⟨[(2, .x (.a (.v (.int .u16 cut)))), (26, .x (.g (mgA a))), (28, .x (.g (mgA b))), (27, .x (.g (mgO a.mg 2 3 4 5))), (29, .x (.g (mgO b.mg 6 7 8 9))), (7, .x (.a (.p 10 0)))], [.blk 83 (.c (mgA a)), .blk 83 (.c (mgA b)), .own 3 (.i64 a.ids.l), .own 27 (.u64 a.ns.l), .onn 160 2 (.c (pcs a.ps.l)), .own 136 (.u32 a.xs.l), .own 3 (.i64 b.ids.l), .own 27 (.u64 b.ns.l), .onn 160 2 (.c (pcs b.ps.l)), .own 136 (.u32 b.xs.l), .blk 89 (.c (mgA zeroR))]⟩ := rfl
theorem mbF_9 (a b : MgR) (cut : Nat) : mbF a b cut 9 = ⟨[(2, .x (.a (.v (.int .u16 cut)))), (26, .x (.g (mgA a))), (28, .x (.g (mgA b))), (27, .x (.g (mgO a.mg 2 3 4 5))), (29, .x (.g (mgO b.mg 6 7 8 9))), (8, .x (.a (.p 10 0)))], [.blk 83 (.c (mgA a)), .blk 83 (.c (mgA b)), .own 3 (.i64 a.ids.l), .own 27 (.u64 a.ns.l), .onn 160 2 (.c (pcs a.ps.l)), .own 136 (.u32 a.xs.l), .own 3 (.i64 b.ids.l), .own 27 (.u64 b.ns.l), .onn 160 2 (.c (pcs b.ps.l)), .own 136 (.u32 b.xs.l), .blk 89 (.c (mgA zeroR))]⟩ := rfl
theorem mbF_10 (a b : MgR) (cut : Nat) : mbF a b cut 10 = ⟨[(2, .x (.a (.v (.int .u16 cut)))), (26, .x (.g (mgA a))), (28, .x (.g (mgA b))), (27, .x (.g (mgO a.mg 2 3 4 5))), (7, .x (.a (.p 6 0))), (8, .x (.a (.p 7 0)))], [.blk 83 (.c (mgA a)), .blk 83 (.c (mgA b)), .own 3 (.i64 a.ids.l), .own 27 (.u64 a.ns.l), .onn 160 2 (.c (pcs a.ps.l)), .own 136 (.u32 a.xs.l), .blk 89 (.c (mgA zeroR)), .blk 89 (.c (mgA zeroR))]⟩ := rfl
theorem mbF_11 (a b : MgR) (cut : Nat) : mbF a b cut 11 = ⟨[(2, .x (.a (.v (.int .u16 cut)))), (26, .x (.g (mgA a))), (28, .x (.g (mgA b))), (27, .x (.g (mgO a.mg 2 3 4 5))), (29, .x (.g (mgO b.mg 6 7 8 9))), (7, .x (.a (.p 10 0))), (8, .x (.a (.p 11 0)))], [.blk 83 (.c (mgA a)), .blk 83 (.c (mgA b)), .own 3 (.i64 a.ids.l), .own 27 (.u64 a.ns.l), .onn 160 2 (.c (pcs a.ps.l)), .own 136 (.u32 a.xs.l), .own 3 (.i64 b.ids.l), .own 27 (.u64 b.ns.l), .onn 160 2 (.c (pcs b.ps.l)), .own 136 (.u32 b.xs.l), .blk 89 (.c (mgA zeroR)), .blk 89 (.c (mgA zeroR))]⟩ := rfl
theorem great16K {w0 : World} {hp : List Res} {m : MgR} (hm : m.Wide w0) : CallOK Tryd.prog w0 No 36 [.x (.g (mgA m))] hp (.x (.a (.v (.bool (bigM m.mg))))) hp := callOK_v fun γ w hS => by
  have h : m.Wide w := ⟨hm.s, ⟨hm.ids.1, rd_later hm.ids.2 hS⟩, ⟨hm.ns.1, rd_later hm.ns.2 hS⟩, ⟨hm.ps.1, rd_later hm.ps.2 hS⟩, ⟨hm.xs.1, rd_later hm.xs.2 hS⟩⟩
  rw [show List.map (Sv.val γ) [.x (.g (mgA m))] = List.map (Sv.val []) [.x (.g (mgA m))] from by simp only [List.map_cons, List.map_nil]; rw [mgA_same m γ []]]
  exact great16_any m w h
attribute [local irreducible] Callable CallOK CallG CallM DrawG LoopG symR symM
attribute [local irreducible] mgA mgO okV encM chkM bigM mbF
section
set_option maxRecDepth 100000 in
set_option maxHeartbeats 8000000 in
theorem msgBack_any (a b : MgR) (cut : Nat) (w : World) (hcut : cut < 65536) (ha : a.Wide w) (hb : b.Wide w) (hg : Handle w) :
    Calls Tryd.prog 7 (List.map (Sv.val []) [.x (.g (mgA a)), .x (.g (mgA b)), .x (.a (.v (.int .u16 cut)))]).toArray w fun e w' => e = .returned (.bool true) ∧ Below w.heap.size w w' := by
  have zb := fun (m : MgR) n => mgA_bnd m n
  have ob := fun (m : MgS) a b c d n => mgO_bnd m a b c d n
  simp only [At.bnd] at zb ob
  have al := mgA_len ha.s
  have bl := mgA_len hb.s
  have hF := okV_false 1
  have hT := okV_true 1
  refine calls_v (n := 104) Tryd.func7 rfl Tryd.ntmps7 [.x (.g (mgA a)), .x (.g (mgA b)), .x (.a (.v (.int .u16 cut)))] (by simp) (.x (.a (.v (.bool true)))) (fun _ => rfl) ?_
  simp (config := { maxSteps := 1000000 }) only [zb, al, ↓mgA_cont, push_cast, ↓reduceIte, reduceCtorEq, Nat.reduceEqDiff, Nat.reduceLT, Nat.reduceAdd]
  (repeat (refine And.intro (by first | omega | decide) ?_))
  refine callG_v rfl cb36 rfl (great16K ha) (dOk_lt rfl) ?_
  cases hba : bigM a.mg with
  | true =>
    simp (config := { maxSteps := 1000000 }) only [undef, push_cast, ↓reduceIte, Nat.reduceEqDiff, Nat.reduceLT, Nat.reduceAdd]
    (repeat (refine And.intro (by first | omega | decide) ?_))
    refine callG_v rfl cb37 rfl (sure16K hg) (dOk_lt rfl) ?_
    simp (config := { maxSteps := 1000000 }) only [push_cast, ↓reduceIte, Nat.reduceLT, Nat.reduceAdd]
    done
  | false =>
  simp (config := { maxSteps := 1000000 }) only [bl, push_cast, ↓reduceIte, Nat.reduceEqDiff, Nat.reduceLT, Nat.reduceAdd]
  (repeat (refine And.intro (by first | omega | decide) ?_))
  refine callG_v rfl cb36 rfl (great16K hb) (dOk_lt rfl) ?_
  cases hbb : bigM b.mg with
  | true =>
    simp (config := { maxSteps := 1000000 }) only [push_cast, ↓reduceIte, Nat.reduceEqDiff, Nat.reduceLT, Nat.reduceAdd]
    (repeat (refine And.intro (by first | omega | decide) ?_))
    refine callG_v rfl cb37 rfl (sure16K hg) (dOk_lt rfl) ?_
    simp (config := { maxSteps := 1000000 }) only [push_cast, ↓reduceIte, Nat.reduceLT, Nat.reduceAdd]
    done
  | false =>
  have aok := ha.ok hba
  have bok := hb.ok hbb
  have afew := aok.few
  have bfew := bok.few
  have aol : ∀ i j k l, (mgO a.mg i j k l).length = 43 := fun _ _ _ _ => mgO_len ha.s
  have bol : ∀ i j k l, (mgO b.mg i j k l).length = 43 := fun _ _ _ _ => mgO_len hb.s
  simp (config := { maxSteps := 1000000 }) only [push_cast, ↓reduceIte, Nat.reduceEqDiff, Nat.reduceLT, Nat.reduceAdd]
  (repeat (refine And.intro (by first | omega | decide) ?_))
  refine drawD_rule 6 [0, 2] mbD 11 [] (mbF a b cut) ⟨[(2, .x (.a (.v (.int .u16 cut)))), (27, .x (.g (mgO a.mg 2 3 4 5))), (29, .x (.g (mgO b.mg 6 7 8 9))), (7, .x (.a (.p 10 0))), (8, .x (.a (.p 11 0)))], [.blk 83 (.c (mgA a)), .blk 83 (.c (mgA b)), .own 3 (.i64 a.ids.l), .own 27 (.u64 a.ns.l), .onn 160 2 (.c (pcs a.ps.l)), .own 136 (.u32 a.xs.l), .own 3 (.i64 b.ids.l), .own 27 (.u64 b.ns.l), .onn 160 2 (.c (pcs b.ps.l)), .own 136 (.u32 b.xs.l), .blk 89 (.c (mgA zeroR)), .blk 89 (.c (mgA zeroR))]⟩ (by kernel_rfl) (by kernel_rfl) (by simp (config := { maxSteps := 1000000 }) only [zb, push_cast, Nat.reduceAdd]) ?_ ?_ (by decide) ?_ ?_ ?_
  · simp (config := { maxSteps := 1000000 }) only [al, bl, push_cast, ↓reduceIte, Nat.reduceEqDiff, Nat.reduceLT, Nat.reduceAdd]
    refine ⟨[], ?_⟩
    rw [mbF_0]
    simp (config := { maxSteps := 1000000 }) only [zb, ↓mgA_cren, ↓mgA_vren, List.append_nil, List.range, List.range.loop, push_cast, ↓reduceIte, reduceCtorEq, Nat.reduceEqDiff, Nat.reduceAdd]
  · intro v hv
    have hv' : v = 0 ∨ v = 1 ∨ v = 2 ∨ v = 3 ∨ v = 4 ∨ v = 5 ∨ v = 6 ∨ v = 7 ∨ v = 8 ∨ v = 9 ∨ v = 10 ∨ v = 11 := by omega
    rcases hv' with rfl | rfl | rfl | rfl | rfl | rfl | rfl | rfl | rfl | rfl | rfl | rfl
    · rw [mbF_0]; rfl
    · rw [mbF_1]; rfl
    · rw [mbF_2]; rfl
    · rw [mbF_3]; rfl
    · rw [mbF_4]; rfl
    · rw [mbF_5]; rfl
    · rw [mbF_6]; rfl
    · rw [mbF_7]; rfl
    · rw [mbF_8]; rfl
    · rw [mbF_9]; rfl
    · rw [mbF_10]; rfl
    · rw [mbF_11]; rfl
  · refine dagSt_all ?_
    refine ⟨?_, ?_, ?_, ?_, ?_, ?_, ?_, ?_, ?_, ?_, ?_, ?_, trivial⟩
    · intro p hp
      simp only [List.mem_cons, List.not_mem_nil, or_false] at hp
      rcases hp with rfl | rfl | rfl
      · show stepD _ _ _ _ _ 1 (fun s' => LeA 2 s' (mbF a b cut 1)) (mbF a b cut 0)
        rw [mbF_1, mbF_0]
        simp (config := { maxSteps := 1000000 }) only [push_cast, ↓reduceIte]
        (repeat (refine And.intro (by first | omega | decide) ?_))
        refine callD_rule rfl cb39 rfl (giveK16 aok (by simp (config := { maxSteps := 1000000 }) only [zb, push_cast, Nat.reduceAdd])) (dOk_lt rfl) (fun _ => by simp (config := { maxSteps := 1000000 }) only [zb, push_cast, Nat.reduceAdd]) ?_
        refine ⟨[2, 3, 4, 5], ?_⟩
        simp (config := { maxSteps := 1000000 }) only [zb, ob, pcs_ren, pcs_forall, ↓mgA_cren, ↓mgA_vren, ↓mgO_vren, List.range, List.range.loop, List.nil_append, List.cons_append, push_cast, ↓reduceIte, reduceCtorEq, Nat.reduceEqDiff, Nat.reduceLT, Nat.reduceAdd]
      · show stepD _ _ _ _ _ 4 (fun s' => LeA 2 s' (mbF a b cut 2)) (mbF a b cut 0)
        rw [mbF_2, mbF_0]
        simp (config := { maxSteps := 1000000 }) only [zb, zeroArr, zokMg2, mgA_zero, push_cast, ↓reduceIte, Nat.reduceLT, Nat.reduceAdd]
        refine ⟨[2], ?_⟩
        simp (config := { maxSteps := 1000000 }) only [zb, ↓mgA_cren, ↓mgA_vren, List.range, List.range.loop, List.nil_append, List.cons_append, push_cast, ↓reduceIte, reduceCtorEq, Nat.reduceEqDiff, Nat.reduceLT, Nat.reduceAdd]
      · show stepD _ _ _ _ _ 5 (fun s' => LeA 2 s' (mbF a b cut 3)) (mbF a b cut 0)
        rw [mbF_3, mbF_0]
        simp (config := { maxSteps := 1000000 }) only [zb, zeroArr, zokMg2, mgA_zero, push_cast, ↓reduceIte, Nat.reduceLT, Nat.reduceAdd]
        refine ⟨[2], ?_⟩
        simp (config := { maxSteps := 1000000 }) only [zb, ↓mgA_cren, ↓mgA_vren, List.range, List.range.loop, List.nil_append, List.cons_append, push_cast, ↓reduceIte, reduceCtorEq, Nat.reduceEqDiff, Nat.reduceLT, Nat.reduceAdd]
    · intro p hp
      simp only [List.mem_cons, List.not_mem_nil, or_false] at hp
      rcases hp with rfl | rfl | rfl
      · show stepD _ _ _ _ _ 3 (fun s' => LeA 2 s' (mbF a b cut 4)) (mbF a b cut 1)
        rw [mbF_4, mbF_1]
        simp (config := { maxSteps := 1000000 }) only [push_cast, ↓reduceIte]
        (repeat (refine And.intro (by first | omega | decide) ?_))
        refine callD_rule rfl cb39 rfl (giveK16 bok (by simp (config := { maxSteps := 1000000 }) only [zb, pcs_forall, push_cast, Nat.reduceAdd])) (dOk_lt rfl) (fun _ => by simp (config := { maxSteps := 1000000 }) only [zb, ob, pcs_forall, push_cast, Nat.reduceLT, Nat.reduceAdd]) ?_
        refine ⟨[2, 3, 4, 5, 6, 7, 8, 9], ?_⟩
        simp (config := { maxSteps := 1000000 }) only [zb, ob, pcs_ren, pcs_forall, ↓mgA_cren, ↓mgA_vren, ↓mgO_vren, List.range, List.range.loop, List.nil_append, List.cons_append, push_cast, ↓reduceIte, reduceCtorEq, Nat.reduceEqDiff, Nat.reduceLT, Nat.reduceAdd]
      · show stepD _ _ _ _ _ 4 (fun s' => LeA 2 s' (mbF a b cut 5)) (mbF a b cut 1)
        rw [mbF_5, mbF_1]
        simp (config := { maxSteps := 1000000 }) only [zb, ob, pcs_forall, zeroArr, zokMg2, mgA_zero, push_cast, ↓reduceIte, Nat.reduceLT, Nat.reduceAdd]
        refine ⟨[2, 3, 4, 5, 6], ?_⟩
        simp (config := { maxSteps := 1000000 }) only [zb, ob, pcs_ren, pcs_forall, ↓mgA_cren, ↓mgA_vren, ↓mgO_vren, List.range, List.range.loop, List.nil_append, List.cons_append, push_cast, ↓reduceIte, reduceCtorEq, Nat.reduceEqDiff, Nat.reduceLT, Nat.reduceAdd]
      · show stepD _ _ _ _ _ 5 (fun s' => LeA 2 s' (mbF a b cut 6)) (mbF a b cut 1)
        rw [mbF_6, mbF_1]
        simp (config := { maxSteps := 1000000 }) only [zb, ob, pcs_forall, zeroArr, zokMg2, mgA_zero, push_cast, ↓reduceIte, Nat.reduceLT, Nat.reduceAdd]
        refine ⟨[2, 3, 4, 5, 6], ?_⟩
        simp (config := { maxSteps := 1000000 }) only [zb, ob, pcs_ren, pcs_forall, ↓mgA_cren, ↓mgA_vren, ↓mgO_vren, List.range, List.range.loop, List.nil_append, List.cons_append, push_cast, ↓reduceIte, reduceCtorEq, Nat.reduceEqDiff, Nat.reduceLT, Nat.reduceAdd]
    · intro p hp
      simp only [List.mem_cons, List.not_mem_nil, or_false] at hp
      rcases hp with rfl | rfl
      · show stepD _ _ _ _ _ 1 (fun s' => LeA 2 s' (mbF a b cut 5)) (mbF a b cut 2)
        rw [mbF_5, mbF_2]
        simp (config := { maxSteps := 1000000 }) only [push_cast, ↓reduceIte]
        (repeat (refine And.intro (by first | omega | decide) ?_))
        refine callD_rule rfl cb39 rfl (giveK16 aok (by simp (config := { maxSteps := 1000000 }) only [zb, push_cast, Nat.reduceAdd])) (dOk_lt rfl) (fun _ => by simp (config := { maxSteps := 1000000 }) only [zb, push_cast, Nat.reduceLT, Nat.reduceAdd]) ?_
        refine ⟨[3, 4, 5, 6, 2], ?_⟩
        simp (config := { maxSteps := 1000000 }) only [zb, ob, pcs_ren, pcs_forall, ↓mgA_cren, ↓mgA_vren, ↓mgO_vren, List.range, List.range.loop, List.nil_append, List.cons_append, push_cast, ↓reduceIte, reduceCtorEq, Nat.reduceEqDiff, Nat.reduceLT, Nat.reduceAdd]
      · show stepD _ _ _ _ _ 5 (fun s' => LeA 2 s' (mbF a b cut 7)) (mbF a b cut 2)
        rw [mbF_7, mbF_2]
        simp (config := { maxSteps := 1000000 }) only [zb, zeroArr, zokMg2, mgA_zero, push_cast, ↓reduceIte, Nat.reduceLT, Nat.reduceAdd]
        refine ⟨[2, 3], ?_⟩
        simp (config := { maxSteps := 1000000 }) only [zb, ↓mgA_cren, ↓mgA_vren, List.range, List.range.loop, List.nil_append, List.cons_append, push_cast, ↓reduceIte, reduceCtorEq, Nat.reduceEqDiff, Nat.reduceLT, Nat.reduceAdd]
    · intro p hp
      simp only [List.mem_cons, List.not_mem_nil, or_false] at hp
      rcases hp with rfl | rfl
      · show stepD _ _ _ _ _ 1 (fun s' => LeA 2 s' (mbF a b cut 6)) (mbF a b cut 3)
        rw [mbF_6, mbF_3]
        simp (config := { maxSteps := 1000000 }) only [push_cast, ↓reduceIte]
        (repeat (refine And.intro (by first | omega | decide) ?_))
        refine callD_rule rfl cb39 rfl (giveK16 aok (by simp (config := { maxSteps := 1000000 }) only [zb, push_cast, Nat.reduceAdd])) (dOk_lt rfl) (fun _ => by simp (config := { maxSteps := 1000000 }) only [zb, push_cast, Nat.reduceLT, Nat.reduceAdd]) ?_
        refine ⟨[3, 4, 5, 6, 2], ?_⟩
        simp (config := { maxSteps := 1000000 }) only [zb, ob, pcs_ren, pcs_forall, ↓mgA_cren, ↓mgA_vren, ↓mgO_vren, List.range, List.range.loop, List.nil_append, List.cons_append, push_cast, ↓reduceIte, reduceCtorEq, Nat.reduceEqDiff, Nat.reduceLT, Nat.reduceAdd]
      · show stepD _ _ _ _ _ 4 (fun s' => LeA 2 s' (mbF a b cut 7)) (mbF a b cut 3)
        rw [mbF_7, mbF_3]
        simp (config := { maxSteps := 1000000 }) only [zb, zeroArr, zokMg2, mgA_zero, push_cast, ↓reduceIte, Nat.reduceLT, Nat.reduceAdd]
        refine ⟨[3, 2], ?_⟩
        simp (config := { maxSteps := 1000000 }) only [zb, ↓mgA_cren, ↓mgA_vren, List.range, List.range.loop, List.nil_append, List.cons_append, push_cast, ↓reduceIte, reduceCtorEq, Nat.reduceEqDiff, Nat.reduceLT, Nat.reduceAdd]
    · intro p hp
      simp only [List.mem_cons, List.not_mem_nil, or_false] at hp
      rcases hp with rfl | rfl
      · show stepD _ _ _ _ _ 4 (fun s' => LeA 2 s' (mbF a b cut 8)) (mbF a b cut 4)
        rw [mbF_8, mbF_4]
        simp (config := { maxSteps := 1000000 }) only [zb, ob, pcs_forall, zeroArr, zokMg2, mgA_zero, push_cast, ↓reduceIte, Nat.reduceLT, Nat.reduceAdd]
        refine ⟨[2, 3, 4, 5, 6, 7, 8, 9, 10], ?_⟩
        simp (config := { maxSteps := 1000000 }) only [zb, ob, pcs_ren, pcs_forall, ↓mgA_cren, ↓mgA_vren, ↓mgO_vren, List.range, List.range.loop, List.nil_append, List.cons_append, push_cast, ↓reduceIte, reduceCtorEq, Nat.reduceEqDiff, Nat.reduceLT, Nat.reduceAdd]
      · show stepD _ _ _ _ _ 5 (fun s' => LeA 2 s' (mbF a b cut 9)) (mbF a b cut 4)
        rw [mbF_9, mbF_4]
        simp (config := { maxSteps := 1000000 }) only [zb, ob, pcs_forall, zeroArr, zokMg2, mgA_zero, push_cast, ↓reduceIte, Nat.reduceLT, Nat.reduceAdd]
        refine ⟨[2, 3, 4, 5, 6, 7, 8, 9, 10], ?_⟩
        simp (config := { maxSteps := 1000000 }) only [zb, ob, pcs_ren, pcs_forall, ↓mgA_cren, ↓mgA_vren, ↓mgO_vren, List.range, List.range.loop, List.nil_append, List.cons_append, push_cast, ↓reduceIte, reduceCtorEq, Nat.reduceEqDiff, Nat.reduceLT, Nat.reduceAdd]
    · intro p hp
      simp only [List.mem_cons, List.not_mem_nil, or_false] at hp
      rcases hp with rfl | rfl
      · show stepD _ _ _ _ _ 3 (fun s' => LeA 2 s' (mbF a b cut 8)) (mbF a b cut 5)
        rw [mbF_8, mbF_5]
        simp (config := { maxSteps := 1000000 }) only [push_cast, ↓reduceIte]
        (repeat (refine And.intro (by first | omega | decide) ?_))
        refine callD_rule rfl cb39 rfl (giveK16 bok (by simp (config := { maxSteps := 1000000 }) only [zb, pcs_forall, push_cast, Nat.reduceAdd])) (dOk_lt rfl) (fun _ => by simp (config := { maxSteps := 1000000 }) only [zb, ob, pcs_forall, push_cast, Nat.reduceLT, Nat.reduceAdd]) ?_
        refine ⟨[2, 3, 4, 5, 7, 8, 9, 10, 6], ?_⟩
        simp (config := { maxSteps := 1000000 }) only [zb, ob, pcs_ren, pcs_forall, ↓mgA_cren, ↓mgA_vren, ↓mgO_vren, List.range, List.range.loop, List.nil_append, List.cons_append, push_cast, ↓reduceIte, reduceCtorEq, Nat.reduceEqDiff, Nat.reduceLT, Nat.reduceAdd]
      · show stepD _ _ _ _ _ 5 (fun s' => LeA 2 s' (mbF a b cut 10)) (mbF a b cut 5)
        rw [mbF_10, mbF_5]
        simp (config := { maxSteps := 1000000 }) only [zb, ob, pcs_forall, zeroArr, zokMg2, mgA_zero, push_cast, ↓reduceIte, Nat.reduceLT, Nat.reduceAdd]
        refine ⟨[2, 3, 4, 5, 6, 7], ?_⟩
        simp (config := { maxSteps := 1000000 }) only [zb, ob, pcs_ren, pcs_forall, ↓mgA_cren, ↓mgA_vren, ↓mgO_vren, List.range, List.range.loop, List.nil_append, List.cons_append, push_cast, ↓reduceIte, reduceCtorEq, Nat.reduceEqDiff, Nat.reduceLT, Nat.reduceAdd]
    · intro p hp
      simp only [List.mem_cons, List.not_mem_nil, or_false] at hp
      rcases hp with rfl | rfl
      · show stepD _ _ _ _ _ 3 (fun s' => LeA 2 s' (mbF a b cut 9)) (mbF a b cut 6)
        rw [mbF_9, mbF_6]
        simp (config := { maxSteps := 1000000 }) only [push_cast, ↓reduceIte]
        (repeat (refine And.intro (by first | omega | decide) ?_))
        refine callD_rule rfl cb39 rfl (giveK16 bok (by simp (config := { maxSteps := 1000000 }) only [zb, pcs_forall, push_cast, Nat.reduceAdd])) (dOk_lt rfl) (fun _ => by simp (config := { maxSteps := 1000000 }) only [zb, ob, pcs_forall, push_cast, Nat.reduceLT, Nat.reduceAdd]) ?_
        refine ⟨[2, 3, 4, 5, 7, 8, 9, 10, 6], ?_⟩
        simp (config := { maxSteps := 1000000 }) only [zb, ob, pcs_ren, pcs_forall, ↓mgA_cren, ↓mgA_vren, ↓mgO_vren, List.range, List.range.loop, List.nil_append, List.cons_append, push_cast, ↓reduceIte, reduceCtorEq, Nat.reduceEqDiff, Nat.reduceLT, Nat.reduceAdd]
      · show stepD _ _ _ _ _ 4 (fun s' => LeA 2 s' (mbF a b cut 10)) (mbF a b cut 6)
        rw [mbF_10, mbF_6]
        simp (config := { maxSteps := 1000000 }) only [zb, ob, pcs_forall, zeroArr, zokMg2, mgA_zero, push_cast, ↓reduceIte, Nat.reduceLT, Nat.reduceAdd]
        refine ⟨[2, 3, 4, 5, 7, 6], ?_⟩
        simp (config := { maxSteps := 1000000 }) only [zb, ob, pcs_ren, pcs_forall, ↓mgA_cren, ↓mgA_vren, ↓mgO_vren, List.range, List.range.loop, List.nil_append, List.cons_append, push_cast, ↓reduceIte, reduceCtorEq, Nat.reduceEqDiff, Nat.reduceLT, Nat.reduceAdd]
    · intro p hp
      simp only [List.mem_cons, List.not_mem_nil, or_false] at hp
      rcases hp with rfl
      · show stepD _ _ _ _ _ 1 (fun s' => LeA 2 s' (mbF a b cut 10)) (mbF a b cut 7)
        rw [mbF_10, mbF_7]
        simp (config := { maxSteps := 1000000 }) only [push_cast, ↓reduceIte]
        (repeat (refine And.intro (by first | omega | decide) ?_))
        refine callD_rule rfl cb39 rfl (giveK16 aok (by simp (config := { maxSteps := 1000000 }) only [zb, push_cast, Nat.reduceAdd])) (dOk_lt rfl) (fun _ => by simp (config := { maxSteps := 1000000 }) only [zb, push_cast, Nat.reduceLT, Nat.reduceAdd]) ?_
        refine ⟨[4, 5, 6, 7, 2, 3], ?_⟩
        simp (config := { maxSteps := 1000000 }) only [zb, ob, pcs_ren, pcs_forall, ↓mgA_cren, ↓mgA_vren, ↓mgO_vren, List.range, List.range.loop, List.nil_append, List.cons_append, push_cast, ↓reduceIte, reduceCtorEq, Nat.reduceEqDiff, Nat.reduceLT, Nat.reduceAdd]
    · intro p hp
      simp only [List.mem_cons, List.not_mem_nil, or_false] at hp
      rcases hp with rfl
      · show stepD _ _ _ _ _ 5 (fun s' => LeA 2 s' (mbF a b cut 11)) (mbF a b cut 8)
        rw [mbF_11, mbF_8]
        simp (config := { maxSteps := 1000000 }) only [zb, ob, pcs_forall, zeroArr, zokMg2, mgA_zero, push_cast, ↓reduceIte, Nat.reduceLT, Nat.reduceAdd]
        refine ⟨[2, 3, 4, 5, 6, 7, 8, 9, 10, 11], ?_⟩
        simp (config := { maxSteps := 1000000 }) only [zb, ob, pcs_ren, pcs_forall, ↓mgA_cren, ↓mgA_vren, ↓mgO_vren, List.range, List.range.loop, List.nil_append, List.cons_append, push_cast, ↓reduceIte, reduceCtorEq, Nat.reduceEqDiff, Nat.reduceLT, Nat.reduceAdd]
    · intro p hp
      simp only [List.mem_cons, List.not_mem_nil, or_false] at hp
      rcases hp with rfl
      · show stepD _ _ _ _ _ 4 (fun s' => LeA 2 s' (mbF a b cut 11)) (mbF a b cut 9)
        rw [mbF_11, mbF_9]
        simp (config := { maxSteps := 1000000 }) only [zb, ob, pcs_forall, zeroArr, zokMg2, mgA_zero, push_cast, ↓reduceIte, Nat.reduceLT, Nat.reduceAdd]
        refine ⟨[2, 3, 4, 5, 6, 7, 8, 9, 11, 10], ?_⟩
        simp (config := { maxSteps := 1000000 }) only [zb, ob, pcs_ren, pcs_forall, ↓mgA_cren, ↓mgA_vren, ↓mgO_vren, List.range, List.range.loop, List.nil_append, List.cons_append, push_cast, ↓reduceIte, reduceCtorEq, Nat.reduceEqDiff, Nat.reduceLT, Nat.reduceAdd]
    · intro p hp
      simp only [List.mem_cons, List.not_mem_nil, or_false] at hp
      rcases hp with rfl
      · show stepD _ _ _ _ _ 3 (fun s' => LeA 2 s' (mbF a b cut 11)) (mbF a b cut 10)
        rw [mbF_11, mbF_10]
        simp (config := { maxSteps := 1000000 }) only [push_cast, ↓reduceIte]
        (repeat (refine And.intro (by first | omega | decide) ?_))
        refine callD_rule rfl cb39 rfl (giveK16 bok (by simp (config := { maxSteps := 1000000 }) only [zb, pcs_forall, push_cast, Nat.reduceAdd])) (dOk_lt rfl) (fun _ => by simp (config := { maxSteps := 1000000 }) only [zb, ob, pcs_forall, push_cast, Nat.reduceLT, Nat.reduceAdd]) ?_
        refine ⟨[2, 3, 4, 5, 8, 9, 10, 11, 6, 7], ?_⟩
        simp (config := { maxSteps := 1000000 }) only [zb, ob, pcs_ren, pcs_forall, ↓mgA_cren, ↓mgA_vren, ↓mgO_vren, List.range, List.range.loop, List.nil_append, List.cons_append, push_cast, ↓reduceIte, reduceCtorEq, Nat.reduceEqDiff, Nat.reduceLT, Nat.reduceAdd]
    · intro p hp
      cases hp
  · rw [mbF_11]
    simp (config := { maxSteps := 1000000 }) only [push_cast]
    refine leads_le [0, 1, 2, 3, 4, 5, 6, 7, 8, 9, 10, 11] ?_
    simp (config := { maxSteps := 1000000 }) only [zb, ob, pcs_ren, pcs_forall, ↓mgA_cren, ↓mgO_vren, push_cast, ↓reduceIte, reduceCtorEq, Nat.reduceEqDiff, Nat.reduceLT, Nat.reduceAdd]
    done
  · simp (config := { maxSteps := 1000000 }) only [zeroR_len, aol, bol, undef, push_cast, ↓reduceIte, Nat.reduceEqDiff, Nat.reduceLT, Nat.reduceAdd]
    refine ⟨cast (mgO_one a.mg 2 3 4 5 _).symm ⟨rfl, rfl, rfl, rfl⟩, cast (mgO_one b.mg 6 7 8 9 _).symm ⟨rfl, rfl, rfl, rfl⟩, ?_⟩
    have sa : ∀ (hp : List Res) (i j k l : Nat), hp[i]? = some (.own 3 (.i64 a.ids.l)) → hp[j]? = some (.own 27 (.u64 a.ns.l)) → hp[k]? = some (.onn 160 2 (.c (pcs a.ps.l))) → hp[l]? = some (.own 136 (.u32 a.xs.l)) → ShowsMg w hp (.x (.g (mgO a.mg i j k l))) a.mg := fun hp i j k l h1 h2 h3 h4 => showsMg_own afew h1 h2 h3 h4
    have sb : ∀ (hp : List Res) (i j k l : Nat), hp[i]? = some (.own 3 (.i64 b.ids.l)) → hp[j]? = some (.own 27 (.u64 b.ns.l)) → hp[k]? = some (.onn 160 2 (.c (pcs b.ps.l))) → hp[l]? = some (.own 136 (.u32 b.xs.l)) → ShowsMg w hp (.x (.g (mgO b.mg i j k l))) b.mg := fun hp i j k l h1 h2 h3 h4 => showsMg_own bfew h1 h2 h3 h4
    have hsm : a.mg.sm.length = 32 := afew.sm
    have hsmb : b.mg.sm.length = 32 := bfew.sm
    (repeat (refine And.intro (by first | omega | decide) ?_))
    cases hca : chkM a.mg with
    | false =>
      refine callG_v rfl cb38 rfl (encodeK_no (sa _ 2 3 4 5 rfl rfl rfl rfl) hca) (dOk_lt rfl) ?_
      simp (config := { maxSteps := 1000000 }) only [bol, hF, push_cast, ↓reduceIte, Nat.reduceEqDiff, Nat.reduceLT, Nat.reduceAdd]
      (repeat (refine And.intro (by first | omega | decide) ?_))
      cases hcb : chkM b.mg with
      | false =>
        refine callG_v rfl cb38 rfl (encodeK_no (sb _ 6 7 8 9 rfl rfl rfl rfl) hcb) (dOk_lt rfl) ?_
        simp (config := { maxSteps := 1000000 }) only [hF, push_cast, ↓reduceIte, Nat.reduceEqDiff, Nat.reduceLT, Nat.reduceAdd]
        (repeat (refine And.intro (by first | omega | decide) ?_))
        refine callG_v rfl cb37 rfl (sure16K hg) (dOk_lt rfl) ?_
        simp (config := { maxSteps := 1000000 }) only [push_cast, ↓reduceIte, Nat.reduceLT, Nat.reduceAdd]
        done
      | true =>
        refine callG_rule rfl cb38 rfl (encodeK_yes (sb _ 6 7 8 9 rfl rfl rfl rfl) hcb (by simp (config := { maxSteps := 1000000 }) only [zb, ob, pcs_forall, push_cast, Nat.reduceLT, Nat.reduceAdd])) (dOk_lt rfl) (fun _ => by simp (config := { maxSteps := 1000000 }) only [zb, ob, pcs_forall, push_cast, Nat.reduceLT, Nat.reduceAdd]) ?_
        simp (config := { maxSteps := 1000000 }) only [push_cast, ↓reduceIte, Nat.reduceEqDiff, Nat.reduceLT, Nat.reduceAdd]
        (repeat (refine And.intro (by first | omega | decide) ?_))
        refine callG_v rfl cb37 rfl (sure16K hg) (dOk_lt rfl) ?_
        simp (config := { maxSteps := 1000000 }) only [push_cast, ↓reduceIte, Nat.reduceLT, Nat.reduceAdd]
        done
    | true =>
    refine callG_rule rfl cb38 rfl (encodeK_yes (sa _ 2 3 4 5 rfl rfl rfl rfl) hca (by simp (config := { maxSteps := 1000000 }) only [zb, ob, pcs_forall, push_cast, Nat.reduceLT, Nat.reduceAdd])) (dOk_lt rfl) (fun _ => by simp (config := { maxSteps := 1000000 }) only [zb, ob, pcs_forall, push_cast, Nat.reduceLT, Nat.reduceAdd]) ?_
    have hd1 := dec_enc hca hsm
    have hd2 := fun n h => dec_short (n := n) hca hsm h
    have hd3 := dec_long hca hsm 0 []
    have hlen := encM_len afew
    have hpos : 1 ≤ (encM a.mg).length := by
      unfold encM
      rw [List.length_append]
      have := (putV_length a.mg.k.toUInt64).1
      omega
    have hinj := fun h => enc_inj (m := a.mg) (n := b.mg) hca h hsm hsmb
    obtain ⟨bA, hbA⟩ : ∃ x, x = encM a.mg := ⟨_, rfl⟩
    rw [← hbA] at hd1 hd2 hd3 hlen hpos hinj ⊢
    obtain ⟨K, hKl, hK2⟩ : ∃ K : Nat, K < bA.length ∧ Int.tmod (cut : Int) ((if (1 : Int) < (bA.length : Int) then (bA.length : Int) else 1)) = K := by
      refine ⟨(Int.tmod (cut : Int) ((if (1 : Int) < (bA.length : Int) then (bA.length : Int) else 1))).toNat, ?_, ?_⟩
      · have h1 := Int.tmod_lt_of_pos (cut : Int) (show 0 < (if (1 : Int) < (bA.length : Int) then (bA.length : Int) else 1) by split <;> omega)
        have h2 := Int.tmod_nonneg ((if (1 : Int) < (bA.length : Int) then (bA.length : Int) else 1)) (show 0 ≤ (cut : Int) by omega)
        have h3 : (if (1 : Int) < (bA.length : Int) then (bA.length : Int) else 1) = bA.length := by split <;> omega
        rw [h3] at h1 h2 ⊢
        omega
      · have h2 := Int.tmod_nonneg ((if (1 : Int) < (bA.length : Int) then (bA.length : Int) else 1)) (show 0 ≤ (cut : Int) by omega)
        omega
    have kc : (0 : Int) ≤ cut ∧ (cut : Int) < 65536 := by omega
    have k0 : (0 : Int) ≤ K := by omega
    have k1 : (K : Int) ≤ bA.length := by omega
    have k2 : ((K : Nat) : Int).toNat = K := Int.toNat_natCast K
    have g1 : bA.length ≤ 140737488355328 := by omega
    have g2 : bA.length ≤ 2 ^ 63 - 1 := by omega
    have g3 : bA.length + 1 ≤ 140737488355328 := by omega
    have g4 : bA.length + 1 ≤ 2 ^ 63 - 1 := by omega
    have sk : ∀ (hp : List Res), hp[12]? = some (.own 5 (.u8 bA)) → Shows w No hp (.x (.a (.z 12 0 K))) ((bA.take K).map vU8) := fun hp h => by
      have := shows_z (w0 := w) (ow := No) (k := 12) h (fun _ => rfl) 0 K (by simp; omega)
      rw [List.drop_zero, ← List.map_take] at this
      exact this
    simp (config := { maxSteps := 1000000 }) only [bol, push_cast, ↓reduceIte, Nat.reduceEqDiff, Nat.reduceLT, Nat.reduceAdd]
    (repeat (refine And.intro (by first | omega | decide) ?_))
    cases hcb : chkM b.mg with
    | false =>
      refine callG_v rfl cb38 rfl (encodeK_no (sb _ 6 7 8 9 rfl rfl rfl rfl) hcb) (dOk_lt rfl) ?_
      simp (config := { maxSteps := 1000000 }) only [hF, push_cast, ↓reduceIte, Nat.reduceEqDiff, Nat.reduceLT, Nat.reduceAdd]
      (repeat (refine And.intro (by first | omega | decide) ?_))
      refine callG_rule rfl cb41 rfl (decodeK_yes (l := bA) (by omega) hd1 (shows_own (k := 12) rfl fun _ => rfl) (by simp (config := { maxSteps := 1000000 }) only [zb, ob, pcs_forall, push_cast, Nat.reduceLT, Nat.reduceAdd])) (dOk_lt rfl) (fun _ => by simp (config := { maxSteps := 1000000 }) only [zb, ob, pcs_forall, push_cast, Nat.reduceLT, Nat.reduceAdd]) ?_
      simp (config := { maxSteps := 1000000 }) only [zb, ob, pcs_forall, zeroArr, zokMg2, mgA_zero, zeroR_len, aol, undef, push_cast, ↓reduceIte, Nat.reduceEqDiff, Nat.reduceLT, Nat.reduceAdd, Int.reduceLE]
      refine ⟨cast (mgO_one a.mg 13 14 15 16 _).symm ⟨rfl, rfl, rfl, rfl⟩, ?_⟩
      simp (config := { maxSteps := 1000000 }) only [kc, hK2, k0, k1, k2, Nat.sub_zero, push_cast]
      (repeat (refine And.intro (by first | omega | decide) ?_))
      refine callG_v rfl cb41 rfl (decodeK_no (l := bA.take K) (by rw [List.length_take]; omega) (hd2 K hKl) (sk _ rfl) (by simp (config := { maxSteps := 1000000 }) only [zb, ob, pcs_forall, push_cast, Nat.reduceLT, Nat.reduceAdd])) (dOk_lt rfl) ?_
      simp (config := { maxSteps := 1000000 }) only [zb, ob, pcs_forall, zeroArr, zokMg2, mgA_zero, zeroR_len, g1, g2, g3, g4, undef, push_cast, ↓reduceIte, Nat.reduceEqDiff, Nat.reduceLT, Nat.reduceLeDiff, Nat.reduceAdd]
      refine ⟨of_eq_true (mgA_one _ _), ?_⟩
      refine callG_v rfl cb41 rfl (decodeK_no (l := bA ++ [0]) (by rw [List.length_append]; show bA.length + 1 ≤ _; omega) hd3 (shows_own (k := 22) rfl fun _ => rfl) (by simp (config := { maxSteps := 1000000 }) only [zb, ob, pcs_forall, push_cast, Nat.reduceLT, Nat.reduceAdd])) (dOk_lt rfl) ?_
      simp (config := { maxSteps := 1000000 }) only [zb, ob, pcs_forall, zeroArr, zokMg2, mgA_zero, zeroR_len, undef, push_cast, ↓reduceIte, Nat.reduceEqDiff, Nat.reduceLT, Nat.reduceAdd]
      refine ⟨of_eq_true (mgA_one _ _), ?_⟩
      (repeat (refine And.intro (by first | omega | decide) ?_))
      refine draw_rule ((0, true) :: (1, true) :: (2, true) :: (3, true) :: (4, true) :: (5, false) :: (6, true) :: (7, true) :: (8, true) :: (9, false) :: (10, true) :: (11, true) :: (12, true) :: (13, true) :: (14, false) :: (15, true) :: (16, true) :: (17, true) :: (18, true) :: (19, true) :: (20, true) :: (21, true) :: (22, true) :: (23, true) :: (24, true) :: (25, true) :: (26, true) :: (27, true) :: (28, false) :: (29, true) :: (30, true) :: (31, true) :: (32, true) :: (33, false) :: (34, true) :: (35, true) :: []) (by kernel_rfl) (by kernel_rfl) rfl (by kernel_rfl) ?_
      simp (config := { maxSteps := 1000000 }) only [aol, push_cast, ↓reduceIte, Nat.reduceEqDiff, Nat.reduceLT, Nat.reduceAdd]
      (repeat (refine And.intro (by first | omega | decide) ?_))
      refine callM_v rfl cb47 rfl (sameK16 (sa _ 2 3 4 5 rfl rfl rfl rfl) (sa _ 13 14 15 16 rfl rfl rfl rfl)) (dOk_lt rfl) ?_
      rw [sameM_iff.2 (rfl : a.mg = a.mg)]
      simp (config := { maxSteps := 1000000 }) only [push_cast, ↓reduceIte, Nat.reduceEqDiff, Nat.reduceLT, Nat.reduceAdd]
      (repeat (refine And.intro (by first | omega | decide) ?_))
      refine callM_v rfl cb44 rfl (nmOK16 3 hg) (dOk_lt rfl) ?_
      simp (config := { maxSteps := 1000000 }) only [push_cast, ↓reduceIte, Nat.reduceEqDiff, Nat.reduceLT, Nat.reduceAdd]
      (repeat (refine And.intro (by first | omega | decide) ?_))
      refine callM_v rfl cb44 rfl (nmOK16 3 hg) (dOk_lt rfl) ?_
      simp (config := { maxSteps := 1000000 }) only [undef, push_cast, ↓reduceIte, Nat.reduceEqDiff, Nat.reduceLT, Nat.reduceAdd]
      (repeat (refine And.intro (by first | omega | decide) ?_))
      refine callM_v rfl cb37 rfl (sure16K hg) (dOk_lt rfl) ?_
      simp (config := { maxSteps := 1000000 }) only [push_cast, ↓reduceIte, Nat.reduceEqDiff, Nat.reduceLT, Nat.reduceAdd]
      done
    | true =>
      refine callG_rule rfl cb38 rfl (encodeK_yes (sb _ 6 7 8 9 rfl rfl rfl rfl) hcb (by simp (config := { maxSteps := 1000000 }) only [zb, ob, pcs_forall, push_cast, Nat.reduceLT, Nat.reduceAdd])) (dOk_lt rfl) (fun _ => by simp (config := { maxSteps := 1000000 }) only [zb, ob, pcs_forall, push_cast, Nat.reduceLT, Nat.reduceAdd]) ?_
      simp (config := { maxSteps := 1000000 }) only [push_cast, ↓reduceIte, Nat.reduceEqDiff, Nat.reduceLT, Nat.reduceAdd]
      (repeat (refine And.intro (by first | omega | decide) ?_))
      refine callG_rule rfl cb41 rfl (decodeK_yes (l := bA) (by omega) hd1 (shows_own (k := 12) rfl fun _ => rfl) (by simp (config := { maxSteps := 1000000 }) only [zb, ob, pcs_forall, push_cast, Nat.reduceLT, Nat.reduceAdd])) (dOk_lt rfl) (fun _ => by simp (config := { maxSteps := 1000000 }) only [zb, ob, pcs_forall, push_cast, Nat.reduceLT, Nat.reduceAdd]) ?_
      simp (config := { maxSteps := 1000000 }) only [zb, ob, pcs_forall, zeroArr, zokMg2, mgA_zero, zeroR_len, aol, undef, push_cast, ↓reduceIte, Nat.reduceEqDiff, Nat.reduceLT, Nat.reduceAdd, Int.reduceLE]
      refine ⟨cast (mgO_one a.mg 14 15 16 17 _).symm ⟨rfl, rfl, rfl, rfl⟩, ?_⟩
      simp (config := { maxSteps := 1000000 }) only [kc, hK2, k0, k1, k2, Nat.sub_zero, push_cast]
      (repeat (refine And.intro (by first | omega | decide) ?_))
      refine callG_v rfl cb41 rfl (decodeK_no (l := bA.take K) (by rw [List.length_take]; omega) (hd2 K hKl) (sk _ rfl) (by simp (config := { maxSteps := 1000000 }) only [zb, ob, pcs_forall, push_cast, Nat.reduceLT, Nat.reduceAdd])) (dOk_lt rfl) ?_
      simp (config := { maxSteps := 1000000 }) only [zb, ob, pcs_forall, zeroArr, zokMg2, mgA_zero, zeroR_len, g1, g2, g3, g4, undef, push_cast, ↓reduceIte, Nat.reduceEqDiff, Nat.reduceLT, Nat.reduceLeDiff, Nat.reduceAdd]
      refine ⟨of_eq_true (mgA_one _ _), ?_⟩
      refine callG_v rfl cb41 rfl (decodeK_no (l := bA ++ [0]) (by rw [List.length_append]; show bA.length + 1 ≤ _; omega) hd3 (shows_own (k := 23) rfl fun _ => rfl) (by simp (config := { maxSteps := 1000000 }) only [zb, ob, pcs_forall, push_cast, Nat.reduceLT, Nat.reduceAdd])) (dOk_lt rfl) ?_
      simp (config := { maxSteps := 1000000 }) only [zb, ob, pcs_forall, zeroArr, zokMg2, mgA_zero, zeroR_len, undef, push_cast, ↓reduceIte, Nat.reduceEqDiff, Nat.reduceLT, Nat.reduceAdd]
      refine ⟨of_eq_true (mgA_one _ _), ?_⟩
      (repeat (refine And.intro (by first | omega | decide) ?_))
      refine draw_rule ((0, true) :: (1, true) :: (2, true) :: (3, true) :: (4, true) :: (5, false) :: (6, true) :: (7, true) :: (8, true) :: (9, false) :: (10, true) :: (11, true) :: (12, true) :: (13, true) :: (14, false) :: (15, true) :: (16, true) :: (17, true) :: (18, true) :: (19, true) :: (20, true) :: (21, true) :: (22, true) :: (23, true) :: (24, true) :: (25, true) :: (26, true) :: (27, true) :: (28, false) :: (29, true) :: (30, true) :: (31, true) :: (32, true) :: (33, false) :: (34, true) :: (35, true) :: []) (by kernel_rfl) (by kernel_rfl) rfl (by kernel_rfl) ?_
      simp (config := { maxSteps := 1000000 }) only [aol, push_cast, ↓reduceIte, Nat.reduceEqDiff, Nat.reduceLT, Nat.reduceAdd]
      (repeat (refine And.intro (by first | omega | decide) ?_))
      refine callM_v rfl cb47 rfl (sameK16 (sa _ 2 3 4 5 rfl rfl rfl rfl) (sa _ 14 15 16 17 rfl rfl rfl rfl)) (dOk_lt rfl) ?_
      rw [sameM_iff.2 (rfl : a.mg = a.mg)]
      simp (config := { maxSteps := 1000000 }) only [push_cast, ↓reduceIte, Nat.reduceEqDiff, Nat.reduceLT, Nat.reduceAdd]
      (repeat (refine And.intro (by first | omega | decide) ?_))
      refine callM_v rfl cb44 rfl (nmOK16 3 hg) (dOk_lt rfl) ?_
      simp (config := { maxSteps := 1000000 }) only [push_cast, ↓reduceIte, Nat.reduceEqDiff, Nat.reduceLT, Nat.reduceAdd]
      (repeat (refine And.intro (by first | omega | decide) ?_))
      refine callM_v rfl cb44 rfl (nmOK16 3 hg) (dOk_lt rfl) ?_
      obtain ⟨bB, hbB⟩ : ∃ x, x = encM b.mg := ⟨_, rfl⟩
      have hin := hinj hcb
      rw [← hbB] at hin ⊢
      have hcmp := str8_cmp bA bB
      have hsame : sameM a.mg b.mg = decide (bA = bB) := by
        unfold sameM
        exact decide_eq_decide.2 hin.symm
      simp (config := { maxSteps := 1000000 }) only [aol, bol, hcmp, push_cast, ↓reduceIte, Nat.reduceEqDiff, Nat.reduceLT, Nat.reduceAdd]
      (repeat (refine And.intro (by first | omega | decide) ?_))
      refine callM_v rfl cb47 rfl (sameK16 (sa _ 2 3 4 5 rfl rfl rfl rfl) (sb _ 6 7 8 9 rfl rfl rfl rfl)) (dOk_lt rfl) ?_
      rw [hsame]
      simp (config := { maxSteps := 1000000 }) only [push_cast, ↓reduceIte, Nat.reduceEqDiff, Nat.reduceLT, Nat.reduceAdd]
      (repeat (refine And.intro (by first | omega | decide) ?_))
      refine callM_v rfl cb37 rfl (sure16K hg) (dOk_lt rfl) ?_
      simp (config := { maxSteps := 1000000 }) only [push_cast, ↓reduceIte, Nat.reduceEqDiff, Nat.reduceLT, Nat.reduceAdd]
      done
end
end Go.Proofs.YtiaeollemmkclaaDoor
