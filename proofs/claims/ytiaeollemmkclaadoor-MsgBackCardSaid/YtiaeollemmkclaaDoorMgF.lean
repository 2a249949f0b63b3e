import Derived.Test.YtiaeollemmkclaaDoorPreA
import Derived.Test.YtiaeollemmkclaaDoorMgE
/- An error's number (law 16's num): nil's is nought, an Errno's is its own. -/
namespace Go.Proofs.YtiaeollemmkclaaDoor
open Go.RowKit Go.Extern.Stop Go.Stop Go.Extern
set_option maxRecDepth 220000 in
set_option maxHeartbeats 4000000 in
theorem nm16_err (n : Int) (w : World) (hg : Handle w) : Calls Tryd.prog 44 #[.iface 137 (.int .i64 n)] w fun e w' => e = .returned (.int .i64 n) ∧ Below w.heap.size w w' := by
  have hlt : 0 < w.heap.size := block_lt_of_cell hg
  have hgA : (w.alloc (.cells #[.int .i64 0] 137)).cell? ⟨0, 0, none⟩ = some (.iface 229 (.agg #[.pointer (some ⟨9, 41, none⟩)])) := by
    rw [World.cell?_alloc_lt _ _ ⟨0, 0, none⟩ hlt]; exact hg
  have htA : (w.alloc (.cells #[.int .i64 0] 137)).cell? ⟨w.heap.size, 0, none⟩ = some (.int .i64 0) := by simp
  have hfA : (w.alloc (.cells #[.int .i64 0] 137)).frozen? ⟨w.heap.size, 0, none⟩ = false := by simp
  go_enter Tryd.func44, Tryd.ntmps44
  go_wp2_with (go_at_call 70; refine (as_hit n _ (.int .i64 0) _ hgA htA hfA).mono ?_; rintro e w' ⟨rfl, rfl⟩)
  go_ret
  refine ⟨rfl, ?_⟩
  exact (((((Below.refl w.heap.size w).alloc (Nat.le_refl _) _).alloc (by simp) _).alloc (by simp; omega) _).alloc (by simp; omega) _).alloc (by simp; omega) _
theorem nmOK16 {w0 : World} {hp : List Res} (n : Int) (hg : Handle w0) : CallOK Tryd.prog w0 No 44 [.x (.a (.v (.iface 137 (.int .i64 n))))] hp (.x (.a (.v (.int .i64 n)))) hp := callOK_v fun _ w hS => nm16_err n w (handle_sat hg hS)
end Go.Proofs.YtiaeollemmkclaaDoor
/- Law 16's sure. -/
namespace Go.Proofs.YtiaeollemmkclaaDoor
open Go.RowKit
set_option linter.unusedSimpArgs false
set_option linter.unusedVariables false
def rA16 : MgR := { zeroR with k := 19, re := 2 }
def rC16 : MgR := { zeroR with k := 19, ge := 1 }
def mB16 : MgS := { zeroM with k := 6, pl := 3, ge := 2, ids := [1, 5], xs := [7], ps := [(1, 9), (5, 4)] }
/-- The cells of the one that sure builds. -/
def mgB (a b c : Nat) : List At := mgL (.v (vU8 6)) (.v (.int .i64 3)) (.v (.int .i64 0)) (.v (.int .i64 0)) (.v (.int .i64 2)) (.v (vU64 0)) (List.replicate 32 0) (.s a 0 2 2) (.v (.slice none 0 0)) (.o c) (.s b 0 1 1) (.v (.int .i64 0))
theorem rA_set : ((mgA zeroR).set 0 (.v (.int .u8 19))).set 42 (.v (.int .i64 2)) = mgA rA16 := rfl
theorem rC_set : ((mgA zeroR).set 0 (.v (.int .u8 19))).set 4 (.v (.int .i64 1)) = mgA rC16 := rfl
theorem rB_set (a b c : Nat) : ((((((mgA zeroR).set 0 (.v (.int .u8 6))).set 1 (.v (.int .i64 3))).set 4 (.v (.int .i64 2))).set 38 (.s a 0 2 2)).set 41 (.s b 0 1 1)).set 40 (.o c) = mgB a b c := rfl
theorem mgB_vbnd (a b c n : Nat) : Sv.bnd n (.x (.g (mgB a b c))) = (a < n ∧ b < n ∧ c < n) := propext ⟨fun e => ⟨e _ mgL_mem.1, e _ mgL_mem.2.2.2, e _ mgL_mem.2.2.1⟩, fun ⟨e1, e2, e3⟩ => mgL_all (q := fun x => x.bnd n) (fun _ => trivial) trivial trivial trivial trivial trivial trivial e1 trivial e3 e2 trivial⟩
theorem rA_ok (w : World) : rA16.Ok w := ⟨rfl, SlV.ok0 rfl, SlV.ok0 rfl, SlV.ok0 rfl, SlV.ok0 rfl⟩
theorem rC_ok (w : World) : rC16.Ok w := ⟨rfl, SlV.ok0 rfl, SlV.ok0 rfl, SlV.ok0 rfl, SlV.ok0 rfl⟩
theorem chk_A : chkM rA16.mg = true := by decide +kernel
theorem chk_C : chkM rC16.mg = false := by decide +kernel
theorem chk_B : chkM mB16 = true := by decide +kernel
theorem enc_A : encM rA16.mg = [19, 2] := by decide +kernel
theorem dec_A : decM [19, 2] = some rA16.mg := by rw [← enc_A]; exact dec_enc chk_A rfl
theorem dec_0 : decM [] = none := by decide +kernel
theorem dec_B : decM (encM mB16) = some mB16 := dec_enc chk_B rfl
theorem enc_Bl : (encM mB16).length ≤ 1000 := by decide +kernel
theorem name_12 : nameS 12 = ⟨#[100, 111, 110, 101]⟩ := rfl
theorem form_20 : formS 20 = ⟨#[]⟩ := rfl
theorem mB_ps : pcs mB16.ps = [.v (.int .i64 1), .v (.int .u64 9), .v (.int .i64 5), .v (.int .u64 4)] := by show pcs [(1, 9), (5, 4)] = _; rw [pcs_cons, pcs_cons, pcs_nil]; rfl
theorem mB_ids : mB16.ids = [1, 5] := rfl
theorem mB_sm : mB16.sm.length = 32 := rfl
theorem showsB {w0 : World} {hp : List Res} {a b c : Nat} (ha : hp[a]? = some (.blk 3 (.i64 [1, 5]))) (hb : hp[b]? = some (.blk 136 (.u32 [7]))) (hc : hp[c]? = some (.onn 160 2 (.c [.v (.int .i64 1), .v (.int .u64 9), .v (.int .i64 5), .v (.int .u64 4)]))) :
    ShowsMg w0 hp (.x (.g (mgB a b c))) mB16 := fun γ w hS => by
  obtain ⟨A1, c1, e1, b1, q1⟩ := shows_blk_all (vs := ([1, 5] : List Int).map (Value.int .i64)) ha (fun _ => rfl) 2 2 rfl (Nat.le_refl _) γ w hS
  obtain ⟨A4, c4, e4, b4, q4⟩ := shows_blk_all (vs := ([7] : List UInt32).map vU32) hb (fun _ => rfl) 1 1 rfl (Nat.le_refl _) γ w hS
  rw [show ([.v (.int .i64 1), .v (.int .u64 9), .v (.int .i64 5), .v (.int .u64 4)] : List At) = pcs [(1, 9), (5, 4)] from by rw [pcs_cons, pcs_cons, pcs_nil]; rfl] at hc
  obtain ⟨A3, c3, e3, b3, q3⟩ := showsR_pcs hc γ w hS
  refine ⟨⟨6, 3, 0, 0, 2, 0, List.replicate 32 0, ⟨A1, c1, [1, 5]⟩, default, ⟨A3, c3, [(1, 9), (5, 4)]⟩, ⟨A4, c4, [7]⟩, 0⟩, ?_, ⟨rfl, ⟨b1, by show 2 ≤ 1000; omega, q1⟩, SlV.ok0 rfl, ⟨b3, by show 2 ≤ 1000; omega, q3⟩, ⟨b4, by show 1 ≤ 1000; omega, q4⟩⟩, rfl⟩
  have e1 : At.val γ (.s a 0 2 2) = .slice A1 2 c1 := e1
  have e3 : At.val γ (.o c) = .slice A3 2 c3 := e3
  have e4 : At.val γ (.s b 0 1 1) = .slice A4 1 c4 := e4
  show Value.agg _ = _
  unfold mgB
  rw [mgL_val, e1, e3, e4]
  rfl
attribute [local irreducible] Callable CallOK CallG CallM DrawG LoopG symR symM
attribute [local irreducible] mgA mgO mgB okV encM nameS formS mB16
section
set_option maxRecDepth 100000 in
set_option maxHeartbeats 4000000 in
theorem sure16_any (w : World) (hg : Handle w) : Calls Tryd.prog 37 #[] w fun e w' => e = .returned (.bool true) ∧ Below w.heap.size w w' := by
  have zb := fun (m : MgR) n => mgA_bnd m n
  have ob := fun (m : MgS) a b c d n => mgO_bnd m a b c d n
  have bb : ∀ a b c n, (∀ x ∈ mgB a b c, x.bnd n) = (a < n ∧ b < n ∧ c < n) := mgB_vbnd
  simp only [At.bnd] at zb ob bb
  have sE : ((bstr [19, 2]).toList == ({ data := #[19, 2] } : ByteArray).toList) = true := by rw [ByteArray.toList_eq, ByteArray.toList_eq]; rfl
  have gA : ∀ x, (mgO rA16.mg 1 2 3 4).getD 42 x = .v (.int .i64 2) := (mgO_get (m := rA16.mg) rfl 1 2 3 4).2.2.2.2.2.2.2.2.2.2
  have lA : (mgA rA16).length = 43 := mgA_len rfl
  have lC : (mgA rC16).length = 43 := mgA_len rfl
  have oA : ∀ a b c d, (mgO rA16.mg a b c d).length = 43 := fun a b c d => mgO_len rfl
  refine calls_v (n := 109) Tryd.func37 rfl Tryd.ntmps37 [] (by simp) (.x (.a (.v (.bool true)))) (fun _ => rfl) ?_
  simp (config := { maxSteps := 1000000 }) only [zeroArr, zokMg2, mgA_zero, zeroR_len, List.length_set, rA_set, push_cast, ↓reduceIte, reduceCtorEq, Nat.reduceLT]
  (repeat (refine And.intro (by first | omega | decide) ?_))
  refine callG_rule rfl cb38 rfl (encodeK_yes (showsMg_raw (rA_ok w)) chk_A (by simp (config := { maxSteps := 1000000 }) only [push_cast])) (dOk_lt rfl) (fun _ => by simp (config := { maxSteps := 1000000 }) only [zb, push_cast]) ?_
  rw [enc_A]
  simp (config := { maxSteps := 1000000 }) only [push_cast, ↓reduceIte, Nat.reduceEqDiff, Nat.reduceLT]
  (repeat (refine And.intro (by first | omega | decide) ?_))
  refine callG_rule rfl cb41 rfl (decodeK_yes (l := [19, 2]) (by decide) dec_A (shows_own rfl fun _ => rfl) (by simp (config := { maxSteps := 1000000 }) only [push_cast])) (dOk_lt rfl) (fun _ => by simp (config := { maxSteps := 1000000 }) only [zb, push_cast, Nat.reduceLT]) ?_
  simp (config := { maxSteps := 1000000 }) only [zb, ob, pcs_forall, zeroArr, zokMg2, mgA_zero, zeroR_len, oA, undef, push_cast, ↓reduceIte, Nat.reduceEqDiff, Nat.reduceLT, Nat.reduceAdd]
  refine ⟨cast (mgO_one _ 1 2 3 4 _).symm ⟨rfl, rfl, rfl, rfl⟩, ?_⟩
  (repeat (refine And.intro (by first | omega | decide) ?_))
  refine callG_rule rfl cb41 rfl (decodeK_no (l := []) (by decide) dec_0 shows_nil (by simp (config := { maxSteps := 1000000 }) only [ob, pcs_forall, push_cast, Nat.reduceLT, Nat.reduceAdd])) (dOk_lt rfl) (fun _ => by simp (config := { maxSteps := 1000000 }) only [zb, ob, pcs_forall, push_cast, Nat.reduceLT, Nat.reduceAdd]) ?_
  simp (config := { maxSteps := 1000000 }) only [zb, ob, pcs_forall, zeroArr, zokMg2, mgA_zero, zeroR_len, List.length_set, rC_set, undef, push_cast, ↓reduceIte, reduceCtorEq, Nat.reduceEqDiff, Nat.reduceLT, Nat.reduceAdd]
  refine ⟨of_eq_true (mgA_one _ _), ?_⟩
  (repeat (refine And.intro (by first | omega | decide) ?_))
  refine callG_v rfl cb38 rfl (encodeK_no (showsMg_raw (rC_ok w)) chk_C) (dOk_lt rfl) ?_
  simp (config := { maxSteps := 1000000 }) only [zb, ob, pcs_forall, zeroArr, zokMg2, mgA_zero, zeroR_len, List.length_set, okV_false, rB_set, push_cast, ↓reduceIte, reduceCtorEq, Nat.reduceEqDiff, Nat.reduceLT, Nat.reduceLeDiff, Nat.reduceAdd, Nat.reduceMul]
  refine callG_rule rfl cb38 rfl (encodeK_yes (showsB rfl rfl rfl) chk_B (by simp (config := { maxSteps := 1000000 }) only [zb, ob, pcs_forall, push_cast, Nat.reduceLT, Nat.reduceAdd])) (dOk_lt rfl) (fun _ => by simp (config := { maxSteps := 1000000 }) only [zb, ob, bb, pcs_forall, push_cast, Nat.reduceLT, Nat.reduceAdd]) ?_
  obtain ⟨bB, hbB⟩ : ∃ b, b = encM mB16 := ⟨_, rfl⟩
  have hdB := dec_B
  have hlB := enc_Bl
  rw [← hbB] at hdB hlB ⊢
  simp (config := { maxSteps := 1000000 }) only [push_cast, ↓reduceIte, Nat.reduceEqDiff, Nat.reduceLT, Nat.reduceAdd]
  (repeat (refine And.intro (by first | omega | decide) ?_))
  refine callG_rule rfl cb41 rfl (decodeK_yes (l := bB) (by omega) hdB (shows_own rfl fun _ => rfl) (by simp (config := { maxSteps := 1000000 }) only [zb, ob, pcs_forall, push_cast, Nat.reduceLT, Nat.reduceAdd])) (dOk_lt rfl) (fun _ => by simp (config := { maxSteps := 1000000 }) only [zb, ob, bb, pcs_forall, push_cast, Nat.reduceLT, Nat.reduceAdd]) ?_
  have oB : ∀ a b c d, (mgO mB16 a b c d).length = 43 := fun a b c d => mgO_len mB_sm
  simp (config := { maxSteps := 1000000 }) only [zb, ob, bb, pcs_forall, zeroArr, zokMg2, mgA_zero, zeroR_len, oA, oB, sE, gA, undef, push_cast, ↓reduceIte, reduceCtorEq, Nat.reduceEqDiff, Nat.reduceLT, Nat.reduceAdd]
  refine ⟨cast (mgO_one _ 11 12 13 14 _).symm ⟨rfl, rfl, rfl, rfl⟩, ?_⟩
  (repeat (refine And.intro (by first | omega | decide) ?_))
  refine callG_v rfl cb44 rfl (nmOK16 3 hg) (dOk_lt rfl) ?_
  simp (config := { maxSteps := 1000000 }) only [push_cast, ↓reduceIte, Nat.reduceEqDiff, Nat.reduceLT, Nat.reduceAdd]
  (repeat (refine And.intro (by first | omega | decide) ?_))
  refine callG_v rfl cb44 rfl (nmOK16 1 hg) (dOk_lt rfl) ?_
  obtain ⟨_, _, _, _, _, _, gB38, _, gB40, _, _⟩ := mgO_get mB_sm 11 12 13 14
  simp (config := { maxSteps := 1000000 }) only [oB, gB38, gB40, mB_ps, mB_ids, undef, push_cast, ↓Int.cast_ofNat_Int, Int.cast_ofNat_Int, ↓reduceIte, reduceCtorEq, Nat.reduceEqDiff, Nat.reduceLT, Nat.reduceAdd, Nat.reduceMul, Int.reduceLE, Int.reduceLT, Int.reduceToNat, Int.reduceAdd]
  (repeat (refine And.intro (by first | omega | decide) ?_))
  refine callG_v rfl cb50 rfl (nameK16 12) (dOk_lt rfl) ?_
  rw [name_12]
  simp (config := { maxSteps := 1000000 }) only [push_cast, ↓reduceIte, Nat.reduceEqDiff, Nat.reduceLT, Nat.reduceAdd]
  (repeat (refine And.intro (by first | omega | decide) ?_))
  refine callG_v rfl cb48 rfl (formK16 20) (dOk_lt rfl) ?_
  rw [form_20]
  simp (config := { maxSteps := 1000000 }) only [push_cast, ↓reduceIte, Nat.reduceEqDiff, Nat.reduceLT, Nat.reduceAdd]
  trace_state
  done
theorem sure16K {w0 : World} {hp : List Res} (hg : Handle w0) : CallOK Tryd.prog w0 No 37 [] hp (.x (.a (.v (.bool true)))) hp := callOK_v fun _ w hS => sure16_any w (handle_sat hg hS)
end
end Go.Proofs.YtiaeollemmkclaaDoor
