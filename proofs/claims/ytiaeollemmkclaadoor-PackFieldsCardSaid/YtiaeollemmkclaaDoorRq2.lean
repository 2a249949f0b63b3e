/- Rq2: Rp6, Rp7, Rp8, Rp9, RpA, RpB, RpC, joined. -/
import Derived.Test.YtiaeollemmkclaaDoorRq1
import Derived.Test.YtiaeollemmkclaaDoorDrT
import Derived.Test.YtiaeollemmkclaaDoorPkJ
import Derived.Test.YtiaeollemmkclaaDoorPkK
/- caucusref13's Take, a number. -/
namespace Go.Proofs.YtiaeollemmkclaaDoor
open Go.RowKit
set_option linter.unusedSimpArgs false
set_option linter.unusedVariables false
theorem numP_none {b : List UInt8} {most : UInt64} {p : Plc} (h : (numP b most p).2 = none) : (numP b most p).1 = 0 := by
  cases p with
  | none => rfl
  | some n =>
    unfold numP at h ⊢
    simp only at h ⊢
    cases hg : getV (b.drop n) with
    | none => rfl
    | some q =>
      rw [hg] at h
      simp only at h ⊢
      split at h
      · cases h
      · rename_i hq; rw [if_neg hq]
theorem fdL_val (k n l b : At) (q : List UInt8) (x : At) (γ : List Nm) : (Sv.x (.g (fdL k n l b q x))).val γ = .agg ([k.val γ, n.val γ, l.val γ, b.val γ] ++ (q.map vU8 ++ [x.val γ, .int .i64 0, .int .u64 0])).toArray := by
  show Value.agg _ = _
  unfold fdL
  simp only [List.map_cons, List.map_append, List.map_map, List.map_nil]
  rfl
/-- The bytes that Take answers: a part of what was handed in. -/
def tkB (b : List UInt8) (A : Option Addr) (c : Nat) (many : Int) (p : Plc) : At := match (numP b (manyU many) p).2 with
  | none => nl
  | some m => if (numP b (manyU many) p).1.toNat ≤ b.length - m then .v (.slice (pCut A m c) (numP b (manyU many) p).1.toNat (c - m)) else nl
theorem tkB_val (γ : List Nm) {b : List UInt8} {A : Option Addr} {c : Nat} {many : Int} {p : Plc} : (tkB b A c many p).val γ = (tkB b A c many p).val [] := by
  unfold tkB
  split
  · rfl
  · split <;> rfl
theorem manyU_of (many : Int) : UInt64.ofInt (if (0 : Int) < many then many else 0) = manyU many := by
  unfold manyU
  split
  · rw [show UInt64.ofInt many = UInt64.ofInt (((max many 0).toNat : Nat) : Int) from congrArg _ (by omega)]
    exact ofInt64 _
  · rw [show (max many 0).toNat = 0 by omega]
    exact ofInt64 0
attribute [local irreducible] Callable CallOK CallG CallM DrawG LoopG symR symM
attribute [local irreducible] fdA putV numP
section
variable (b : List UInt8) (A : Option Addr) (c : Nat) (p : Plc) (f : FdR) (w : World) (hp : pOk b p) (hm : b.length ≤ 100000) (hc : b.length ≤ c) (hR : RdV w w.heap.size A (b.map vU8)) (hf : f.Ok w)
include hp hm hc hR hf
set_option maxRecDepth 100000 in
set_option maxHeartbeats 1000000 in
theorem take_num (k0 : f.k = 0) : Calls Tryd.prog 22 (List.map (Sv.val []) [.x (.a (.v (.slice A b.length c))), .x (.a (.v (.int .i64 (pI p)))), .x (.g (fdA f))]).toArray w fun e w' => e = .returned ((Sv.t [.g (fdL (.v (vU8 f.k)) (.v (vU64 (numP b f.most p).1)) nl nl (List.replicate 32 0) nl), .a (.v (.int .i64 (pI (numP b f.most p).2)))]).val []) ∧ Below w.heap.size w w' := by
  obtain ⟨f0, f1, f2, f3, f36, f37, f38⟩ := fdA_get hf.s
  have fl := fdA_len hf.s
  have fb := fun n => fdA_bnd f n
  simp only [At.bnd] at fb
  have kk : ¬ (0 : UInt8) < f.k := by rw [k0]; decide
  have e0 : (f.k = 0) = True := eq_true k0
  have e3 : (f.k = 3) = False := eq_false (by rw [k0]; decide)
  refine calls_v (n := 185) Tryd.func22 rfl Tryd.ntmps22 [.x (.a (.v (.slice A b.length c))), .x (.a (.v (.int .i64 (pI p)))), .x (.g (fdA f))] (by simp) (.t [.g (fdL (.v (vU8 f.k)) (.v (vU64 (numP b f.most p).1)) nl nl (List.replicate 32 0) nl), .a (.v (.int .i64 (pI (numP b f.most p).2)))]) (fun γ => by
    show Value.tuple _ = Value.tuple _
    simp only [List.map_cons, List.map_nil]
    congr 1) ?_
  have nK : ∀ hp', CallOK Tryd.prog w No 74 [.x (.a (.v (.slice A b.length c))), .x (.a (.v (.int .i64 (pI p)))), .x (.a (.v (vU64 f.most)))] hp' (.t (numT b f.most p)) hp' := fun hp' => refNumK b f.most p hp (by omega) (shows_raw hR _ _ (by simp) hc)
  have ok := numP_ok b f.most hp
  have nn := numP_none (b := b) (most := f.most) (p := p)
  simp (config := { maxSteps := 1000000 }) only [renf8, set32, fb, fl, f0, f1, f2, f3, f36, f37, f38, ↓fdA_cbnd, ↓fdA_sbnd, ↓fdA_vbnd, ↓fdA_cont, ↓fdA_cren, ↓fdA_sren, ↓fdA_vren, zeroArr, zokFd, kk, e0, e3, undef, push_cast, ↓Int.toNat_natCast, ↓Int.cast_ofNat_Int, Int.cast_ofNat_Int, ↓reduceIte, reduceCtorEq, Nat.reduceEqDiff, Nat.reduceLT, Nat.reduceLeDiff, Nat.reduceAdd, Nat.reduceSub, Nat.reduceMul, Int.reduceNeg, Int.reduceLE, Int.reduceLT, Int.reduceToNat, Int.reduceAdd, Int.reduceSub, Int.reduceMul, Int.reduceEq]
  (repeat (refine And.intro (by first | omega | decide) ?_))
  refine callG_v rfl cb74 rfl (nK _) (dOk_lt rfl) ?_
  unfold numT
  generalize numP b f.most p = q at *
  obtain ⟨v, p'⟩ := q
  dsimp only at ok nn ⊢
  cases p' with
  | none =>
    obtain rfl := nn rfl
    have e : pI none = -1 := rfl
    simp (config := { maxSteps := 1000000 }) only [renf8, set32, fb, fl, f0, f1, f2, f3, f36, f37, f38, ↓fdA_cbnd, ↓fdA_sbnd, ↓fdA_vbnd, ↓fdA_cont, ↓fdA_cren, ↓fdA_sren, ↓fdA_vren, zeroArr, zokFd, kk, e0, e3, e, undef, push_cast, ↓Int.toNat_natCast, ↓Int.cast_ofNat_Int, Int.cast_ofNat_Int, ↓reduceIte, reduceCtorEq, Nat.reduceEqDiff, Nat.reduceLT, Nat.reduceLeDiff, Nat.reduceAdd, Nat.reduceSub, Nat.reduceMul, Int.reduceNeg, Int.reduceLE, Int.reduceLT, Int.reduceToNat, Int.reduceAdd, Int.reduceSub, Int.reduceMul, Int.reduceEq]
    rfl
  | some m =>
    have e : pI (some m) = (m : Int) := rfl
    have hm' : m ≤ b.length := ok
    have m0 : ¬ ((m : Int) < 0) := by omega
    have m1 : (-9223372036854775808 : Int) ≤ (b.length : Int) - m ∧ (b.length : Int) - m ≤ 9223372036854775807 := by omega
    simp (config := { maxSteps := 1000000 }) only [renf8, set32, fb, fl, f0, f1, f2, f3, f36, f37, f38, ↓fdA_cbnd, ↓fdA_sbnd, ↓fdA_vbnd, ↓fdA_cont, ↓fdA_cren, ↓fdA_sren, ↓fdA_vren, zeroArr, zokFd, kk, e0, e3, e, m0, m1, undef, push_cast, ↓Int.toNat_natCast, ↓Int.cast_ofNat_Int, Int.cast_ofNat_Int, ↓reduceIte, reduceCtorEq, Nat.reduceEqDiff, Nat.reduceLT, Nat.reduceLeDiff, Nat.reduceAdd, Nat.reduceSub, Nat.reduceMul, Int.reduceNeg, Int.reduceLE, Int.reduceLT, Int.reduceToNat, Int.reduceAdd, Int.reduceSub, Int.reduceMul, Int.reduceEq]
    rfl
set_option maxRecDepth 100000 in
set_option maxHeartbeats 1000000 in
theorem take_bytes (k2 : f.k = 2) : Calls Tryd.prog 22 (List.map (Sv.val []) [.x (.a (.v (.slice A b.length c))), .x (.a (.v (.int .i64 (pI p)))), .x (.g (fdA f))]).toArray w fun e w' => e = .returned ((Sv.t [.g (fdL (.v (vU8 f.k)) (.v (.int .u64 0)) nl (tkB b A c f.many p) (List.replicate 32 0) nl), .a (.v (.int .i64 (pI (takeQ b f.fd p))))]).val []) ∧ Below w.heap.size w w' := by
  obtain ⟨f0, f1, f2, f3, f36, f37, f38⟩ := fdA_get hf.s
  have fl := fdA_len hf.s
  have fb := fun n => fdA_bnd f n
  simp only [At.bnd] at fb
  have kk : (0 : UInt8) < f.k := by rw [k2]; decide
  have e0 : (f.k = 0) = False := eq_false (by rw [k2]; decide)
  have e1 : (f.k = 1) = False := eq_false (by rw [k2]; decide)
  have e2 : (f.k = 2) = True := eq_true k2
  have e3 : (f.k = 3) = False := eq_false (by rw [k2]; decide)
  have hQ : takeQ b f.fd p = (match (numP b (manyU f.many) p).2 with
    | none => none
    | some m => if (numP b (manyU f.many) p).1.toNat ≤ b.length - m then some (m + (numP b (manyU f.many) p).1.toNat) else none) := by
    unfold takeQ
    rw [if_neg (show ¬ f.fd.k = 0 by show ¬ f.k = 0; rw [k2]; decide), if_neg (show ¬ f.fd.k = 1 by show ¬ f.k = 1; rw [k2]; decide), if_pos (show f.fd.k = 2 from k2)]
    rfl
  refine calls_v (n := 185) Tryd.func22 rfl Tryd.ntmps22 [.x (.a (.v (.slice A b.length c))), .x (.a (.v (.int .i64 (pI p)))), .x (.g (fdA f))] (by simp) (.t [.g (fdL (.v (vU8 f.k)) (.v (.int .u64 0)) nl (tkB b A c f.many p) (List.replicate 32 0) nl), .a (.v (.int .i64 (pI (takeQ b f.fd p))))]) (fun γ => by
    show Value.tuple _ = Value.tuple _
    simp only [List.map_cons, List.map_nil]
    congr 3
    show Value.agg _ = Value.agg _
    unfold fdL
    simp only [List.map_cons, List.map_append, List.map_map, List.map_nil, tkB_val γ]
    rfl) ?_
  have nK : ∀ hp', CallOK Tryd.prog w No 74 [.x (.a (.v (.slice A b.length c))), .x (.a (.v (.int .i64 (pI p)))), .x (.a (.v (vU64 (manyU f.many))))] hp' (.t (numT b (manyU f.many) p)) hp' := fun hp' => refNumK b (manyU f.many) p hp (by omega) (shows_raw hR _ _ (by simp) hc)
  have ok := numP_ok b (manyU f.many) hp
  have hmu := manyU_of f.many
  have h37 := hf.many
  rw [hQ]
  unfold tkB
  simp (config := { maxSteps := 1000000 }) only [renf8, set32, fb, fl, f0, f1, f2, f3, f36, f37, f38, ↓fdA_cbnd, ↓fdA_sbnd, ↓fdA_vbnd, ↓fdA_cont, ↓fdA_cren, ↓fdA_sren, ↓fdA_vren, zeroArr, zokFd, kk, e0, e1, e2, e3, hmu, undef, push_cast, ↓Int.toNat_natCast, ↓Int.cast_ofNat_Int, Int.cast_ofNat_Int, ↓reduceIte, reduceCtorEq, Nat.reduceEqDiff, Nat.reduceLT, Nat.reduceLeDiff, Nat.reduceAdd, Nat.reduceSub, Nat.reduceMul, Int.reduceNeg, Int.reduceLE, Int.reduceLT, Int.reduceToNat, Int.reduceAdd, Int.reduceSub, Int.reduceMul, Int.reduceEq]
  (repeat (refine And.intro (by first | omega | decide) ?_))
  refine callG_v rfl cb74 rfl (nK _) (dOk_lt rfl) ?_
  unfold numT
  generalize numP b (manyU f.many) p = q at *
  obtain ⟨v, p'⟩ := q
  dsimp only at ok ⊢
  cases p' with
  | none =>
    have e : pI none = -1 := rfl
    simp (config := { maxSteps := 1000000 }) only [renf8, set32, fb, fl, f0, f1, f2, f3, f36, f37, f38, ↓fdA_cbnd, ↓fdA_sbnd, ↓fdA_vbnd, ↓fdA_cont, ↓fdA_cren, ↓fdA_sren, ↓fdA_vren, zeroArr, zokFd, kk, e0, e1, e2, e3, e, undef, push_cast, ↓Int.toNat_natCast, ↓Int.cast_ofNat_Int, Int.cast_ofNat_Int, ↓reduceIte, reduceCtorEq, Nat.reduceEqDiff, Nat.reduceLT, Nat.reduceLeDiff, Nat.reduceAdd, Nat.reduceSub, Nat.reduceMul, Int.reduceNeg, Int.reduceLE, Int.reduceLT, Int.reduceToNat, Int.reduceAdd, Int.reduceSub, Int.reduceMul, Int.reduceEq]
    rfl
  | some m =>
    have e : pI (some m) = (m : Int) := rfl
    have hm' : m ≤ b.length := ok
    have m0 : ¬ ((m : Int) < 0) := by omega
    have m1 : (-9223372036854775808 : Int) ≤ (b.length : Int) - m ∧ (b.length : Int) - m ≤ 9223372036854775807 := by omega
    have ml : UInt64.ofInt ((b.length : Int) - m) = UInt64.ofNat (b.length - m) := by
      rw [show (b.length : Int) - m = ((b.length - m : Nat) : Int) by omega]; exact ofInt64 _
    have mn : (UInt64.ofNat (b.length - m)).toNat = b.length - m := by rw [UInt64.toNat_ofNat']; omega
    have vn : n64 v = (v.toNat : Int) := rfl
    by_cases hv : v.toNat ≤ b.length - m
    · have g : ¬ UInt64.ofNat (b.length - m) < v := by rw [UInt64.lt_iff_toNat_lt, mn]; omega
      have vs : ((m : Int) + n64 v).toNat - m = v.toNat := by omega
      have e10 : pI (some (m + v.toNat)) = (m : Int) + n64 v := by rw [vn]; exact Int.natCast_add m v.toNat
      simp (config := { maxSteps := 1000000 }) only [renf8, set32, fb, fl, f0, f1, f2, f3, f36, f37, f38, ↓fdA_cbnd, ↓fdA_sbnd, ↓fdA_vbnd, ↓fdA_cont, ↓fdA_cren, ↓fdA_sren, ↓fdA_vren, zeroArr, zokFd, kk, e0, e1, e2, e3, e, e10, m0, m1, ml, g, vs, hv, undef, push_cast, ↓Int.toNat_natCast, ↓Int.cast_ofNat_Int, Int.cast_ofNat_Int, ↓reduceIte, reduceCtorEq, Nat.reduceEqDiff, Nat.reduceLT, Nat.reduceLeDiff, Nat.reduceAdd, Nat.reduceSub, Nat.reduceMul, Int.reduceNeg, Int.reduceLE, Int.reduceLT, Int.reduceToNat, Int.reduceAdd, Int.reduceSub, Int.reduceMul, Int.reduceEq]
      repeat' refine And.intro ?_ ?_
      all_goals first | omega | rfl
    · have g : UInt64.ofNat (b.length - m) < v := by rw [UInt64.lt_iff_toNat_lt, mn]; omega
      have e9 : pI none = -1 := rfl
      simp (config := { maxSteps := 1000000 }) only [renf8, set32, fb, fl, f0, f1, f2, f3, f36, f37, f38, ↓fdA_cbnd, ↓fdA_sbnd, ↓fdA_vbnd, ↓fdA_cont, ↓fdA_cren, ↓fdA_sren, ↓fdA_vren, zeroArr, zokFd, kk, e0, e1, e2, e3, e, e9, m0, m1, ml, g, hv, undef, push_cast, ↓Int.toNat_natCast, ↓Int.cast_ofNat_Int, Int.cast_ofNat_Int, ↓reduceIte, reduceCtorEq, Nat.reduceEqDiff, Nat.reduceLT, Nat.reduceLeDiff, Nat.reduceAdd, Nat.reduceSub, Nat.reduceMul, Int.reduceNeg, Int.reduceLE, Int.reduceLT, Int.reduceToNat, Int.reduceAdd, Int.reduceSub, Int.reduceMul, Int.reduceEq]
      rfl
end
end Go.Proofs.YtiaeollemmkclaaDoor
/- caucusref13's Take, a sum. -/
namespace Go.Proofs.YtiaeollemmkclaaDoor
open Go.RowKit
set_option linter.unusedSimpArgs false
set_option linter.unusedVariables false
/-- A sum, as far as it is read. -/
def sumTo (b : List UInt8) (m i : Nat) : List UInt8 := (b.drop m).take i ++ List.replicate (32 - i) 0
theorem sumTo_zero (b : List UInt8) (m : Nat) : sumTo b m 0 = List.replicate 32 0 := rfl
theorem sumTo_succ {b : List UInt8} {m i : Nat} (h : m + i < b.length) (hi : i < 32) : (sumTo b m i).set i (ix b (m + i)) = sumTo b m (i + 1) := by
  have hl : ((b.drop m).take i).length = i := by rw [List.length_take, List.length_drop]; omega
  unfold sumTo
  rw [List.set_append_right _ _ (by omega), hl, Nat.sub_self, show 32 - i = (32 - (i + 1)) + 1 by omega, List.replicate_succ, List.set_cons_zero, List.take_add_one, List.getElem?_drop, List.getElem?_eq_getElem h, ix, List.getD_eq_getElem?_getD, List.getElem?_eq_getElem h]
  simp
theorem sumTo_len {b : List UInt8} {m i : Nat} (h : m + i ≤ b.length) (hi : i ≤ 32) : (sumTo b m i).length = 32 := by
  unfold sumTo
  rw [List.length_append, List.length_take, List.length_drop, List.length_replicate]
  omega
theorem sumTo_all {b : List UInt8} {m : Nat} : sumTo b m 32 = (b.drop m).take 32 := by
  unfold sumTo
  simp
theorem set_sum {X Y Z W : At} {q : List UInt8} {R : List At} {i : Nat} {y : UInt8} (hq : q.length = 32) (hi : i < 32) : (X :: Y :: Z :: W :: (q.map f8 ++ R)).set (4 + i) (.v (vU8 y)) = X :: Y :: Z :: W :: ((q.set i y).map f8 ++ R) := by
  rw [show 4 + i = i + 1 + 1 + 1 + 1 by omega]
  simp only [List.set_cons_succ]
  rw [List.set_append_left _ _ (by rw [List.length_map]; omega), List.map_set]
  rfl
theorem takeQ_sum (b : List UInt8) (p : Plc) {f : FdR} (k3 : f.k = 3) : takeQ b f.fd p = (match p with
    | none => none
    | some m => if b.length - m < 32 then none else some (m + 32)) := by
  unfold takeQ
  rw [if_neg (show ¬ f.fd.k = 0 by show ¬ f.k = 0; rw [k3]; decide), if_neg (show ¬ f.fd.k = 1 by show ¬ f.k = 1; rw [k3]; decide), if_neg (show ¬ f.fd.k = 2 by show ¬ f.k = 2; rw [k3]; decide), if_pos (show f.fd.k = 3 from k3)]
  cases p <;> rfl
theorem fdL_same (k n l b : Value) (q : List UInt8) (x : Value) (γ : List Nm) : Sc.val γ (.g (fdL (.v k) (.v n) (.v l) (.v b) q (.v x))) = Sc.val [] (.g (fdL (.v k) (.v n) (.v l) (.v b) q (.v x))) := (fdL_val (.v k) (.v n) (.v l) (.v b) q (.v x) γ).trans (fdL_val (.v k) (.v n) (.v l) (.v b) q (.v x) []).symm
attribute [local irreducible] Callable CallOK CallG CallM DrawG LoopG symR symM
attribute [local irreducible] fdA putV numP sumTo
section
variable (b : List UInt8) (A : Option Addr) (c : Nat) (p : Plc) (f : FdR) (w : World) (hp : pOk b p) (hm : b.length ≤ 100000) (hR : RdV w w.heap.size A (b.map vU8)) (hf : f.Ok w)
include hp hm hR hf
set_option maxRecDepth 100000 in
set_option maxHeartbeats 1000000 in
theorem take_sum (k3 : f.k = 3) : Calls Tryd.prog 22 (List.map (Sv.val []) [.x (.a (.v (.slice A b.length c))), .x (.a (.v (.int .i64 (pI p)))), .x (.g (fdA f))]).toArray w fun e w' => e = .returned ((Sv.t [.g (fdL (.v (vU8 f.k)) (.v (.int .u64 0)) nl nl (sumOf (pS b p)).1 nl), .a (.v (.int .i64 (pI (takeQ b f.fd p))))]).val []) ∧ Below w.heap.size w w' := by
  obtain ⟨f0, f1, f2, f3, f36, f37, f38⟩ := fdA_get hf.s
  have fl := fdA_len hf.s
  have fb := fun n => fdA_bnd f n
  simp only [At.bnd] at fb
  have kk : (0 : UInt8) < f.k := by rw [k3]; decide
  have e0 : (f.k = 0) = False := eq_false (by rw [k3]; decide)
  have e1 : (f.k = 1) = False := eq_false (by rw [k3]; decide)
  have e2 : (f.k = 2) = False := eq_false (by rw [k3]; decide)
  have e3 : (f.k = 3) = True := eq_true k3
  have hQ := takeQ_sum b p k3
  refine calls_v (n := 185) Tryd.func22 rfl Tryd.ntmps22 [.x (.a (.v (.slice A b.length c))), .x (.a (.v (.int .i64 (pI p)))), .x (.g (fdA f))] (by simp) (.t [.g (fdL (.v (vU8 f.k)) (.v (.int .u64 0)) nl nl (sumOf (pS b p)).1 nl), .a (.v (.int .i64 (pI (takeQ b f.fd p))))]) (fun γ => by
    show Value.tuple #[_, _] = Value.tuple #[_, _]
    rw [show nl = .v (.slice none 0 0) from rfl, fdL_same]
    rfl) ?_
  have hmu := manyU_of f.many
  have h37 := hf.many
  have F := FM.of (f := vU8) hR
  rw [hQ]
  cases p with
  | none =>
    have e : pI none = -1 := rfl
    have es : (sumOf (pS b none)).1 = List.replicate 32 0 := rfl
    rw [es]
    simp (config := { maxSteps := 1000000 }) only [renf8, set32, fb, fl, f0, f1, f2, f3, f36, f37, f38, ↓fdA_cbnd, ↓fdA_sbnd, ↓fdA_vbnd, ↓fdA_cont, ↓fdA_cren, ↓fdA_sren, ↓fdA_vren, zeroArr, zokFd, kk, e0, e1, e2, e3, hmu, e, undef, push_cast, ↓Int.toNat_natCast, ↓Int.cast_ofNat_Int, Int.cast_ofNat_Int, ↓reduceIte, reduceCtorEq, Nat.reduceEqDiff, Nat.reduceLT, Nat.reduceLeDiff, Nat.reduceAdd, Nat.reduceSub, Nat.reduceMul, Int.reduceNeg, Int.reduceLE, Int.reduceLT, Int.reduceToNat, Int.reduceAdd, Int.reduceSub, Int.reduceMul, Int.reduceEq]
    rfl
  | some m =>
    have e : pI (some m) = (m : Int) := rfl
    have hm' : m ≤ b.length := hp
    have m0 : ¬ ((m : Int) < 0) := by omega
    have m1 : (-9223372036854775808 : Int) ≤ (b.length : Int) - m ∧ (b.length : Int) - m ≤ 9223372036854775807 := by omega
    have ml : UInt64.ofInt ((b.length : Int) - m) = UInt64.ofNat (b.length - m) := by
      rw [show (b.length : Int) - m = ((b.length - m : Nat) : Int) by omega]; exact ofInt64 _
    have mn : (UInt64.ofNat (b.length - m)).toNat = b.length - m := by rw [UInt64.toNat_ofNat']; omega
    have q32 : (32 : UInt64).toNat = 32 := rfl
    by_cases hv : b.length - m < 32
    · have g : UInt64.ofNat (b.length - m) < 32 := by rw [UInt64.lt_iff_toNat_lt, mn, q32]; omega
      have es : (sumOf (pS b (some m))).1 = List.replicate 32 0 := by unfold sumOf pS; rw [if_pos (by simp; omega)]
      have e9 : pI none = -1 := rfl
      rw [es]
      simp (config := { maxSteps := 1000000 }) only [renf8, set32, fb, fl, f0, f1, f2, f3, f36, f37, f38, ↓fdA_cbnd, ↓fdA_sbnd, ↓fdA_vbnd, ↓fdA_cont, ↓fdA_cren, ↓fdA_sren, ↓fdA_vren, zeroArr, zokFd, kk, e0, e1, e2, e3, hmu, e, e9, m0, m1, ml, g, hv, undef, push_cast, ↓Int.toNat_natCast, ↓Int.cast_ofNat_Int, Int.cast_ofNat_Int, ↓reduceIte, reduceCtorEq, Nat.reduceEqDiff, Nat.reduceLT, Nat.reduceLeDiff, Nat.reduceAdd, Nat.reduceSub, Nat.reduceMul, Int.reduceNeg, Int.reduceLE, Int.reduceLT, Int.reduceToNat, Int.reduceAdd, Int.reduceSub, Int.reduceMul, Int.reduceEq]
      rfl
    · have g : ¬ UInt64.ofNat (b.length - m) < 32 := by rw [UInt64.lt_iff_toNat_lt, mn, q32]; omega
      have es : (sumOf (pS b (some m))).1 = (b.drop m).take 32 := by unfold sumOf pS; rw [if_neg (by simp; omega)]
      rw [es]
      simp (config := { maxSteps := 1000000 }) only [renf8, set32, fb, fl, f0, f1, f2, f3, f36, f37, f38, ↓fdA_cbnd, ↓fdA_sbnd, ↓fdA_vbnd, ↓fdA_cont, ↓fdA_cren, ↓fdA_sren, ↓fdA_vren, zeroArr, zokFd, kk, e0, e1, e2, e3, hmu, e, m0, m1, ml, g, hv, undef, push_cast, ↓Int.toNat_natCast, ↓Int.cast_ofNat_Int, Int.cast_ofNat_Int, ↓reduceIte, reduceCtorEq, Nat.reduceEqDiff, Nat.reduceLT, Nat.reduceLeDiff, Nat.reduceAdd, Nat.reduceSub, Nat.reduceMul, Int.reduceNeg, Int.reduceLE, Int.reduceLT, Int.reduceToNat, Int.reduceAdd, Int.reduceSub, Int.reduceMul, Int.reduceEq]
      (repeat (refine And.intro (by first | omega | decide) ?_))
      refine loop_rule (ι := Nat) (fun i => ⟨[(0, .x (.a (.v (.slice A b.length c)))), (1, .x (.a (.v (.int .i64 m)))), (6, .x (.a (.p 0 0))), (8, .x (.a (.p 1 0))), (14, .x (.a (.v (.int .i64 i))))], [.blk 32 (.c (.v (.int .u8 0) :: .v (.int .u64 0) :: .v (.slice none 0 0) :: .v (.slice none 0 0) :: (List.map f8 (List.replicate 32 0) ++ [.v (.slice none 0 0), .v (.int .i64 0), .v (.int .u64 0)]))), .blk 32 (.c (.v (vU8 f.k) :: .v (.int .u64 0) :: .v (.slice none 0 0) :: .v (.slice none 0 0) :: (List.map f8 (sumTo b m i) ++ [.v (.slice none 0 0), .v (.int .i64 0), .v (.int .u64 0)])))]⟩) (fun i => i ≤ 32) (fun i => 32 - i) 0 [1, 2] (by omega) ?_ ?_
      · simp (config := { maxSteps := 1000000 }) only [sumTo_zero, renf8, set32, fb, fl, f0, f1, f2, f3, f36, f37, f38, ↓fdA_cbnd, ↓fdA_sbnd, ↓fdA_vbnd, ↓fdA_cont, ↓fdA_cren, ↓fdA_sren, ↓fdA_vren, zeroArr, zokFd, push_cast, ↓Int.toNat_natCast, ↓Int.cast_ofNat_Int, Int.cast_ofNat_Int, ↓reduceIte, reduceCtorEq, Nat.reduceEqDiff, Nat.reduceLT, Nat.reduceLeDiff, Nat.reduceAdd, Nat.reduceSub, Nat.reduceMul, Int.reduceNeg, Int.reduceLE, Int.reduceLT, Int.reduceToNat, Int.reduceAdd, Int.reduceSub, Int.reduceMul, Int.reduceEq]
        done
      intro i hi
      have sl := sumTo_len (b := b) (m := m) (i := i) (by omega) hi
      by_cases hlt : (i : Int) < 32
      · have i0 : (0 : Int) ≤ (m : Int) + i := by omega
        have i1 : (m : Int) + i < b.length := by omega
        have i2 : (0 : Int) ≤ i := by omega
        have it : ((m : Int) + i).toNat = m + i := by omega
        have ib : (-9223372036854775808 : Int) ≤ (m : Int) + i ∧ (m : Int) + i ≤ 9223372036854775807 := by omega
        have d0 := F.cell (m + i) (by omega)
        have d1 := F.ok (m + i) (by omega)
        have hA := F.some_ (by omega)
        have hst := sumTo_succ (b := b) (m := m) (i := i) (by omega) (by omega)
        have hse := fun (X Y Z W : At) (R : List At) (y : UInt8) => set_sum (X := X) (Y := Y) (Z := Z) (W := W) (R := R) (y := y) sl (show i < 32 by omega)
        simp (config := { maxSteps := 1000000 }) only [renf8, set32, fb, fl, f0, f1, f2, f3, f36, f37, f38, ↓fdA_cbnd, ↓fdA_sbnd, ↓fdA_vbnd, ↓fdA_cont, ↓fdA_cren, ↓fdA_sren, ↓fdA_vren, zeroArr, zokFd, hlt, i0, i1, i2, it, ib, d0, d1, hA, hse, hst, undef, push_cast, ↓Int.toNat_natCast, ↓Int.cast_ofNat_Int, Int.cast_ofNat_Int, ↓reduceIte, reduceCtorEq, Nat.reduceEqDiff, Nat.reduceLT, Nat.reduceLeDiff, Nat.reduceAdd, Nat.reduceSub, Nat.reduceMul, Int.reduceNeg, Int.reduceLE, Int.reduceLT, Int.reduceToNat, Int.reduceAdd, Int.reduceSub, Int.reduceMul, Int.reduceEq]
        (repeat (refine And.intro (by first | omega | decide) ?_))
        refine loopK_normal (i + 1) [0, 1] (by omega) (by omega) ?_
        simp (config := { maxSteps := 1000000 }) only [renf8, set32, fb, fl, f0, f1, f2, f3, f36, f37, f38, ↓fdA_cbnd, ↓fdA_sbnd, ↓fdA_vbnd, ↓fdA_cont, ↓fdA_cren, ↓fdA_sren, ↓fdA_vren, zeroArr, zokFd, push_cast, ↓Int.toNat_natCast, ↓Int.cast_ofNat_Int, Int.cast_ofNat_Int, ↓reduceIte, reduceCtorEq, Nat.reduceEqDiff, Nat.reduceLT, Nat.reduceLeDiff, Nat.reduceAdd, Nat.reduceSub, Nat.reduceMul, Int.reduceNeg, Int.reduceLE, Int.reduceLT, Int.reduceToNat, Int.reduceAdd, Int.reduceSub, Int.reduceMul, Int.reduceEq]
        done
      · obtain rfl : i = 32 := by omega
        have ib : (-9223372036854775808 : Int) ≤ (m : Int) + 32 ∧ (m : Int) + 32 ≤ 9223372036854775807 := by omega
        have e10 : pI (some (m + 32)) = (m : Int) + 32 := rfl
        simp (config := { maxSteps := 1000000 }) only [renf8, set32, fb, fl, f0, f1, f2, f3, f36, f37, f38, ↓fdA_cbnd, ↓fdA_sbnd, ↓fdA_vbnd, ↓fdA_cont, ↓fdA_cren, ↓fdA_sren, ↓fdA_vren, zeroArr, zokFd, hlt, sl, ib, e10, undef, push_cast, ↓Int.toNat_natCast, ↓Int.cast_ofNat_Int, Int.cast_ofNat_Int, ↓reduceIte, reduceCtorEq, Nat.reduceEqDiff, Nat.reduceLT, Nat.reduceLeDiff, Nat.reduceAdd, Nat.reduceSub, Nat.reduceMul, Int.reduceNeg, Int.reduceLE, Int.reduceLT, Int.reduceToNat, Int.reduceAdd, Int.reduceSub, Int.reduceMul, Int.reduceEq]
        rw [sumTo_all]
        rfl
end
end Go.Proofs.YtiaeollemmkclaaDoor
/- caucusref13's Take, numbers. -/
namespace Go.Proofs.YtiaeollemmkclaaDoor
open Go.RowKit
set_option linter.unusedSimpArgs false
set_option linter.unusedVariables false
theorem takeQ_nums (b : List UInt8) (p : Plc) {f : FdR} (k1 : f.k = 1) : takeQ b f.fd p = (match (numP b (manyU f.many) p).2 with
    | none => none
    | some m => (numsP b f.most (numP b (manyU f.many) p).1.toNat [] (some m)).2) := by
  unfold takeQ
  rw [if_neg (show ¬ f.fd.k = 0 by show ¬ f.k = 0; rw [k1]; decide), if_pos (show f.fd.k = 1 from k1)]
  rfl
/-- What Take answers for numbers. -/
def tkN (b : List UInt8) (f : FdR) (p : Plc) : List UInt64 := match (numP b (manyU f.many) p).2 with
  | none => []
  | some m => (numsP b f.most (numP b (manyU f.many) p).1.toNat [] (some m)).1
attribute [local irreducible] Callable CallOK CallG CallM DrawG LoopG symR symM
attribute [local irreducible] fdA putV numP numsP
section
variable (b : List UInt8) (A : Option Addr) (c : Nat) (p : Plc) (f : FdR) (w : World) (hp : pOk b p) (hm : b.length ≤ 100000) (hc : b.length ≤ c) (hR : RdV w w.heap.size A (b.map vU8)) (hf : f.Ok w)
include hp hm hc hR hf
set_option maxRecDepth 100000 in
set_option maxHeartbeats 1000000 in
theorem take_nums (k1 : f.k = 1) (m : Nat) (v : UInt64) (hq : numP b (manyU f.many) p = (v, some m)) : Calls Tryd.prog 22 (List.map (Sv.val []) [.x (.a (.v (.slice A b.length c))), .x (.a (.v (.int .i64 (pI p)))), .x (.g (fdA f))]).toArray w fun e w' => ∃ γ1, e = .returned ((Sv.t [.g (fdL (.v (vU8 f.k)) (.v (.int .u64 0)) (if (takeQ b f.fd p).isSome then .o 0 else nl) nl (List.replicate 32 0) nl), .a (.v (.int .i64 (pI (takeQ b f.fd p))))]).val γ1) ∧ Sat w No γ1 (if (takeQ b f.fd p).isSome then [.own 27 (.u64 (tkN b f p))] else []) w' := by
  obtain ⟨f0, f1, f2, f3, f36, f37, f38⟩ := fdA_get hf.s
  have fl := fdA_len hf.s
  have fb := fun n => fdA_bnd f n
  simp only [At.bnd] at fb
  have kk : (0 : UInt8) < f.k := by rw [k1]; decide
  have e0 : (f.k = 0) = False := eq_false (by rw [k1]; decide)
  have e1 : (f.k = 1) = True := eq_true k1
  have e3 : (f.k = 3) = False := eq_false (by rw [k1]; decide)
  refine calls_fun (n := 185) Tryd.func22 rfl Tryd.ntmps22 [.x (.a (.v (.slice A b.length c))), .x (.a (.v (.int .i64 (pI p)))), .x (.g (fdA f))] (Sat.init w No) (by simp) _ _ ?_
  have nK : ∀ hp', CallOK Tryd.prog w No 74 [.x (.a (.v (.slice A b.length c))), .x (.a (.v (.int .i64 (pI p)))), .x (.a (.v (vU64 (manyU f.many))))] hp' (.t (numT b (manyU f.many) p)) hp' := fun hp' => refNumK b (manyU f.many) p hp (by omega) (shows_raw hR _ _ (by simp) hc)
  have nL : ∀ p' hp', pOk b p' → CallOK Tryd.prog w No 74 [.x (.a (.v (.slice A b.length c))), .x (.a (.v (.int .i64 (pI p')))), .x (.a (.v (vU64 f.most)))] hp' (.t (numT b f.most p')) hp' := fun p' hp' h => refNumK b f.most p' h (by omega) (shows_raw hR _ _ (by simp) hc)
  have ok := numP_ok b (manyU f.many) hp
  have hmu := manyU_of f.many
  have h37 := hf.many
  simp (config := { maxSteps := 1000000 }) only [renf8, set32, fb, fl, f0, f1, f2, f3, f36, f37, f38, ↓fdA_cbnd, ↓fdA_sbnd, ↓fdA_vbnd, ↓fdA_cont, ↓fdA_cren, ↓fdA_sren, ↓fdA_vren, zeroArr, zokFd, kk, e0, e1, e3, hmu, undef, push_cast, ↓Int.toNat_natCast, ↓Int.cast_ofNat_Int, Int.cast_ofNat_Int, ↓reduceIte, reduceCtorEq, Nat.reduceEqDiff, Nat.reduceLT, Nat.reduceLeDiff, Nat.reduceAdd, Nat.reduceSub, Nat.reduceMul, Int.reduceNeg, Int.reduceLE, Int.reduceLT, Int.reduceToNat, Int.reduceAdd, Int.reduceSub, Int.reduceMul, Int.reduceEq]
  (repeat (refine And.intro (by first | omega | decide) ?_))
  refine callG_v rfl cb74 rfl (nK _) (dOk_lt rfl) ?_
  unfold numT
  rw [hq] at ok ⊢
  dsimp only at ok ⊢
  have e : pI (some m) = (m : Int) := rfl
  have hm' : m ≤ b.length := ok
  have m0 : ¬ ((m : Int) < 0) := by omega
  have m1 : (-9223372036854775808 : Int) ≤ (b.length : Int) - m ∧ (b.length : Int) - m ≤ 9223372036854775807 := by omega
  simp (config := { maxSteps := 1000000 }) only [renf8, set32, fb, fl, f0, f1, f2, f3, f36, f37, f38, ↓fdA_cbnd, ↓fdA_sbnd, ↓fdA_vbnd, ↓fdA_cont, ↓fdA_cren, ↓fdA_sren, ↓fdA_vren, zeroArr, zokFd, kk, e0, e1, e3, e, m0, m1, undef, push_cast, ↓Int.toNat_natCast, ↓Int.cast_ofNat_Int, Int.cast_ofNat_Int, ↓reduceIte, reduceCtorEq, Nat.reduceEqDiff, Nat.reduceLT, Nat.reduceLeDiff, Nat.reduceAdd, Nat.reduceSub, Nat.reduceMul, Int.reduceNeg, Int.reduceLE, Int.reduceLT, Int.reduceToNat, Int.reduceAdd, Int.reduceSub, Int.reduceMul, Int.reduceEq]
  (repeat (refine And.intro (by first | omega | decide) ?_))
  refine loop_ghostC 2 2 32 27 _ (.u64 []) rfl rfl rfl trivial (by simp (config := { maxSteps := 1000000 }) only [renf8, set32, fb, fl, f0, f1, f2, f3, f36, f37, f38, ↓fdA_cbnd, ↓fdA_sbnd, ↓fdA_vbnd, ↓fdA_cont, ↓fdA_cren, ↓fdA_sren, ↓fdA_vren, zeroArr, zokFd, push_cast, ↓Int.toNat_natCast, ↓Int.cast_ofNat_Int, Int.cast_ofNat_Int, ↓reduceIte, reduceCtorEq, Nat.reduceEqDiff, Nat.reduceLT, Nat.reduceLeDiff, Nat.reduceAdd, Nat.reduceSub, Nat.reduceMul, Int.reduceNeg, Int.reduceLE, Int.reduceLT, Int.reduceToNat, Int.reduceAdd, Int.reduceSub, Int.reduceMul, Int.reduceEq]) ?_
  simp (config := { maxSteps := 1000000 }) only [renf8, set32, fb, fl, f0, f1, f2, f3, f36, f37, f38, ↓fdA_cbnd, ↓fdA_sbnd, ↓fdA_vbnd, ↓fdA_cont, ↓fdA_cren, ↓fdA_sren, ↓fdA_vren, zeroArr, zokFd, undef, push_cast, ↓Int.toNat_natCast, ↓Int.cast_ofNat_Int, Int.cast_ofNat_Int, ↓reduceIte, reduceCtorEq, Nat.reduceEqDiff, Nat.reduceLT, Nat.reduceLeDiff, Nat.reduceAdd, Nat.reduceSub, Nat.reduceMul, Int.reduceNeg, Int.reduceLE, Int.reduceLT, Int.reduceToNat, Int.reduceAdd, Int.reduceSub, Int.reduceMul, Int.reduceEq]
  obtain ⟨R, hRR⟩ : ∃ R, R = numsP b f.most v.toNat [] (some m) := ⟨_, rfl⟩
  have hv64 := v.toNat_lt
  have hQ := takeQ_nums b p k1
  have hN : tkN b f p = (match (numP b (manyU f.many) p).2 with
    | none => []
    | some m => (numsP b f.most (numP b (manyU f.many) p).1.toNat [] (some m)).1) := rfl
  rw [hq] at hQ hN
  dsimp only at hQ hN
  rw [← hRR] at hQ hN
  have hz : vU64 (UInt64.ofNat 0) = .int .u64 0 := rfl
  refine loop_rule (ι := Nat × List UInt64 × Plc) (fun x => ⟨[(0, .x (.a (.v (.slice A b.length c)))), (1, .x (.a (.v (.int .i64 (pI x.2.2))))), (5, .x (.a (.p 0 0))), (6, .x (.a (.p 1 0))), (8, .x (.a (.p 2 0))), (10, .x (.a (.v (vU64 v)))), (12, .x (.a (.v (vU64 (UInt64.ofNat x.1)))))], [.blk 32 (.c (fdA f)), .blk 32 (.c (.v (.int .u8 0) :: .v (.int .u64 0) :: .v (.slice none 0 0) :: .v (.slice none 0 0) :: (List.map f8 (List.replicate 32 0) ++ [.v (.slice none 0 0), .v (.int .i64 0), .v (.int .u64 0)]))), .blk 32 (.c (.v (vU8 f.k) :: .v (.int .u64 0) :: .o 3 :: .v (.slice none 0 0) :: (List.map f8 (List.replicate 32 0) ++ [.v (.slice none 0 0), .v (.int .i64 0), .v (.int .u64 0)]))), .own 27 (.u64 x.2.1)]⟩)
    (fun x => x.1 ≤ v.toNat ∧ pOk b x.2.2 ∧ (∀ q, x.2.2 = some q → x.2.1.length ≤ q ∧ numsP b f.most (v.toNat - x.1) x.2.1 x.2.2 = R) ∧ (x.2.2 = none → R = ([], none))) (fun x => v.toNat - x.1) (0, [], some m) [0, 1, 2, 3] ⟨Nat.zero_le _, ok, fun q hq => ⟨Nat.zero_le _, by rw [hRR]; rfl⟩, fun h => by cases h⟩ ?_ ?_
  · simp (config := { maxSteps := 1000000 }) only [e, hz, renf8, set32, fb, fl, f0, f1, f2, f3, f36, f37, f38, ↓fdA_cbnd, ↓fdA_sbnd, ↓fdA_vbnd, ↓fdA_cont, ↓fdA_cren, ↓fdA_sren, ↓fdA_vren, zeroArr, zokFd, push_cast, ↓Int.toNat_natCast, ↓Int.cast_ofNat_Int, Int.cast_ofNat_Int, ↓reduceIte, reduceCtorEq, Nat.reduceEqDiff, Nat.reduceLT, Nat.reduceLeDiff, Nat.reduceAdd, Nat.reduceSub, Nat.reduceMul, Int.reduceNeg, Int.reduceLE, Int.reduceLT, Int.reduceToNat, Int.reduceAdd, Int.reduceSub, Int.reduceMul, Int.reduceEq]
    done
  rintro ⟨i, acc, p1⟩ ⟨hi, hpo, hs, hn⟩
  dsimp only at hi hpo hs hn
  have iv : (UInt64.ofNat i).toNat = i := by rw [UInt64.toNat_ofNat']; omega
  cases p1 with
  | none =>
    have e9 : pI none = -1 := rfl
    have hR0 := hn rfl
    rw [hR0] at hQ hN
    dsimp only at hQ hN
    by_cases hlt : UInt64.ofNat i < v
    · simp (config := { maxSteps := 1000000 }) only [renf8, set32, fb, fl, f0, f1, f2, f3, f36, f37, f38, ↓fdA_cbnd, ↓fdA_sbnd, ↓fdA_vbnd, ↓fdA_cont, ↓fdA_cren, ↓fdA_sren, ↓fdA_vren, zeroArr, zokFd, hlt, e9, hQ, hN, Option.isSome_none, undef, push_cast, ↓Int.toNat_natCast, ↓Int.cast_ofNat_Int, Int.cast_ofNat_Int, ↓reduceIte, reduceCtorEq, Nat.reduceEqDiff, Nat.reduceLT, Nat.reduceLeDiff, Nat.reduceAdd, Nat.reduceSub, Nat.reduceMul, Int.reduceNeg, Int.reduceLE, Int.reduceLT, Int.reduceToNat, Int.reduceAdd, Int.reduceSub, Int.reduceMul, Int.reduceEq]
      refine endsAs [] ?_
      simp (config := { maxSteps := 1000000 }) only [fdL, nl, renf8, set32, fb, fl, f0, f1, f2, f3, f36, f37, f38, ↓fdA_cbnd, ↓fdA_sbnd, ↓fdA_vbnd, ↓fdA_cont, ↓fdA_cren, ↓fdA_sren, ↓fdA_vren, zeroArr, zokFd, push_cast, ↓Int.toNat_natCast, ↓Int.cast_ofNat_Int, Int.cast_ofNat_Int, ↓reduceIte, reduceCtorEq, Nat.reduceEqDiff, Nat.reduceLT, Nat.reduceLeDiff, Nat.reduceAdd, Nat.reduceSub, Nat.reduceMul, Int.reduceNeg, Int.reduceLE, Int.reduceLT, Int.reduceToNat, Int.reduceAdd, Int.reduceSub, Int.reduceMul, Int.reduceEq]
      done
    · simp (config := { maxSteps := 1000000 }) only [renf8, set32, fb, fl, f0, f1, f2, f3, f36, f37, f38, ↓fdA_cbnd, ↓fdA_sbnd, ↓fdA_vbnd, ↓fdA_cont, ↓fdA_cren, ↓fdA_sren, ↓fdA_vren, zeroArr, zokFd, hlt, e9, hQ, hN, Option.isSome_none, undef, push_cast, ↓Int.toNat_natCast, ↓Int.cast_ofNat_Int, Int.cast_ofNat_Int, ↓reduceIte, reduceCtorEq, Nat.reduceEqDiff, Nat.reduceLT, Nat.reduceLeDiff, Nat.reduceAdd, Nat.reduceSub, Nat.reduceMul, Int.reduceNeg, Int.reduceLE, Int.reduceLT, Int.reduceToNat, Int.reduceAdd, Int.reduceSub, Int.reduceMul, Int.reduceEq]
      refine endsAs [] ?_
      simp (config := { maxSteps := 1000000 }) only [fdL, nl, renf8, set32, fb, fl, f0, f1, f2, f3, f36, f37, f38, ↓fdA_cbnd, ↓fdA_sbnd, ↓fdA_vbnd, ↓fdA_cont, ↓fdA_cren, ↓fdA_sren, ↓fdA_vren, zeroArr, zokFd, push_cast, ↓Int.toNat_natCast, ↓Int.cast_ofNat_Int, Int.cast_ofNat_Int, ↓reduceIte, reduceCtorEq, Nat.reduceEqDiff, Nat.reduceLT, Nat.reduceLeDiff, Nat.reduceAdd, Nat.reduceSub, Nat.reduceMul, Int.reduceNeg, Int.reduceLE, Int.reduceLT, Int.reduceToNat, Int.reduceAdd, Int.reduceSub, Int.reduceMul, Int.reduceEq]
      done
  | some q =>
    have e9 : pI (some q) = (q : Int) := rfl
    have hq' : q ≤ b.length := hpo
    have q0 : (0 : Int) ≤ q := by omega
    have q1 : ¬ ((q : Int) < 0) := by omega
    obtain ⟨hs1, hs2⟩ := hs q rfl
    by_cases hlt : UInt64.ofNat i < v
    · have hin : i < v.toNat := by rw [UInt64.lt_iff_toNat_lt, iv] at hlt; exact hlt
      simp (config := { maxSteps := 1000000 }) only [renf8, set32, fb, fl, f0, f1, f2, f3, f36, f37, f38, ↓fdA_cbnd, ↓fdA_sbnd, ↓fdA_vbnd, ↓fdA_cont, ↓fdA_cren, ↓fdA_sren, ↓fdA_vren, zeroArr, zokFd, hlt, e9, q0, q1, undef, push_cast, ↓Int.toNat_natCast, ↓Int.cast_ofNat_Int, Int.cast_ofNat_Int, ↓reduceIte, reduceCtorEq, Nat.reduceEqDiff, Nat.reduceLT, Nat.reduceLeDiff, Nat.reduceAdd, Nat.reduceSub, Nat.reduceMul, Int.reduceNeg, Int.reduceLE, Int.reduceLT, Int.reduceToNat, Int.reduceAdd, Int.reduceSub, Int.reduceMul, Int.reduceEq]
      (repeat (refine And.intro (by first | omega | decide) ?_))
      refine callG_v rfl cb74 rfl (nL (some q) _ hq') (dOk_lt rfl) ?_
      have okn := numP_ok b f.most (p := some q) hq'
      have hlen := fun m' => numP_len (most := f.most) hq' (m := m')
      have hst : numsP b f.most (v.toNat - i) acc (some q) = (if (numP b f.most (some q)).2.isSome = true then numsP b f.most (v.toNat - (i + 1)) (acc ++ [(numP b f.most (some q)).1]) (numP b f.most (some q)).2 else ([], none)) := by
        rw [show v.toNat - i = (v.toNat - (i + 1)) + 1 by omega, numsP]
      rw [hst] at hs2
      unfold numT
      generalize numP b f.most (some q) = r at *
      obtain ⟨v2, p2⟩ := r
      dsimp only at okn hlen hs2 ⊢
      have hi1 : UInt64.ofNat i + 1 = UInt64.ofNat (i + 1) := by
        apply UInt64.toNat_inj.1
        rw [UInt64.toNat_add, iv, UInt64.toNat_ofNat']
        rfl
      have b1 : (acc.length + 1) * 8 ≤ 140737488355328 := by omega
      have b2 : acc.length + 1 ≤ 2 ^ 63 - 1 := by omega
      simp (config := { maxSteps := 1000000 }) only [renf8, set32, fb, fl, f0, f1, f2, f3, f36, f37, f38, ↓fdA_cbnd, ↓fdA_sbnd, ↓fdA_vbnd, ↓fdA_cont, ↓fdA_cren, ↓fdA_sren, ↓fdA_vren, zeroArr, zokFd, hi1, b1, b2, undef, push_cast, ↓Int.toNat_natCast, ↓Int.cast_ofNat_Int, Int.cast_ofNat_Int, ↓reduceIte, reduceCtorEq, Nat.reduceEqDiff, Nat.reduceLT, Nat.reduceLeDiff, Nat.reduceAdd, Nat.reduceSub, Nat.reduceMul, Int.reduceNeg, Int.reduceLE, Int.reduceLT, Int.reduceToNat, Int.reduceAdd, Int.reduceSub, Int.reduceMul, Int.reduceEq]
      (repeat (refine And.intro (by first | omega | decide) ?_))
      refine loopK_normal (i + 1, acc ++ [v2], p2) [0, 1, 2, 5] ⟨by show i + 1 ≤ v.toNat; omega, okn, fun q2 h2 => ?_, fun h2 => ?_⟩ (by show v.toNat - (i + 1) < v.toNat - i; omega) ?_
      · have h2 : p2 = some q2 := h2
        subst h2
        have h3 := hlen q2 rfl
        refine ⟨by simp only [List.length_append, List.length_singleton]; omega, ?_⟩
        rw [← hs2]
        rfl
      · have h2 : p2 = none := h2
        subst h2
        rw [← hs2]
        rfl
      · simp (config := { maxSteps := 1000000 }) only [renf8, set32, fb, fl, f0, f1, f2, f3, f36, f37, f38, ↓fdA_cbnd, ↓fdA_sbnd, ↓fdA_vbnd, ↓fdA_cont, ↓fdA_cren, ↓fdA_sren, ↓fdA_vren, zeroArr, zokFd, push_cast, ↓Int.toNat_natCast, ↓Int.cast_ofNat_Int, Int.cast_ofNat_Int, ↓reduceIte, reduceCtorEq, Nat.reduceEqDiff, Nat.reduceLT, Nat.reduceLeDiff, Nat.reduceAdd, Nat.reduceSub, Nat.reduceMul, Int.reduceNeg, Int.reduceLE, Int.reduceLT, Int.reduceToNat, Int.reduceAdd, Int.reduceSub, Int.reduceMul, Int.reduceEq]
        done
    · have hin : i = v.toNat := by rw [UInt64.lt_iff_toNat_lt, iv] at hlt; omega
      have hR1 : R = (acc, some q) := by rw [← hs2, hin, Nat.sub_self]; unfold numsP; rfl
      rw [hR1] at hQ hN
      dsimp only at hQ hN
      simp (config := { maxSteps := 1000000 }) only [renf8, set32, fb, fl, f0, f1, f2, f3, f36, f37, f38, ↓fdA_cbnd, ↓fdA_sbnd, ↓fdA_vbnd, ↓fdA_cont, ↓fdA_cren, ↓fdA_sren, ↓fdA_vren, zeroArr, zokFd, hlt, e9, q0, q1, hQ, hN, Option.isSome_some, undef, push_cast, ↓Int.toNat_natCast, ↓Int.cast_ofNat_Int, Int.cast_ofNat_Int, ↓reduceIte, reduceCtorEq, Nat.reduceEqDiff, Nat.reduceLT, Nat.reduceLeDiff, Nat.reduceAdd, Nat.reduceSub, Nat.reduceMul, Int.reduceNeg, Int.reduceLE, Int.reduceLT, Int.reduceToNat, Int.reduceAdd, Int.reduceSub, Int.reduceMul, Int.reduceEq]
      refine endsAs [3] ?_
      simp (config := { maxSteps := 1000000 }) only [fdL, nl, renf8, set32, fb, fl, f0, f1, f2, f3, f36, f37, f38, ↓fdA_cbnd, ↓fdA_sbnd, ↓fdA_vbnd, ↓fdA_cont, ↓fdA_cren, ↓fdA_sren, ↓fdA_vren, zeroArr, zokFd, push_cast, ↓Int.toNat_natCast, ↓Int.cast_ofNat_Int, Int.cast_ofNat_Int, ↓reduceIte, reduceCtorEq, Nat.reduceEqDiff, Nat.reduceLT, Nat.reduceLeDiff, Nat.reduceAdd, Nat.reduceSub, Nat.reduceMul, Int.reduceNeg, Int.reduceLE, Int.reduceLT, Int.reduceToNat, Int.reduceAdd, Int.reduceSub, Int.reduceMul, Int.reduceEq]
      done
end
end Go.Proofs.YtiaeollemmkclaaDoor
/- Four bytes as a number, by factors (Take of a row, caucusref13). -/
namespace Go.Proofs.YtiaeollemmkclaaDoor
theorem w4_mul (a b c d : UInt8) : 16777216 * a.toUInt32 + 65536 * b.toUInt32 + 256 * c.toUInt32 + d.toUInt32 = w4 a b c d := by
  have ha := a.toNat_lt
  have hb := b.toNat_lt
  have hc := c.toNat_lt
  have hd := d.toNat_lt
  have q1 : (16777216 : UInt32).toNat = 16777216 := rfl
  have q2 : (65536 : UInt32).toNat = 65536 := rfl
  have q3 : (256 : UInt32).toNat = 256 := rfl
  have s1 : (24 : UInt32).toNat % 32 = 24 := rfl
  have s2 : (16 : UInt32).toNat % 32 = 16 := rfl
  have s3 : (8 : UInt32).toNat % 32 = 8 := rfl
  have h1 : 2 ^ 24 * a.toNat ||| 2 ^ 16 * b.toNat = 2 ^ 24 * a.toNat + 2 ^ 16 * b.toNat := (Nat.two_pow_add_eq_or_of_lt (by omega) _).symm
  have h2 : (2 ^ 24 * a.toNat + 2 ^ 16 * b.toNat) ||| 2 ^ 8 * c.toNat = 2 ^ 24 * a.toNat + 2 ^ 16 * b.toNat + 2 ^ 8 * c.toNat := by
    rw [show 2 ^ 24 * a.toNat + 2 ^ 16 * b.toNat = 2 ^ 16 * (2 ^ 8 * a.toNat + b.toNat) by omega]
    exact (Nat.two_pow_add_eq_or_of_lt (by omega) _).symm
  have h3 : (2 ^ 24 * a.toNat + 2 ^ 16 * b.toNat + 2 ^ 8 * c.toNat) ||| d.toNat = 2 ^ 24 * a.toNat + 2 ^ 16 * b.toNat + 2 ^ 8 * c.toNat + d.toNat := by
    rw [show 2 ^ 24 * a.toNat + 2 ^ 16 * b.toNat + 2 ^ 8 * c.toNat = 2 ^ 8 * (2 ^ 16 * a.toNat + 2 ^ 8 * b.toNat + c.toNat) by omega]
    exact (Nat.two_pow_add_eq_or_of_lt (by omega) _).symm
  apply UInt32.toNat_inj.1
  unfold w4
  simp only [UInt32.toNat_or, UInt32.toNat_shiftLeft, UInt32.toNat_add, UInt32.toNat_mul, UInt8.toNat_toUInt32, q1, q2, q3, s1, s2, s3, Nat.shiftLeft_eq]
  rw [Nat.mod_eq_of_lt (show a.toNat * 2 ^ 24 < 2 ^ 32 by omega), Nat.mod_eq_of_lt (show b.toNat * 2 ^ 16 < 2 ^ 32 by omega), Nat.mod_eq_of_lt (show c.toNat * 2 ^ 8 < 2 ^ 32 by omega),
    Nat.mul_comm a.toNat, Nat.mul_comm b.toNat, Nat.mul_comm c.toNat, h1, h2, h3]
  omega
/-- One number more of a row. -/
theorem fours_succ : ∀ (l : List UInt8) (i : Nat), 4 * i + 4 ≤ l.length → fours (l.take (4 * (i + 1))) = fours (l.take (4 * i)) ++ [w4 (ix l (4 * i)) (ix l (4 * i + 1)) (ix l (4 * i + 2)) (ix l (4 * i + 3))]
  | a :: b :: c :: d :: l, 0, h => by simp [fours, ix]
  | a :: b :: c :: d :: l, i + 1, h => by
    have ih := fours_succ l i (by simp at h; omega)
    rw [show 4 * (i + 1 + 1) = 4 * (i + 1) + 1 + 1 + 1 + 1 by omega]
    simp only [List.take_succ_cons, fours, ih]
    rw [show 4 * (i + 1) = 4 * i + 1 + 1 + 1 + 1 by omega]
    simp only [List.take_succ_cons, fours, List.cons_append]
    rfl
  | [], i, h => by simp at h
  | [_], i, h => by simp at h
  | [_, _], i, h => by simp at h
  | [_, _, _], i, h => by simp at h
end Go.Proofs.YtiaeollemmkclaaDoor
/- caucusref13's Take, a row. -/
namespace Go.Proofs.YtiaeollemmkclaaDoor
open Go.RowKit
set_option linter.unusedSimpArgs false
set_option linter.unusedVariables false
attribute [local irreducible] Callable CallOK CallG CallM DrawG LoopG symR symM
attribute [local irreducible] fdA putV numP w4
section
variable (b : List UInt8) (A : Option Addr) (c : Nat) (p : Plc) (f : FdR) (w : World) (hp : pOk b p) (hm : b.length ≤ 100000) (hc : b.length ≤ c) (hR : RdV w w.heap.size A (b.map vU8)) (hf : f.Ok w)
include hp hm hc hR hf
set_option maxRecDepth 100000 in
set_option maxHeartbeats 1000000 in
theorem take_row (k0 : ¬ f.k = 0) (k1 : ¬ f.k = 1) (k2 : ¬ f.k = 2) (k3 : ¬ f.k = 3) (m : Nat) (v : UInt64) (hq : numP b (manyU f.many) p = (v, some m)) (hv : v.toNat ≤ (b.length - m) / 4) : Calls Tryd.prog 22 (List.map (Sv.val []) [.x (.a (.v (.slice A b.length c))), .x (.a (.v (.int .i64 (pI p)))), .x (.g (fdA f))]).toArray w fun e w' => ∃ γ1, e = .returned ((Sv.t [.g (fdL (.v (vU8 f.k)) (.v (.int .u64 0)) nl nl (List.replicate 32 0) (.o 0)), .a (.v (.int .i64 ((m : Int) + 4 * (v.toNat : Int))))]).val γ1) ∧ Sat w No γ1 [.own 136 (.u32 (fours ((b.drop m).take (4 * v.toNat))))] w' := by
  obtain ⟨f0, f1, f2, f3, f36, f37, f38⟩ := fdA_get hf.s
  have fl := fdA_len hf.s
  have fb := fun n => fdA_bnd f n
  simp only [At.bnd] at fb
  have kk : (0 : UInt8) < f.k := by
    rw [UInt8.lt_iff_toNat_lt]
    exact Nat.pos_of_ne_zero fun h => k0 (UInt8.toNat_inj.1 h)
  have e0 : (f.k = 0) = False := eq_false k0
  have e1 : (f.k = 1) = False := eq_false k1
  have e2 : (f.k = 2) = False := eq_false k2
  have e3 : (f.k = 3) = False := eq_false k3
  refine calls_fun (n := 185) Tryd.func22 rfl Tryd.ntmps22 [.x (.a (.v (.slice A b.length c))), .x (.a (.v (.int .i64 (pI p)))), .x (.g (fdA f))] (Sat.init w No) (by simp) _ _ ?_
  have nK : ∀ hp', CallOK Tryd.prog w No 74 [.x (.a (.v (.slice A b.length c))), .x (.a (.v (.int .i64 (pI p)))), .x (.a (.v (vU64 (manyU f.many))))] hp' (.t (numT b (manyU f.many) p)) hp' := fun hp' => refNumK b (manyU f.many) p hp (by omega) (shows_raw hR _ _ (by simp) hc)
  have ok := numP_ok b (manyU f.many) hp
  have hmu := manyU_of f.many
  have F := FM.of (f := vU8) hR
  have h37 := hf.many
  simp (config := { maxSteps := 1000000 }) only [renf8, set32, fb, fl, f0, f1, f2, f3, f36, f37, f38, ↓fdA_cbnd, ↓fdA_sbnd, ↓fdA_vbnd, ↓fdA_cont, ↓fdA_cren, ↓fdA_sren, ↓fdA_vren, zeroArr, zokFd, kk, e0, e1, e2, e3, hmu, undef, push_cast, ↓Int.toNat_natCast, ↓Int.cast_ofNat_Int, Int.cast_ofNat_Int, ↓reduceIte, reduceCtorEq, Nat.reduceEqDiff, Nat.reduceLT, Nat.reduceLeDiff, Nat.reduceAdd, Nat.reduceSub, Nat.reduceMul, Int.reduceNeg, Int.reduceLE, Int.reduceLT, Int.reduceToNat, Int.reduceAdd, Int.reduceSub, Int.reduceMul, Int.reduceEq]
  (repeat (refine And.intro (by first | omega | decide) ?_))
  refine callG_v rfl cb74 rfl (nK _) (dOk_lt rfl) ?_
  unfold numT
  rw [hq] at ok ⊢
  dsimp only at ok ⊢
  have e : pI (some m) = (m : Int) := rfl
  have hm' : m ≤ b.length := ok
  have m0 : ¬ ((m : Int) < 0) := by omega
  have m1 : (-9223372036854775808 : Int) ≤ (b.length : Int) - m ∧ (b.length : Int) - m ≤ 9223372036854775807 := by omega
  have ml : UInt64.ofInt ((b.length : Int) - m) = UInt64.ofNat (b.length - m) := by
    rw [show (b.length : Int) - m = ((b.length - m : Nat) : Int) by omega]; exact ofInt64 _
  have mn : (UInt64.ofNat (b.length - m)).toNat = b.length - m := by rw [UInt64.toNat_ofNat']; omega
  have q4 : (4 : UInt64).toNat = 4 := rfl
  have g1 : ¬ UInt64.ofNat (b.length - m) < v := by rw [UInt64.lt_iff_toNat_lt, mn]; omega
  have g2 : ¬ UInt64.ofNat (b.length - m) < 4 * v := by rw [UInt64.lt_iff_toNat_lt, mn, UInt64.toNat_mul, q4]; omega
  simp (config := { maxSteps := 1000000 }) only [renf8, set32, fb, fl, f0, f1, f2, f3, f36, f37, f38, ↓fdA_cbnd, ↓fdA_sbnd, ↓fdA_vbnd, ↓fdA_cont, ↓fdA_cren, ↓fdA_sren, ↓fdA_vren, zeroArr, zokFd, kk, e0, e1, e2, e3, e, m0, m1, ml, g1, g2, undef, push_cast, ↓Int.toNat_natCast, ↓Int.cast_ofNat_Int, Int.cast_ofNat_Int, ↓reduceIte, reduceCtorEq, Nat.reduceEqDiff, Nat.reduceLT, Nat.reduceLeDiff, Nat.reduceAdd, Nat.reduceSub, Nat.reduceMul, Int.reduceNeg, Int.reduceLE, Int.reduceLT, Int.reduceToNat, Int.reduceAdd, Int.reduceSub, Int.reduceMul, Int.reduceEq]
  (repeat (refine And.intro (by first | omega | decide) ?_))
  refine loop_ghostC 2 36 32 136 _ (.u32 []) rfl rfl rfl trivial (by simp (config := { maxSteps := 1000000 }) only [renf8, set32, fb, fl, f0, f1, f2, f3, f36, f37, f38, ↓fdA_cbnd, ↓fdA_sbnd, ↓fdA_vbnd, ↓fdA_cont, ↓fdA_cren, ↓fdA_sren, ↓fdA_vren, zeroArr, zokFd, push_cast, ↓Int.toNat_natCast, ↓Int.cast_ofNat_Int, Int.cast_ofNat_Int, ↓reduceIte, reduceCtorEq, Nat.reduceEqDiff, Nat.reduceLT, Nat.reduceLeDiff, Nat.reduceAdd, Nat.reduceSub, Nat.reduceMul, Int.reduceNeg, Int.reduceLE, Int.reduceLT, Int.reduceToNat, Int.reduceAdd, Int.reduceSub, Int.reduceMul, Int.reduceEq]) ?_
  simp (config := { maxSteps := 1000000 }) only [renf8, set32, fb, fl, f0, f1, f2, f3, f36, f37, f38, ↓fdA_cbnd, ↓fdA_sbnd, ↓fdA_vbnd, ↓fdA_cont, ↓fdA_cren, ↓fdA_sren, ↓fdA_vren, zeroArr, zokFd, undef, push_cast, ↓Int.toNat_natCast, ↓Int.cast_ofNat_Int, Int.cast_ofNat_Int, ↓reduceIte, reduceCtorEq, Nat.reduceEqDiff, Nat.reduceLT, Nat.reduceLeDiff, Nat.reduceAdd, Nat.reduceSub, Nat.reduceMul, Int.reduceNeg, Int.reduceLE, Int.reduceLT, Int.reduceToNat, Int.reduceAdd, Int.reduceSub, Int.reduceMul, Int.reduceEq]
  refine loop_rule (ι := Nat) (fun i => ⟨[(0, .x (.a (.v (.slice A b.length c)))), (1, .x (.a (.v (.int .i64 m)))), (6, .x (.a (.p 0 0))), (8, .x (.a (.p 1 0))), (10, .x (.a (.v (vU64 v)))), (15, .x (.a (.v (.int .i64 i))))], [.blk 32 (.c (.v (.int .u8 0) :: .v (.int .u64 0) :: .v (.slice none 0 0) :: .v (.slice none 0 0) :: (List.map f8 (List.replicate 32 0) ++ [.v (.slice none 0 0), .v (.int .i64 0), .v (.int .u64 0)]))), .blk 32 (.c (.v (vU8 f.k) :: .v (.int .u64 0) :: .v (.slice none 0 0) :: .v (.slice none 0 0) :: (List.map f8 (List.replicate 32 0) ++ [.o 2, .v (.int .i64 0), .v (.int .u64 0)]))), .own 136 (.u32 (fours ((b.drop m).take (4 * i))))]⟩) (fun i => i ≤ v.toNat) (fun i => v.toNat - i) 0 [1, 2, 3] (Nat.zero_le _) ?_ ?_
  · have e9 : fours ((b.drop m).take (4 * 0)) = [] := rfl
    simp (config := { maxSteps := 1000000 }) only [e9, renf8, set32, fb, fl, f0, f1, f2, f3, f36, f37, f38, ↓fdA_cbnd, ↓fdA_sbnd, ↓fdA_vbnd, ↓fdA_cont, ↓fdA_cren, ↓fdA_sren, ↓fdA_vren, zeroArr, zokFd, push_cast, ↓Int.toNat_natCast, ↓Int.cast_ofNat_Int, Int.cast_ofNat_Int, ↓reduceIte, reduceCtorEq, Nat.reduceEqDiff, Nat.reduceLT, Nat.reduceLeDiff, Nat.reduceAdd, Nat.reduceSub, Nat.reduceMul, Int.reduceNeg, Int.reduceLE, Int.reduceLT, Int.reduceToNat, Int.reduceAdd, Int.reduceSub, Int.reduceMul, Int.reduceEq]
    rfl
  intro i hi
  have vn : n64 v = (v.toNat : Int) := rfl
  by_cases hlt : (i : Int) < n64 v
  · have hin : i < v.toNat := by omega
    have hb : m + 4 * i + 4 ≤ b.length := by omega
    have j0 : (0 : Int) ≤ (m : Int) + 4 * i := by omega
    have j1 : (m : Int) + 4 * i ≤ (m : Int) + 4 * i + 4 := by omega
    have j2 : (m : Int) + 4 * i + 4 ≤ c := by omega
    have j3 : ((m : Int) + 4 * i).toNat = m + 4 * i := by omega
    have j4 : ((m : Int) + 4 * i + 4).toNat - (m + 4 * i) = 4 := by omega
    have hcut : pCut A (m + 4 * i) c = pAdd A (m + 4 * i) := if_neg (by omega)
    have hA := F.some_ (by omega)
    have cell : ∀ j, j < 4 → cellOf w (pAdd A (m + 4 * i + j)) = vU8 (ix (b.drop m) (4 * i + j)) ∧ rawOk w No (pAdd A (m + 4 * i + j)) := fun j hj => by
      have e : ix (b.drop m) (4 * i + j) = ix b (m + 4 * i + j) := by
        rw [ix, ix, List.getD_eq_getElem?_getD, List.getD_eq_getElem?_getD, List.getElem?_drop, Nat.add_assoc]
      rw [e]
      exact ⟨F.cell _ (by omega), F.ok _ (by omega)⟩
    obtain ⟨c0, o0⟩ := cell 0 (by omega)
    obtain ⟨c1, o1⟩ := cell 1 (by omega)
    obtain ⟨c2, o2⟩ := cell 2 (by omega)
    obtain ⟨c3, o3⟩ := cell 3 (by omega)
    rw [Nat.add_zero] at c0 o0
    have hf4 := fours_succ (b.drop m) i (by rw [List.length_drop]; omega)
    simp (config := { maxSteps := 1000000 }) only [renf8, set32, fb, fl, f0, f1, f2, f3, f36, f37, f38, ↓fdA_cbnd, ↓fdA_sbnd, ↓fdA_vbnd, ↓fdA_cont, ↓fdA_cren, ↓fdA_sren, ↓fdA_vren, zeroArr, zokFd, hlt, j0, j1, j2, j3, j4, hcut, hA, undef, push_cast, ↓Int.toNat_natCast, ↓Int.cast_ofNat_Int, Int.cast_ofNat_Int, ↓reduceIte, reduceCtorEq, Nat.reduceEqDiff, Nat.reduceLT, Nat.reduceLeDiff, Nat.reduceAdd, Nat.reduceSub, Nat.reduceMul, Int.reduceNeg, Int.reduceLE, Int.reduceLT, Int.reduceToNat, Int.reduceAdd, Int.reduceSub, Int.reduceMul, Int.reduceEq]
    (repeat (refine And.intro (by first | omega | decide) ?_))
    have hAs : (pAdd A (m + 4 * i)).isSome = true := by rw [pAdd_isSome]; exact hA
    have hw := w4_mul (ix (b.drop m) (4 * i)) (ix (b.drop m) (4 * i + 1)) (ix (b.drop m) (4 * i + 2)) (ix (b.drop m) (4 * i + 3))
    have fl4 : (fours ((b.drop m).take (4 * i))).length ≤ 100000 := by
      have this := fours_len
      have h1 := this ((b.drop m).take (4 * i))
      rw [List.length_take, List.length_drop] at h1
      omega
    have b1 : ((fours ((b.drop m).take (4 * i))).length + 1) * 4 ≤ 140737488355328 := by omega
    have b2 : (fours ((b.drop m).take (4 * i))).length + 1 ≤ 2 ^ 63 - 1 := by omega
    refine drawVT_rule 3 [2] 27 (.rd 0 (.rd 1 (.rd 2 (.rd 3 (.rd 4 (.rd 5 (.rd 6 (.rd 7 (.rd 8 (.rd 9 (.rd 10 (.rd 11 (.rd 12 (.rd 13 (.rd 14 (.rd 15 (.rd 16 (.rd 17 (.rd 18 (.rd 19 (.rd 20 (.rd 21 (.rd 22 (.rd 23 (.wr 24 (.wr 25 (.rd 26 .nil))))))))))))))))))))))))))) ⟨[(0, .x (.a (.v (.slice A b.length c)))), (1, .x (.a (.v (.int .i64 m)))), (6, .x (.a (.p 0 0))), (8, .x (.a (.p 1 0))), (10, .x (.a (.v (vU64 v)))), (15, .x (.a (.v (.int .i64 i)))), (177, .x (.a (.o 3))), (178, .x (.a (.p 1 36)))], [.blk 32 (.c (.v (.int .u8 0) :: .v (.int .u64 0) :: .v (.slice none 0 0) :: .v (.slice none 0 0) :: (List.map f8 (List.replicate 32 0) ++ [.v (.slice none 0 0), .v (.int .i64 0), .v (.int .u64 0)]))), .blk 32 (.c (.v (vU8 f.k) :: .v (.int .u64 0) :: .v (.slice none 0 0) :: .v (.slice none 0 0) :: (List.map f8 (List.replicate 32 0) ++ [.o 2, .v (.int .i64 0), .v (.int .u64 0)]))), .gone, .own 136 (.u32 (fours ((b.drop m).take (4 * i)) ++ [w4 (ix (b.drop m) (4 * i)) (ix (b.drop m) (4 * i + 1)) (ix (b.drop m) (4 * i + 2)) (ix (b.drop m) (4 * i + 3))]))]⟩ (by kernel_rfl) (by kernel_rfl) (Nat.le_refl 3) ?_ ?_
    · simp (config := { maxSteps := 1000000 }) only [renf8, set32, fb, fl, f0, f1, f2, f3, f36, f37, f38, ↓fdA_cbnd, ↓fdA_sbnd, ↓fdA_vbnd, ↓fdA_cont, ↓fdA_cren, ↓fdA_sren, ↓fdA_vren, zeroArr, zokFd, pAdd_add, pAdd_zero, c0, o0, c1, o1, c2, o2, c3, o3, hAs, hw, b1, b2, undef, push_cast, ↓Int.toNat_natCast, ↓Int.cast_ofNat_Int, Int.cast_ofNat_Int, ↓reduceIte, reduceCtorEq, Nat.reduceEqDiff, Nat.reduceLT, Nat.reduceLeDiff, Nat.reduceAdd, Nat.reduceSub, Nat.reduceMul, Int.reduceNeg, Int.reduceLE, Int.reduceLT, Int.reduceToNat, Int.reduceAdd, Int.reduceSub, Int.reduceMul, Int.reduceEq]
      (repeat (refine And.intro (by first | omega | decide) ?_))
      refine leads_le [0, 1, 2, 4] ?_
      simp (config := { maxSteps := 1000000 }) only [renf8, set32, fb, fl, f0, f1, f2, f3, f36, f37, f38, ↓fdA_cbnd, ↓fdA_sbnd, ↓fdA_vbnd, ↓fdA_cont, ↓fdA_cren, ↓fdA_sren, ↓fdA_vren, zeroArr, zokFd, push_cast, ↓Int.toNat_natCast, ↓Int.cast_ofNat_Int, Int.cast_ofNat_Int, ↓reduceIte, reduceCtorEq, Nat.reduceEqDiff, Nat.reduceLT, Nat.reduceLeDiff, Nat.reduceAdd, Nat.reduceSub, Nat.reduceMul, Int.reduceNeg, Int.reduceLE, Int.reduceLT, Int.reduceToNat, Int.reduceAdd, Int.reduceSub, Int.reduceMul, Int.reduceEq]
      done
    · simp (config := { maxSteps := 1000000 }) only [renf8, set32, fb, fl, f0, f1, f2, f3, f36, f37, f38, ↓fdA_cbnd, ↓fdA_sbnd, ↓fdA_vbnd, ↓fdA_cont, ↓fdA_cren, ↓fdA_sren, ↓fdA_vren, zeroArr, zokFd, undef, push_cast, ↓Int.toNat_natCast, ↓Int.cast_ofNat_Int, Int.cast_ofNat_Int, ↓reduceIte, reduceCtorEq, Nat.reduceEqDiff, Nat.reduceLT, Nat.reduceLeDiff, Nat.reduceAdd, Nat.reduceSub, Nat.reduceMul, Int.reduceNeg, Int.reduceLE, Int.reduceLT, Int.reduceToNat, Int.reduceAdd, Int.reduceSub, Int.reduceMul, Int.reduceEq]
      (repeat (refine And.intro (by first | omega | decide) ?_))
      refine loopK_normal (i + 1) [0, 1, 3] (by omega) (by omega) ?_
      simp (config := { maxSteps := 1000000 }) only [renf8, set32, fb, fl, f0, f1, f2, f3, f36, f37, f38, ↓fdA_cbnd, ↓fdA_sbnd, ↓fdA_vbnd, ↓fdA_cont, ↓fdA_cren, ↓fdA_sren, ↓fdA_vren, zeroArr, zokFd, hf4, push_cast, ↓Int.toNat_natCast, ↓Int.cast_ofNat_Int, Int.cast_ofNat_Int, ↓reduceIte, reduceCtorEq, Nat.reduceEqDiff, Nat.reduceLT, Nat.reduceLeDiff, Nat.reduceAdd, Nat.reduceSub, Nat.reduceMul, Int.reduceNeg, Int.reduceLE, Int.reduceLT, Int.reduceToNat, Int.reduceAdd, Int.reduceSub, Int.reduceMul, Int.reduceEq]
      done
  · obtain rfl : i = v.toNat := by omega
    simp (config := { maxSteps := 1000000 }) only [renf8, set32, fb, fl, f0, f1, f2, f3, f36, f37, f38, ↓fdA_cbnd, ↓fdA_sbnd, ↓fdA_vbnd, ↓fdA_cont, ↓fdA_cren, ↓fdA_sren, ↓fdA_vren, zeroArr, zokFd, hlt, undef, push_cast, ↓Int.toNat_natCast, ↓Int.cast_ofNat_Int, Int.cast_ofNat_Int, ↓reduceIte, reduceCtorEq, Nat.reduceEqDiff, Nat.reduceLT, Nat.reduceLeDiff, Nat.reduceAdd, Nat.reduceSub, Nat.reduceMul, Int.reduceNeg, Int.reduceLE, Int.reduceLT, Int.reduceToNat, Int.reduceAdd, Int.reduceSub, Int.reduceMul, Int.reduceEq]
    refine ⟨by omega, by omega, by omega, by omega, ?_⟩
    rw [← vn]
    refine endsAs [2] ?_
    simp (config := { maxSteps := 1000000 }) only [fdL, nl, renf8, set32, fb, fl, f0, f1, f2, f3, f36, f37, f38, ↓fdA_cbnd, ↓fdA_sbnd, ↓fdA_vbnd, ↓fdA_cont, ↓fdA_cren, ↓fdA_sren, ↓fdA_vren, zeroArr, zokFd, push_cast, ↓Int.toNat_natCast, ↓Int.cast_ofNat_Int, Int.cast_ofNat_Int, ↓reduceIte, reduceCtorEq, Nat.reduceEqDiff, Nat.reduceLT, Nat.reduceLeDiff, Nat.reduceAdd, Nat.reduceSub, Nat.reduceMul, Int.reduceNeg, Int.reduceLE, Int.reduceLT, Int.reduceToNat, Int.reduceAdd, Int.reduceSub, Int.reduceMul, Int.reduceEq]
    done
end
end Go.Proofs.YtiaeollemmkclaaDoor
/- caucusref13's Take: where nothing is read; all kinds told alike. -/
namespace Go.Proofs.YtiaeollemmkclaaDoor
open Go.RowKit
set_option linter.unusedSimpArgs false
set_option linter.unusedVariables false
theorem numsP_none {b : List UInt8} {most : UInt64} : ∀ {n : Nat} {acc : List UInt64} {m : Nat}, (numsP b most n acc (some m)).2 = none → (numsP b most n acc (some m)).1 = []
  | 0, acc, m, h => by rw [numsP] at h; cases h
  | n + 1, acc, m, h => by
    rw [numsP] at h ⊢
    cases hq : (numP b most (some m)).2 with
    | none => simp
    | some q =>
      rw [hq] at h
      simp only [Option.isSome_some, if_true] at h ⊢
      exact numsP_none h
def tkOut (f : FdR) : List At := fdL (.v (vU8 f.k)) (.v (.int .u64 0)) nl nl (List.replicate 32 0) nl
attribute [local irreducible] Callable CallOK CallG CallM DrawG LoopG symR symM
section
attribute [local irreducible] fdA putV numP
variable (b : List UInt8) (A : Option Addr) (c : Nat) (p : Plc) (f : FdR) (w : World) (hp : pOk b p) (hm : b.length ≤ 100000) (hc : b.length ≤ c) (hR : RdV w w.heap.size A (b.map vU8)) (hf : f.Ok w)
include hp hm hc hR hf
set_option maxRecDepth 100000 in
set_option maxHeartbeats 1000000 in
theorem takeNo (k0 : ¬ f.k = 0) (k3 : ¬ f.k = 3) (hq : (numP b (manyU f.many) p).2 = none) : Calls Tryd.prog 22 (List.map (Sv.val []) [.x (.a (.v (.slice A b.length c))), .x (.a (.v (.int .i64 (pI p)))), .x (.g (fdA f))]).toArray w fun e w' => e = .returned ((Sv.t [.g (tkOut f), .a (.v (.int .i64 (-1)))]).val []) ∧ Below w.heap.size w w' := by
  obtain ⟨f0, f1, f2, f3, f36, f37, f38⟩ := fdA_get hf.s
  have fl := fdA_len hf.s
  have fb := fun n => fdA_bnd f n
  simp only [At.bnd] at fb
  have kk : (0 : UInt8) < f.k := by
    rw [UInt8.lt_iff_toNat_lt]
    exact Nat.pos_of_ne_zero fun h => k0 (UInt8.toNat_inj.1 h)
  have e0 : (f.k = 0) = False := eq_false k0
  have e3 : (f.k = 3) = False := eq_false k3
  refine calls_v (n := 185) Tryd.func22 rfl Tryd.ntmps22 [.x (.a (.v (.slice A b.length c))), .x (.a (.v (.int .i64 (pI p)))), .x (.g (fdA f))] (by simp) (.t [.g (tkOut f), .a (.v (.int .i64 (-1)))]) (fun γ => by
    show Value.tuple _ = Value.tuple _
    simp only [List.map_cons, List.map_nil]
    congr 1) ?_
  have nK : ∀ hp', CallOK Tryd.prog w No 74 [.x (.a (.v (.slice A b.length c))), .x (.a (.v (.int .i64 (pI p)))), .x (.a (.v (vU64 (manyU f.many))))] hp' (.t (numT b (manyU f.many) p)) hp' := fun hp' => refNumK b (manyU f.many) p hp (by omega) (shows_raw hR _ _ (by simp) hc)
  have hmu := manyU_of f.many
  have h37 := hf.many
  have hn := numP_none hq
  unfold tkOut
  simp (config := { maxSteps := 1000000 }) only [renf8, set32, fb, fl, f0, f1, f2, f3, f36, f37, f38, ↓fdA_cbnd, ↓fdA_sbnd, ↓fdA_vbnd, ↓fdA_cont, ↓fdA_cren, ↓fdA_sren, ↓fdA_vren, zeroArr, zokFd, kk, e0, e3, hmu, undef, push_cast, ↓Int.toNat_natCast, ↓Int.cast_ofNat_Int, Int.cast_ofNat_Int, ↓reduceIte, reduceCtorEq, Nat.reduceEqDiff, Nat.reduceLT, Nat.reduceLeDiff, Nat.reduceAdd, Nat.reduceSub, Nat.reduceMul, Int.reduceNeg, Int.reduceLE, Int.reduceLT, Int.reduceToNat, Int.reduceAdd, Int.reduceSub, Int.reduceMul, Int.reduceEq]
  (repeat (refine And.intro (by first | omega | decide) ?_))
  refine callG_v rfl cb74 rfl (nK _) (dOk_lt rfl) ?_
  unfold numT
  rw [hq, hn]
  have e : pI none = -1 := rfl
  simp (config := { maxSteps := 1000000 }) only [renf8, set32, fb, fl, f0, f1, f2, f3, f36, f37, f38, ↓fdA_cbnd, ↓fdA_sbnd, ↓fdA_vbnd, ↓fdA_cont, ↓fdA_cren, ↓fdA_sren, ↓fdA_vren, zeroArr, zokFd, kk, e0, e3, e, undef, push_cast, ↓Int.toNat_natCast, ↓Int.cast_ofNat_Int, Int.cast_ofNat_Int, ↓reduceIte, reduceCtorEq, Nat.reduceEqDiff, Nat.reduceLT, Nat.reduceLeDiff, Nat.reduceAdd, Nat.reduceSub, Nat.reduceMul, Int.reduceNeg, Int.reduceLE, Int.reduceLT, Int.reduceToNat, Int.reduceAdd, Int.reduceSub, Int.reduceMul, Int.reduceEq]
  rfl
set_option maxRecDepth 100000 in
set_option maxHeartbeats 1000000 in
theorem take_row_no (k0 : ¬ f.k = 0) (k1 : ¬ f.k = 1) (k2 : ¬ f.k = 2) (k3 : ¬ f.k = 3) (m : Nat) (v : UInt64) (hq : numP b (manyU f.many) p = (v, some m)) (hv : ¬ v.toNat ≤ (b.length - m) / 4) : Calls Tryd.prog 22 (List.map (Sv.val []) [.x (.a (.v (.slice A b.length c))), .x (.a (.v (.int .i64 (pI p)))), .x (.g (fdA f))]).toArray w fun e w' => e = .returned ((Sv.t [.g (tkOut f), .a (.v (.int .i64 (-1)))]).val []) ∧ Below w.heap.size w w' := by
  obtain ⟨f0, f1, f2, f3, f36, f37, f38⟩ := fdA_get hf.s
  have fl := fdA_len hf.s
  have fb := fun n => fdA_bnd f n
  simp only [At.bnd] at fb
  have kk : (0 : UInt8) < f.k := by
    rw [UInt8.lt_iff_toNat_lt]
    exact Nat.pos_of_ne_zero fun h => k0 (UInt8.toNat_inj.1 h)
  have e0 : (f.k = 0) = False := eq_false k0
  have e1 : (f.k = 1) = False := eq_false k1
  have e2 : (f.k = 2) = False := eq_false k2
  have e3 : (f.k = 3) = False := eq_false k3
  refine calls_v (n := 185) Tryd.func22 rfl Tryd.ntmps22 [.x (.a (.v (.slice A b.length c))), .x (.a (.v (.int .i64 (pI p)))), .x (.g (fdA f))] (by simp) (.t [.g (tkOut f), .a (.v (.int .i64 (-1)))]) (fun γ => by
    show Value.tuple _ = Value.tuple _
    simp only [List.map_cons, List.map_nil]
    congr 1) ?_
  have nK : ∀ hp', CallOK Tryd.prog w No 74 [.x (.a (.v (.slice A b.length c))), .x (.a (.v (.int .i64 (pI p)))), .x (.a (.v (vU64 (manyU f.many))))] hp' (.t (numT b (manyU f.many) p)) hp' := fun hp' => refNumK b (manyU f.many) p hp (by omega) (shows_raw hR _ _ (by simp) hc)
  have ok := numP_ok b (manyU f.many) hp
  have hmu := manyU_of f.many
  have h37 := hf.many
  unfold tkOut
  simp (config := { maxSteps := 1000000 }) only [renf8, set32, fb, fl, f0, f1, f2, f3, f36, f37, f38, ↓fdA_cbnd, ↓fdA_sbnd, ↓fdA_vbnd, ↓fdA_cont, ↓fdA_cren, ↓fdA_sren, ↓fdA_vren, zeroArr, zokFd, kk, e0, e1, e2, e3, hmu, undef, push_cast, ↓Int.toNat_natCast, ↓Int.cast_ofNat_Int, Int.cast_ofNat_Int, ↓reduceIte, reduceCtorEq, Nat.reduceEqDiff, Nat.reduceLT, Nat.reduceLeDiff, Nat.reduceAdd, Nat.reduceSub, Nat.reduceMul, Int.reduceNeg, Int.reduceLE, Int.reduceLT, Int.reduceToNat, Int.reduceAdd, Int.reduceSub, Int.reduceMul, Int.reduceEq]
  (repeat (refine And.intro (by first | omega | decide) ?_))
  refine callG_v rfl cb74 rfl (nK _) (dOk_lt rfl) ?_
  unfold numT
  rw [hq] at ok ⊢
  dsimp only at ok ⊢
  have e : pI (some m) = (m : Int) := rfl
  have hm' : m ≤ b.length := ok
  have m0 : ¬ ((m : Int) < 0) := by omega
  have m1 : (-9223372036854775808 : Int) ≤ (b.length : Int) - m ∧ (b.length : Int) - m ≤ 9223372036854775807 := by omega
  have ml : UInt64.ofInt ((b.length : Int) - m) = UInt64.ofNat (b.length - m) := by
    rw [show (b.length : Int) - m = ((b.length - m : Nat) : Int) by omega]; exact ofInt64 _
  have mn : (UInt64.ofNat (b.length - m)).toNat = b.length - m := by rw [UInt64.toNat_ofNat']; omega
  have q4 : (4 : UInt64).toNat = 4 := rfl
  by_cases g2 : UInt64.ofNat (b.length - m) < 4 * v
  · simp (config := { maxSteps := 1000000 }) only [renf8, set32, fb, fl, f0, f1, f2, f3, f36, f37, f38, ↓fdA_cbnd, ↓fdA_sbnd, ↓fdA_vbnd, ↓fdA_cont, ↓fdA_cren, ↓fdA_sren, ↓fdA_vren, zeroArr, zokFd, kk, e0, e1, e2, e3, e, m0, m1, ml, g2, undef, push_cast, ↓Int.toNat_natCast, ↓Int.cast_ofNat_Int, Int.cast_ofNat_Int, ↓reduceIte, reduceCtorEq, Nat.reduceEqDiff, Nat.reduceLT, Nat.reduceLeDiff, Nat.reduceAdd, Nat.reduceSub, Nat.reduceMul, Int.reduceNeg, Int.reduceLE, Int.reduceLT, Int.reduceToNat, Int.reduceAdd, Int.reduceSub, Int.reduceMul, Int.reduceEq]
    rfl
  · have g1 : UInt64.ofNat (b.length - m) < v := by
      rw [UInt64.lt_iff_toNat_lt, mn] at g2 ⊢
      rw [UInt64.toNat_mul, q4] at g2
      omega
    simp (config := { maxSteps := 1000000 }) only [renf8, set32, fb, fl, f0, f1, f2, f3, f36, f37, f38, ↓fdA_cbnd, ↓fdA_sbnd, ↓fdA_vbnd, ↓fdA_cont, ↓fdA_cren, ↓fdA_sren, ↓fdA_vren, zeroArr, zokFd, kk, e0, e1, e2, e3, e, m0, m1, ml, g1, g2, undef, push_cast, ↓Int.toNat_natCast, ↓Int.cast_ofNat_Int, Int.cast_ofNat_Int, ↓reduceIte, reduceCtorEq, Nat.reduceEqDiff, Nat.reduceLT, Nat.reduceLeDiff, Nat.reduceAdd, Nat.reduceSub, Nat.reduceMul, Int.reduceNeg, Int.reduceLE, Int.reduceLT, Int.reduceToNat, Int.reduceAdd, Int.reduceSub, Int.reduceMul, Int.reduceEq]
    rfl
end
/-! ### All kinds alike -/
/-- The row that Take answers. -/
def tkX (b : List UInt8) (f : FdR) (p : Plc) : List UInt32 := match (numP b (manyU f.many) p).2 with
  | none => []
  | some m => if (numP b (manyU f.many) p).1.toNat ≤ (b.length - m) / 4 then fours ((b.drop m).take (4 * (numP b (manyU f.many) p).1.toNat)) else []
def tkC (b : List UInt8) (f : FdR) (p : Plc) : Cont := if f.k = 0 then .u8 [] else if f.k = 1 then .u64 (tkN b f p) else if f.k = 2 then .u8 [] else if f.k = 3 then .u8 [] else .u32 (tkX b f p)
/-- The field that is answered, its own slice named j. -/
def tkA (b : List UInt8) (A : Option Addr) (c : Nat) (f : FdR) (p : Plc) (j : Nat) : List At :=
  if f.k = 0 then fdL (.v (vU8 f.k)) (.v (vU64 (numP b f.most p).1)) nl nl (List.replicate 32 0) nl
  else if f.k = 1 then fdL (.v (vU8 f.k)) (.v (.int .u64 0)) (if (takeQ b f.fd p).isSome then .o j else nl) nl (List.replicate 32 0) nl
  else if f.k = 2 then fdL (.v (vU8 f.k)) (.v (.int .u64 0)) nl (tkB b A c f.many p) (List.replicate 32 0) nl
  else if f.k = 3 then fdL (.v (vU8 f.k)) (.v (.int .u64 0)) nl nl (sumOf (pS b p)).1 nl
  else fdL (.v (vU8 f.k)) (.v (.int .u64 0)) nl nl (List.replicate 32 0) (if (takeQ b f.fd p).isSome then .o j else nl)
theorem nl_ren (ρ : List Nat) : nl.ren ρ = nl := rfl
theorem tkB_ren (b : List UInt8) (A : Option Addr) (c : Nat) (many : Int) (p : Plc) (ρ : List Nat) : (tkB b A c many p).ren ρ = tkB b A c many p := by
  unfold tkB
  split
  · rfl
  · split <;> rfl
theorem tkB_bnd (b : List UInt8) (A : Option Addr) (c : Nat) (many : Int) (p : Plc) (n : Nat) : (tkB b A c many p).bnd n := by
  unfold tkB
  split
  · trivial
  · split <;> trivial
theorem tkA_ren (b : List UInt8) (A : Option Addr) (c : Nat) (f : FdR) (p : Plc) (j : Nat) (ρ : List Nat) : (tkA b A c f p j).map (At.ren ρ) = tkA b A c f p (rn ρ j) := by
  unfold tkA
  split
  · exact fdL_ren ..
  · split
    · rw [fdL_ren]; congr 1; split <;> rfl
    · split
      · rw [fdL_ren, tkB_ren]; rfl
      · split
        · exact fdL_ren ..
        · rw [fdL_ren]; congr 1; split <;> rfl
theorem oBnd {q : Bool} {j m : Nat} (h : j < m) : (if q = true then At.o j else nl).bnd m := by
  split
  · exact h
  · trivial
theorem tkA_bnd (b : List UInt8) (A : Option Addr) (c : Nat) (f : FdR) (p : Plc) {j m : Nat} (h : j < m) : (∀ x ∈ tkA b A c f p j, x.bnd m) = True := eq_true (by
  unfold tkA
  split
  · exact fdL_bnd trivial trivial trivial trivial trivial
  · split
    · exact fdL_bnd trivial trivial (oBnd h) trivial trivial
    · split
      · exact fdL_bnd trivial trivial trivial (tkB_bnd ..) trivial
      · split
        · exact fdL_bnd trivial trivial trivial trivial trivial
        · exact fdL_bnd trivial trivial trivial trivial (oBnd h))
theorem tkC_bnd (b : List UInt8) (f : FdR) (p : Plc) (m : Nat) : Cont.bnd m (tkC b f p) = True := eq_true (by
  unfold tkC
  split
  · trivial
  · split
    · trivial
    · split
      · trivial
      · split <;> trivial)
theorem tkC_ren (b : List UInt8) (f : FdR) (p : Plc) (ρ : List Nat) : Cont.ren ρ (tkC b f p) = tkC b f p := by
  unfold tkC
  split
  · rfl
  · split
    · rfl
    · split
      · rfl
      · split <;> rfl
theorem tkA_sbnd (b : List UInt8) (A : Option Addr) (c : Nat) (f : FdR) (p : Plc) {j m : Nat} (h : j < m) : Sc.bnd m (.g (tkA b A c f p j)) = True := tkA_bnd b A c f p h
theorem tkA_vbnd (b : List UInt8) (A : Option Addr) (c : Nat) (f : FdR) (p : Plc) {j m : Nat} (h : j < m) : Sv.bnd m (.x (.g (tkA b A c f p j))) = True := tkA_bnd b A c f p h
theorem tkA_sren (b : List UInt8) (A : Option Addr) (c : Nat) (f : FdR) (p : Plc) (j : Nat) (ρ : List Nat) : Sc.ren ρ (.g (tkA b A c f p j)) = .g (tkA b A c f p (rn ρ j)) := by
  show Sc.g _ = _
  rw [tkA_ren]
theorem tkA_vren (b : List UInt8) (A : Option Addr) (c : Nat) (f : FdR) (p : Plc) (j : Nat) (ρ : List Nat) : Sv.ren ρ (.x (.g (tkA b A c f p j))) = .x (.g (tkA b A c f p (rn ρ j))) := by
  show Sv.x (Sc.g _) = _
  rw [tkA_ren]
/-- One slice more that is empty. -/
theorem sat_ghost {w0 w : World} {ow : Nat → Prop} {γ : List Nm} {hp : List Res} (hS : Sat w0 ow γ hp w) (hbr : ∀ r ∈ hp, Res.bnd hp.length r) {e : TypeId} {c : Cont} (hc : c.len = 0) : Sat w0 ow (γ ++ [.s (.slice none 0 0)]) (hp ++ [.own e c]) w := by
  have hl := hS.len
  have hcv : c.vals (γ ++ [Nm.s (.slice none 0 0)]) = [] := by
    rw [← List.length_eq_zero_iff, Cont.len_vals, hc]
  refine hS.push (X := fun _ => False) (Keeps.refl _ _) (fun b h => h.elim) hbr ⟨by rw [get_last hl, nmS_last hl], ?_⟩ ?_
  · rw [nmS_last hl, hcv]
    exact Own.nil_ _ _ _
  · intro b hb
    simp only [Res.has, nmS_last hl, Value.ownBlock] at hb
    cases hb
section
variable (b : List UInt8) (A : Option Addr) (c : Nat) (p : Plc) (f : FdR) (w : World) (hp : pOk b p) (hm : b.length ≤ 100000) (hc : b.length ≤ c) (hR : RdV w w.heap.size A (b.map vU8)) (hf : f.Ok w)
include hp hm hc hR hf
theorem take_all : Calls Tryd.prog 22 (List.map (Sv.val []) [.x (.a (.v (.slice A b.length c))), .x (.a (.v (.int .i64 (pI p)))), .x (.g (fdA f))]).toArray w fun e w' => ∃ γ1, e = .returned ((Sv.t [.g (tkA b A c f p 0), .a (.v (.int .i64 (pI (takeQ b f.fd p))))]).val γ1) ∧ Sat w No γ1 [.own (rdT f) (tkC b f p)] w' := by
  have none_ : ∀ (l : List At) (z : Value) (e : TypeId) (ct : Cont), ct.len = 0 → (∀ x ∈ l, x.bnd 0) → (Calls Tryd.prog 22 (List.map (Sv.val []) [.x (.a (.v (.slice A b.length c))), .x (.a (.v (.int .i64 (pI p)))), .x (.g (fdA f))]).toArray w fun e w' => e = .returned ((Sv.t [.g l, .a (.v z)]).val []) ∧ Below w.heap.size w w') →
      Calls Tryd.prog 22 (List.map (Sv.val []) [.x (.a (.v (.slice A b.length c))), .x (.a (.v (.int .i64 (pI p)))), .x (.g (fdA f))]).toArray w fun en w' => ∃ γ1, en = .returned ((Sv.t [.g l, .a (.v z)]).val γ1) ∧ Sat w No γ1 [.own e ct] w' := fun l z e ct hct hl h => h.mono fun en w' ⟨he, hb⟩ =>
    ⟨_, by
      rw [he]
      exact congrArg Ending.returned (Sv.ext (γ := []) (δ := [.s (.slice none 0 0)]) (x := .t [.g l, .a (.v z)]) (by
        show ∀ s ∈ [Sc.g l, .a (.v z)], Sc.bnd 0 s
        intro s hs
        rcases List.mem_cons.1 hs with rfl | hs
        · exact hl
        · rw [List.mem_singleton.1 hs]; trivial)).symm, sat_ghost ((Sat.init w No).later hb) (fun r hr => by cases hr) hct⟩
  have b0 : ∀ (k n : Value) (q : List UInt8), ∀ x ∈ fdL (.v k) (.v n) nl nl q nl, x.bnd 0 := fun k n q => fdL_bnd trivial trivial trivial trivial trivial
  have hN : tkN b f p = (match (numP b (manyU f.many) p).2 with
    | none => []
    | some m => (numsP b f.most (numP b (manyU f.many) p).1.toNat [] (some m)).1) := rfl
  by_cases k0 : f.k = 0
  · have hQ : takeQ b f.fd p = (numP b f.most p).2 := by unfold takeQ; rw [if_pos (show f.fd.k = 0 from k0)]; rfl
    rw [hQ]
    unfold tkA tkC
    simp only [if_pos k0]
    exact none_ _ _ _ _ rfl (b0 _ _ _) (take_num b A c p f w hp hm hc hR hf k0)
  by_cases k3 : f.k = 3
  · have k1 : ¬ f.k = 1 := by rw [k3]; decide
    have k2 : ¬ f.k = 2 := by rw [k3]; decide
    unfold tkA tkC
    simp only [if_neg k0, if_neg k1, if_neg k2, if_pos k3]
    exact none_ _ _ _ _ rfl (b0 _ _ _) (take_sum b A c p f w hp hm hR hf k3)
  by_cases k2 : f.k = 2
  · have k1 : ¬ f.k = 1 := by rw [k2]; decide
    unfold tkA tkC
    simp only [if_neg k0, if_neg k1, if_pos k2]
    exact none_ _ _ _ _ rfl (fdL_bnd trivial trivial trivial (tkB_bnd ..) trivial) (take_bytes b A c p f w hp hm hc hR hf k2)
  by_cases k1 : f.k = 1
  · have hQ := takeQ_nums b p k1
    unfold tkA tkC
    simp only [if_neg k0, if_pos k1]
    cases hm2 : (numP b (manyU f.many) p).2 with
    | none =>
      rw [hm2] at hQ hN
      dsimp only at hQ hN
      rw [hQ, hN]
      exact none_ _ _ _ _ rfl (b0 _ _ _) (takeNo b A c p f w hp hm hc hR hf k0 k3 hm2)
    | some m =>
      refine (take_nums b A c p f w hp hm hc hR hf k1 m (numP b (manyU f.many) p).1 (Prod.ext rfl hm2)).mono ?_
      rintro e w' ⟨γ1, he, hS⟩
      by_cases hs : (takeQ b f.fd p).isSome
      · rw [if_pos hs] at he hS ⊢
        refine ⟨γ1, he, ?_⟩
        have hT : rdT f = 27 := by unfold rdT; rw [if_neg k0, if_pos k1]
        rw [hT]
        exact hS
      · rw [if_neg hs] at he hS ⊢
        have hz : tkN b f p = [] := by
          have hn : takeQ b f.fd p = none := by cases h : takeQ b f.fd p with | none => rfl | some _ => rw [h] at hs; exact absurd rfl hs
          rw [hn, hm2] at hQ
          dsimp only at hQ
          rw [hN, hm2]
          dsimp only
          exact numsP_none hQ.symm
        rw [hz]
        have hl := hS.len
        obtain rfl : γ1 = [] := List.length_eq_zero_iff.1 hl
        refine ⟨_, ?_, sat_ghost hS (fun r hr => by cases hr) rfl⟩
        rw [he]
        exact congrArg Ending.returned (Sv.ext (γ := []) (δ := [.s (.slice none 0 0)]) (x := .t [.g _, .a (.v _)]) (by
          show ∀ s ∈ [_, _], Sc.bnd 0 s
          intro s hs
          rcases List.mem_cons.1 hs with rfl | hs
          · exact b0 _ _ _
          · rw [List.mem_singleton.1 hs]; trivial)).symm
  · have hQ : takeQ b f.fd p = (match (numP b (manyU f.many) p).2 with
      | none => none
      | some m => if (numP b (manyU f.many) p).1.toNat ≤ (b.length - m) / 4 then some (m + 4 * (numP b (manyU f.many) p).1.toNat) else none) := by
      unfold takeQ
      rw [if_neg (show ¬ f.fd.k = 0 from k0), if_neg (show ¬ f.fd.k = 1 from k1), if_neg (show ¬ f.fd.k = 2 from k2), if_neg (show ¬ f.fd.k = 3 from k3)]
      rfl
    have hX : tkX b f p = (match (numP b (manyU f.many) p).2 with
      | none => []
      | some m => if (numP b (manyU f.many) p).1.toNat ≤ (b.length - m) / 4 then fours ((b.drop m).take (4 * (numP b (manyU f.many) p).1.toNat)) else []) := rfl
    unfold tkA tkC
    simp only [if_neg k0, if_neg k1, if_neg k2, if_neg k3]
    cases hm2 : (numP b (manyU f.many) p).2 with
    | none =>
      rw [hm2] at hQ hX
      dsimp only at hQ hX
      rw [hQ, hX]
      exact none_ _ _ _ _ rfl (b0 _ _ _) (takeNo b A c p f w hp hm hc hR hf k0 k3 hm2)
    | some m =>
      rw [hm2] at hQ hX
      dsimp only at hQ hX
      by_cases hv : (numP b (manyU f.many) p).1.toNat ≤ (b.length - m) / 4
      · rw [if_pos hv] at hQ hX
        rw [hQ, hX]
        refine (take_row b A c p f w hp hm hc hR hf k0 k1 k2 k3 m (numP b (manyU f.many) p).1 (Prod.ext rfl hm2) hv).mono ?_
        rintro e w' ⟨γ1, he, hS⟩
        have hT : rdT f = 136 := by unfold rdT; rw [if_neg k0, if_neg k1, if_neg k2, if_neg k3]
        have e9 : pI (some (m + 4 * (numP b (manyU f.many) p).1.toNat)) = (m : Int) + 4 * ((numP b (manyU f.many) p).1.toNat : Int) := by show ((m + 4 * _ : Nat) : Int) = _; omega
        rw [hT, e9]
        exact ⟨γ1, he, hS⟩
      · rw [if_neg hv] at hQ hX
        rw [hQ, hX]
        exact none_ _ _ _ _ rfl (b0 _ _ _) (take_row_no b A c p f w hp hm hc hR hf k0 k1 k2 k3 m _ (Prod.ext rfl hm2) hv)
end
end Go.Proofs.YtiaeollemmkclaaDoor
/- caucusref13's Take as its caller sees it; what it answers shows the field that is read. -/
namespace Go.Proofs.YtiaeollemmkclaaDoor
open Go.RowKit
set_option linter.unusedSimpArgs false
set_option linter.unusedVariables false
theorem fdL_len {k n l b : At} {s : List UInt8} {x : At} (h : s.length = 32) : (fdL k n l b s x).length = 39 := by simp [fdL, h]
theorem fdL_v {q : At → Prop} {k n l b : At} {s : List UInt8} {x : At} (h0 : ∀ v : Value, v.oneCell' = true → q (.v v)) (h1 : q k) (h2 : q n) (h3 : q l) (h4 : q b) (h5 : q x) : ∀ y ∈ fdL k n l b s x, q y := by
  intro y hy
  unfold fdL at hy
  simp only [List.mem_cons, List.mem_append, List.mem_map, List.not_mem_nil, or_false] at hy
  rcases hy with rfl | rfl | rfl | rfl | ⟨z, _, rfl⟩ | rfl | rfl | rfl
  · exact h1
  · exact h2
  · exact h3
  · exact h4
  · exact h0 _ rfl
  · exact h5
  · exact h0 _ rfl
  · exact h0 _ rfl
theorem sumOf_len (st : Rs) : (sumOf st).1.length = 32 := by
  unfold sumOf
  split
  · rfl
  · simp only [List.length_take]; omega
theorem tkA_len (b : List UInt8) (A : Option Addr) (c : Nat) (f : FdR) (p : Plc) (j : Nat) : (tkA b A c f p j).length = 39 := by
  unfold tkA
  split
  · exact fdL_len rfl
  · split
    · exact fdL_len rfl
    · split
      · exact fdL_len rfl
      · split
        · exact fdL_len (sumOf_len _)
        · exact fdL_len rfl
theorem tkA_v {q : At → Prop} (b : List UInt8) (A : Option Addr) (c : Nat) (f : FdR) (p : Plc) (j : Nat) (h0 : ∀ v : Value, v.oneCell' = true → q (.v v)) (h1 : q (.o j)) : ∀ y ∈ tkA b A c f p j, q y := by
  have hn : q nl := h0 _ rfl
  have ho : ∀ z : Bool, q (if z = true then .o j else nl) := fun z => by
    split
    · exact h1
    · exact hn
  have hB : q (tkB b A c f.many p) := by
    unfold tkB
    split
    · exact hn
    · split
      · exact h0 _ rfl
      · exact hn
  unfold tkA
  split
  · exact fdL_v h0 (h0 _ rfl) (h0 _ rfl) hn hn hn
  · split
    · exact fdL_v h0 (h0 _ rfl) (h0 _ rfl) (ho _) hn hn
    · split
      · exact fdL_v h0 (h0 _ rfl) (h0 _ rfl) hn hB hn
      · split
        · exact fdL_v h0 (h0 _ rfl) (h0 _ rfl) hn hn hn
        · exact fdL_v h0 (h0 _ rfl) (h0 _ rfl) hn hn (ho _)
theorem takeK {w0 : World} {hp : List Res} (b : List UInt8) (A : Option Addr) (c : Nat) (p : Plc) (f : FdR) (hbr : ∀ r ∈ hp, Res.bnd hp.length r) (hok : pOk b p) (hm : b.length ≤ 100000) (hc : b.length ≤ c) (hR : RdV w0 w0.heap.size A (b.map vU8)) (hf : f.Ok w0) :
    CallOK Tryd.prog w0 No 22 [.x (.a (.v (.slice A b.length c))), .x (.a (.v (.int .i64 (pI p)))), .x (.g (fdA f))] hp (.t [.g (tkA b A c f p hp.length), .a (.v (.int .i64 (pI (takeQ b f.fd p))))]) (hp ++ [.own (rdT f) (tkC b f p)]) := by
  have h := callOK_take (P := Tryd.prog) (w0 := w0) (ow := No) (f := 22) (svs := [.x (.a (.v (.slice A b.length c))), .x (.a (.v (.int .i64 (pI p)))), .x (.g (fdA f))]) (hp := hp) (sv1 := .t [.g (tkA b A c f p 0), .a (.v (.int .i64 (pI (takeQ b f.fd p))))]) (hp1 := [.own (rdT f) (tkC b f p)]) [] hbr (fun r hr => by
    obtain rfl : r = _ := by simpa using hr
    show Cont.bnd _ _
    rw [tkC_bnd]
    trivial) (by
    show ∀ s ∈ [Sc.g (tkA b A c f p 0), .a (.v (.int .i64 (pI (takeQ b f.fd p))))], Sc.bnd 1 s
    intro s hs
    rcases List.mem_cons.1 hs with rfl | hs
    · show ∀ x ∈ tkA b A c f p 0, x.bnd 1
      rw [tkA_bnd b A c f p (show 0 < 1 by decide)]
      trivial
    · rw [List.mem_singleton.1 hs]; trivial) (fun γ w hS => ⟨No, fun b h => h.elim, by
      have e : List.map (Sv.val γ) [.x (.a (.v (.slice A b.length c))), .x (.a (.v (.int .i64 (pI p)))), .x (.g (fdA f))] = List.map (Sv.val []) [.x (.a (.v (.slice A b.length c))), .x (.a (.v (.int .i64 (pI p)))), .x (.g (fdA f))] := by
        simp only [List.map_cons, List.map_nil, fdA_sv]
        rfl
      rw [e]
      exact take_all b A c p f w hok hm hc (rd_later hR hS) (hf.later hS)⟩)
  have e1 : (Sv.t [.g (tkA b A c f p 0), .a (.v (.int .i64 (pI (takeQ b f.fd p))))]).ren (shiftL hp.length ([.own (rdT f) (tkC b f p)] : List Res).length) = .t [.g (tkA b A c f p hp.length), .a (.v (.int .i64 (pI (takeQ b f.fd p))))] := by
    have hr : rn (shiftL hp.length ([.own (rdT f) (tkC b f p)] : List Res).length) 0 = hp.length := shiftL_rn (show 0 < 1 by decide)
    show Sv.t [Sc.g (List.map _ _), _] = _
    rw [tkA_ren, hr]
    rfl
  have e2 : goneAll [] hp ++ ([.own (rdT f) (tkC b f p)] : List Res).map (Res.ren (shiftL hp.length ([.own (rdT f) (tkC b f p)] : List Res).length)) = hp ++ [.own (rdT f) (tkC b f p)] := by
    show hp ++ [Res.own _ (Cont.ren _ (tkC b f p))] = _
    rw [tkC_ren]
  rw [e1, e2] at h
  exact h
/-- What is answered shows the field. -/
theorem showsFd_take {w0 : World} {hp : List Res} {b : List UInt8} {A : Option Addr} {c : Nat} {p : Plc} {f : FdR} {j : Nat} (hok : pOk b p) (hc : b.length ≤ c) (hR : RdV w0 w0.heap.size A (b.map vU8)) (hj : hp[j]? = some (.own (rdT f) (tkC b f p))) : ShowsFd w0 hp (.x (.g (tkA b A c f p j))) (takeF f.fd (pS b p)).1 := fun γ w hS => by
  obtain ⟨A', cap, h1, h2, h3, h4⟩ := hS.rdOwn hj
  have z32 : (List.replicate 32 (0 : UInt8)).length = 32 := rfl
  have nok : ∀ {α : Type} (g : α → Value), (⟨none, 0, []⟩ : SlR α).Ok g w := fun g => ⟨Nat.le_refl _, RdV.nil_⟩
  have i0 : (-9223372036854775808 : Int) ≤ (0 : Int) ∧ (0 : Int) ≤ 9223372036854775807 := by decide
  have agg : ∀ (k n l b : At) (q : List UInt8) (x : At), (Sv.x (.g (fdL k n l b q x))).val γ = .agg ([k.val γ, n.val γ, l.val γ, b.val γ] ++ (q.map vU8 ++ [x.val γ, .int .i64 0, .int .u64 0])).toArray := fun k n l b q x => fdL_val ..
  have hP := cntR_P b f.many
  have ok := numP_ok b (manyU f.many) hok
  have hR' := rd_later hR hS
  unfold takeF
  simp only [show f.fd.k = f.k from rfl, show f.fd.most = f.most from rfl, show f.fd.many = f.many from rfl]
  unfold tkC at h1 h2 h4
  unfold tkA
  by_cases k0 : f.k = 0
  · simp only [if_pos k0]
    refine ⟨⟨f.k, (numP b f.most p).1, ⟨none, 0, []⟩, ⟨none, 0, []⟩, List.replicate 32 0, ⟨none, 0, []⟩, 0, 0⟩, agg .., ⟨nok _, nok _, z32, nok _, i0⟩, ?_⟩
    have := congrArg Prod.fst (numP_R b f.most p)
    show Fd.mk _ _ _ _ _ _ _ _ = _
    rw [this]
    rfl
  simp only [if_neg k0] at h1 h2 h4 ⊢
  by_cases k1 : f.k = 1
  · simp only [if_pos k1] at h1 h2 h4 ⊢
    have hQ := takeQ_nums b p k1
    have hv : (numsOf f.many f.most (pS b p)).1 = tkN b f p := by
      unfold numsOf tkN
      rw [cntR_P]
      cases hm2 : (numP b (manyU f.many) p).2 with
      | none => rfl
      | some m =>
        rw [hm2] at ok
        simp only [Nat.div_one]
        by_cases hv : (numP b (manyU f.many) p).1.toNat ≤ b.length - m
        · simp only [if_pos hv, if_true]
          exact congrArg Prod.fst (numsP_R b f.most _ [] (some m))
        · simp only [if_neg hv]
          rw [numsP_long b f.most _ [] m ok (by omega)]
          rfl
    by_cases hs : (takeQ b f.fd p).isSome
    · simp only [if_pos hs]
      refine ⟨⟨f.k, 0, ⟨A', cap, tkN b f p⟩, ⟨none, 0, []⟩, List.replicate 32 0, ⟨none, 0, []⟩, 0, 0⟩, ?_, ⟨⟨h2, h4⟩, nok _, z32, nok _, i0⟩, ?_⟩
      · rw [agg]
        show Value.agg ([_, _, nmS γ j, _] ++ _).toArray = _
        rw [h1]
        rfl
      show Fd.mk _ _ _ _ _ _ _ _ = _
      rw [hv]
      rfl
    · simp only [if_neg hs]
      have hz : tkN b f p = [] := by
        have hn : takeQ b f.fd p = none := by cases h : takeQ b f.fd p with | none => rfl | some _ => rw [h] at hs; exact absurd rfl hs
        rw [hn] at hQ
        unfold tkN
        cases hm2 : (numP b (manyU f.many) p).2 with
        | none => rfl
        | some m =>
          rw [hm2] at hQ
          dsimp only at hQ ⊢
          exact numsP_none hQ.symm
      refine ⟨⟨f.k, 0, ⟨none, 0, []⟩, ⟨none, 0, []⟩, List.replicate 32 0, ⟨none, 0, []⟩, 0, 0⟩, agg .., ⟨nok _, nok _, z32, nok _, i0⟩, ?_⟩
      show Fd.mk _ _ _ _ _ _ _ _ = _
      rw [hv, hz]
      rfl
  simp only [if_neg k1] at h1 h2 h4 ⊢
  by_cases k2 : f.k = 2
  · simp only [if_pos k2] at h1 h2 h4 ⊢
    unfold bytesOf tkB
    rw [cntR_P]
    cases hm2 : (numP b (manyU f.many) p).2 with
    | none =>
      refine ⟨⟨f.k, 0, ⟨none, 0, []⟩, ⟨none, 0, []⟩, List.replicate 32 0, ⟨none, 0, []⟩, 0, 0⟩, agg .., ⟨nok _, nok _, z32, nok _, i0⟩, rfl⟩
    | some m =>
      rw [hm2] at ok
      have ok : m ≤ b.length := ok
      simp only [Nat.div_one]
      by_cases hv : (numP b (manyU f.many) p).1.toNat ≤ b.length - m
      · simp only [if_pos hv, if_true]
        have hl : ((b.drop m).take (numP b (manyU f.many) p).1.toNat).length = (numP b (manyU f.many) p).1.toNat := by
          rw [List.length_take, List.length_drop]; omega
        refine ⟨⟨f.k, 0, ⟨none, 0, []⟩, ⟨pCut A m c, c - m, (b.drop m).take (numP b (manyU f.many) p).1.toNat⟩, List.replicate 32 0, ⟨none, 0, []⟩, 0, 0⟩, ?_, ⟨nok _, ⟨?_, ?_⟩, z32, nok _, i0⟩, rfl⟩
        · rw [agg]
          show Value.agg ([_, _, _, Value.slice (pCut A m c) _ _] ++ _).toArray = Value.agg ([_, _, _, Value.slice (pCut A m c) ((b.drop m).take _).length _] ++ _).toArray
          rw [hl]
          rfl
        · show ((b.drop m).take _).length ≤ c - m
          rw [hl]; omega
        · have := (hR'.drops m c hc).take' (numP b (manyU f.many) p).1.toNat
          show RdV _ _ _ (((b.drop m).take _).map vU8)
          rw [List.map_take]
          exact this
      · simp only [if_neg hv]
        refine ⟨⟨f.k, 0, ⟨none, 0, []⟩, ⟨none, 0, []⟩, List.replicate 32 0, ⟨none, 0, []⟩, 0, 0⟩, agg .., ⟨nok _, nok _, z32, nok _, i0⟩, rfl⟩
  simp only [if_neg k2] at h1 h2 h4 ⊢
  by_cases k3 : f.k = 3
  · simp only [if_pos k3]
    refine ⟨⟨f.k, 0, ⟨none, 0, []⟩, ⟨none, 0, []⟩, (sumOf (pS b p)).1, ⟨none, 0, []⟩, 0, 0⟩, agg .., ⟨nok _, nok _, ?_, nok _, i0⟩, rfl⟩
    show (sumOf (pS b p)).1.length = 32
    unfold sumOf
    split
    · rfl
    · simp only [List.length_take]; omega
  simp only [if_neg k3] at h1 h2 h4 ⊢
  have hQ : takeQ b f.fd p = (match (numP b (manyU f.many) p).2 with
      | none => none
      | some m => if (numP b (manyU f.many) p).1.toNat ≤ (b.length - m) / 4 then some (m + 4 * (numP b (manyU f.many) p).1.toNat) else none) := by
      unfold takeQ
      rw [if_neg (show ¬ f.fd.k = 0 from k0), if_neg (show ¬ f.fd.k = 1 from k1), if_neg (show ¬ f.fd.k = 2 from k2), if_neg (show ¬ f.fd.k = 3 from k3)]
      rfl
  have hv : (rowOf f.many (pS b p)).1 = tkX b f p := by
    unfold rowOf tkX
    rw [cntR_P]
    cases hm2 : (numP b (manyU f.many) p).2 with
    | none => rfl
    | some m =>
      simp only
      by_cases hv : (numP b (manyU f.many) p).1.toNat ≤ (b.length - m) / 4
      · simp only [if_pos hv, if_true]
      · simp only [if_neg hv]
        rfl
  by_cases hs : (takeQ b f.fd p).isSome
  · simp only [if_pos hs]
    refine ⟨⟨f.k, 0, ⟨none, 0, []⟩, ⟨none, 0, []⟩, List.replicate 32 0, ⟨A', cap, tkX b f p⟩, 0, 0⟩, ?_, ⟨nok _, nok _, z32, ⟨h2, h4⟩, i0⟩, ?_⟩
    · rw [agg]
      show Value.agg ([_, _, _, _] ++ (_ ++ [nmS γ j, _, _])).toArray = _
      rw [h1]
      rfl
    show Fd.mk _ _ _ _ _ _ _ _ = _
    rw [hv]
    rfl
  · simp only [if_neg hs]
    have hz : tkX b f p = [] := by
      have hn : takeQ b f.fd p = none := by cases h : takeQ b f.fd p with | none => rfl | some _ => rw [h] at hs; exact absurd rfl hs
      rw [hn] at hQ
      unfold tkX
      cases hm2 : (numP b (manyU f.many) p).2 with
      | none => rfl
      | some m =>
        rw [hm2] at hQ
        dsimp only at hQ ⊢
        split
        · rename_i hq; rw [if_pos hq] at hQ; cases hQ
        · rfl
    refine ⟨⟨f.k, 0, ⟨none, 0, []⟩, ⟨none, 0, []⟩, List.replicate 32 0, ⟨none, 0, []⟩, 0, 0⟩, agg .., ⟨nok _, nok _, z32, nok _, i0⟩, ?_⟩
    show Fd.mk _ _ _ _ _ _ _ _ = _
    rw [hv, hz]
    rfl
end Go.Proofs.YtiaeollemmkclaaDoor
