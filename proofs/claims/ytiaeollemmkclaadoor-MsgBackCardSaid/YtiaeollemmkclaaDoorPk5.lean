import Derived.Test.YtiaeollemmkclaaDoorPk3
/- varint.Get: the number at the beginning of bytes (layer 11). -/
namespace Go.Proofs.YtiaeollemmkclaaDoor
open Go.RowKit
set_option linter.unusedSimpArgs false
set_option linter.unusedVariables false
/-- What is told of a number at the beginning of bytes. -/
def getT (bs : List UInt8) : List Sc := match getV bs with
  | some (v, n) => [.a (.v (vU64 v)), .a (.v (.int .i64 n)), .a (.v .nilIface)]
  | none => [.a (.v (.int .u64 0)), .a (.v (.int .i64 0)), .a (.v (.iface 137 (.int .i64 3)))]
theorem getT_nil : getT [] = [.a (.v (.int .u64 0)), .a (.v (.int .i64 0)), .a (.v (.iface 137 (.int .i64 3)))] := rfl
theorem getT_none {bs : List UInt8} (h : getV bs = none) : getT bs = [.a (.v (.int .u64 0)), .a (.v (.int .i64 0)), .a (.v (.iface 137 (.int .i64 3)))] := by unfold getT; rw [h]
theorem getT_some {bs : List UInt8} {v : UInt64} {n : Nat} (h : getV bs = some (v, n)) : getT bs = [.a (.v (vU64 v)), .a (.v (.int .i64 n)), .a (.v .nilIface)] := by unfold getT; rw [h]
theorem getT_val (bs : List UInt8) (γ : List Nm) : (Sv.t (getT bs)).val γ = (Sv.t (getT bs)).val [] := by
  unfold getT
  split <;> rfl
theorem u8_lt {x y : UInt8} : x < y ↔ x.toNat < y.toNat := UInt8.lt_iff_toNat_lt
theorem vU64_zero : vU64 0 = .int .u64 0 := rfl
attribute [local irreducible] Callable CallOK CallG CallM DrawG LoopG symR symM
attribute [local irreducible] getT fbV
set_option maxRecDepth 100000 in
set_option maxHeartbeats 1000000 in
theorem get_any (bs : List UInt8) (A : Option Addr) (c : Nat) (w : World) (hc : bs.length ≤ c) (hR : RdV w w.heap.size A (bs.map vU8)) :
    Calls Tryd.prog 111 #[.slice A bs.length c] w fun e w' => e = .returned ((Sv.t (getT bs)).val []) ∧ Below w.heap.size w w' := by
  have F := FM.of (f := vU8) hR
  refine calls_v (n := 57) Tryd.func111 rfl Tryd.ntmps111 [.x (.a (.v (.slice A bs.length c)))] (by simp) (.t (getT bs)) (getT_val bs) ?_
  rcases bs with _ | ⟨x, t⟩
  · simp (config := { maxSteps := 1000000 }) only [getT_nil, push_cast, ↓Int.cast_ofNat_Int, Int.cast_ofNat_Int, ↓reduceIte, reduceCtorEq, Nat.reduceEqDiff, Nat.reduceLT]
    done
  have c0 := F.cell 0 (by simp)
  have o0 := F.ok 0 (by simp)
  have hA := F.some_ (by simp)
  have hx : ix (x :: t) 0 = x := rfl
  rw [hx] at c0
  rw [pAdd_zero] at c0 o0
  have l0 : ¬ ((t.length : Int) + 1 = 0) := by omega
  have l1 : (0 : Int) < (t.length : Int) + 1 := by omega
  by_cases h1 : x < 248
  · have hg := getT_some (bs := x :: t) (v := x.toUInt64) (n := 1) (by simp only [getV, if_pos h1])
    simp (config := { maxSteps := 1000000 }) only [c0, o0, hA, l0, l1, h1, hg, pAdd_zero, push_cast, ↓Int.cast_ofNat_Int, Int.cast_ofNat_Int, ↓reduceIte, reduceCtorEq, Nat.reduceEqDiff, Nat.reduceLT, Int.reduceLE]
    done
  have hx8 : 248 ≤ x.toNat := Nat.not_lt.1 fun h => h1 (u8_lt.2 h)
  have hxl := x.toNat_lt
  have hxn : (n8 x : Int) = (x.toNat : Int) := rfl
  have hc' : t.length + 1 ≤ c := by simpa using hc
  by_cases h2 : (t.length : Int) + 1 < 1 + n8 x - 247
  · have hg := getT_none (bs := x :: t) (by simp only [getV, if_neg h1]; rw [if_pos (.inl (by omega))])
    simp (config := { maxSteps := 1000000 }) only [c0, o0, hA, l0, l1, h1, h2, hg, pAdd_zero, undef, push_cast, ↓reduceIte, reduceCtorEq, Nat.reduceEqDiff, Nat.reduceLT, Int.reduceNeg, Int.reduceLE]
    all_goals omega
  have l2 : (1 : Int) < (t.length : Int) + 1 := by omega
  have c1 := F.cell 1 (by simp; omega)
  have o1 := F.ok 1 (by simp; omega)
  have hx1 : ix (x :: t) 1 = ix t 0 := rfl
  rw [hx1] at c1
  have q0 : (-9223372036854775808 : Int) ≤ 1 + n8 x ∧ 1 + n8 x ≤ 9223372036854775807 ∧ (-9223372036854775808 : Int) ≤ 1 + n8 x - 247 ∧ 1 + n8 x - 247 ≤ 9223372036854775807 := by omega
  obtain ⟨q1, q2, q3, q4⟩ := q0
  by_cases h3 : ix t 0 = 0
  · have hg := getT_none (bs := x :: t) (by simp only [getV, if_neg h1]; rw [if_pos (.inr h3)])
    simp (config := { maxSteps := 1000000 }) only [c0, o0, hA, l0, l1, l2, c1, o1, q1, q2, q3, q4, h1, h2, h3, hg, pAdd_zero, push_cast, ↓reduceIte, reduceCtorEq, Nat.reduceEqDiff, Nat.reduceLT, Int.reduceNeg, Int.reduceLE, Int.reduceToNat]
    all_goals omega
  have hk : 1 + n8 x - 247 = ((x.toNat - 246 : Nat) : Int) := by omega
  have e1 : (1 : Int) ≤ ((x.toNat - 246 : Nat) : Int) := by omega
  have e2 : ((x.toNat - 246 : Nat) : Int) ≤ c := by omega
  have hcut : pCut A 1 c = pAdd A 1 := if_neg (by omega)
  have h2' : ¬ ((t.length : Int) + 1 < ((x.toNat - 246 : Nat) : Int)) := by omega
  obtain ⟨k, hkx⟩ : ∃ k, k = x.toNat - 247 := ⟨_, rfl⟩
  have hk2 : x.toNat - 246 = k + 1 := by omega
  have hk8 : 1 ≤ k ∧ k ≤ 8 ∧ k ≤ t.length := by omega
  rw [hk2] at hk e1 e2 h2'
  push_cast at hk e1 e2 h2'
  simp (config := { maxSteps := 1000000 }) only [c0, o0, hA, l0, l1, l2, c1, o1, q1, q2, h1, h2', h3, hk, e1, e2, hcut, pAdd_zero, push_cast, ↓reduceIte, reduceCtorEq, Nat.reduceEqDiff, Nat.reduceLT, Int.reduceNeg, Int.reduceLE, Int.reduceToNat]
  have hkk : ((k : Int) + 1).toNat - 1 = k := by omega
  have hcx : (-9223372036854775808 : Int) ≤ (k : Int) + 1 ∧ (k : Int) + 1 ≤ 9223372036854775807 := by omega
  rw [hkk]
  refine ⟨hcx, ?_⟩
  have hS : ∀ i, i < k → cellOf w (pAdd (pAdd A 1) i) = vU8 (ix t i) ∧ rawOk w No (pAdd (pAdd A 1) i) := fun i hi => by
    have hxi : ix (x :: t) (1 + i) = ix t i := by rw [Nat.add_comm]; rfl
    rw [pAdd_add, ← hxi]
    exact ⟨F.cell (1 + i) (by simp; omega), F.ok (1 + i) (by simp; omega)⟩
  refine loop_rule (ι := Nat) (fun i => ⟨[(5, .x (.a (.v (.int .i64 ((k : Int) + 1))))), (6, .x (.a (.v (vU64 (UInt64.ofNat (fbV (t.take i))))))), (40, .x (.a (.v (.slice (pAdd A 1) k (c - 1))))), (41, .x (.a (.v (.int .i64 (k : Int))))), (42, .x (.a (.v (.int .i64 (i : Int)))))], []⟩) (fun i => i ≤ k) (fun i => k - i) 0 [] (by omega) ?_ ?_
  · simp (config := { maxSteps := 1000000 }) only [List.take_zero, fbV_nil, push_cast, ↓Int.cast_ofNat_Int, Int.cast_ofNat_Int, ↓reduceIte, Nat.reduceEqDiff]
    rfl
  intro i hi
  by_cases hlt : (i : Int) < k
  · have i0 : (0 : Int) ≤ i := by omega
    obtain ⟨d0, d1⟩ := hS i (by omega)
    have hAs : (pAdd A 1).isSome = true := by rw [pAdd_isSome]; exact hA
    have hf := fbV_lt (t.take i)
    have hti : (t.take i).length = i := by rw [List.length_take]; omega
    rw [hti] at hf
    have hf7 : fbV (t.take i) < 2 ^ 56 := Nat.lt_of_lt_of_le hf (Nat.le_trans (Nat.pow_le_pow_right (by decide) (by omega : i ≤ 7)) (by decide))
    have hfv : (UInt64.ofNat (fbV (t.take i))).toNat = fbV (t.take i) := by rw [UInt64.toNat_ofNat']; omega
    have hsh := shl_or (UInt64.ofNat (fbV (t.take i))) (ix t i) (by rw [hfv]; exact hf7)
    have htk : t.take (i + 1) = t.take i ++ [ix t i] := by
      rw [List.take_add_one, ix, List.getD_eq_getElem?_getD, List.getElem?_eq_getElem (by omega)]
      rfl
    rw [hfv, ← fbV_snoc, ← htk] at hsh
    simp (config := { maxSteps := 1000000 }) only [hlt, i0, d0, d1, hAs, hsh, push_cast, ↓Int.toNat_natCast, ↓reduceIte, reduceCtorEq, Nat.reduceEqDiff, Nat.reduceLT, Int.reduceNeg, Int.reduceLE, Int.reduceToNat]
    (repeat (refine And.intro (by first | omega | decide) ?_))
    refine loopK_normal (i + 1) [] (by omega) (by omega) ?_
    simp (config := { maxSteps := 1000000 }) only [push_cast, ↓reduceIte, Nat.reduceEqDiff]
    done
  · obtain rfl : i = k := by omega
    have hgg : getV (x :: t) = if fbV (t.take i) < 248 then none else some (UInt64.ofNat (fbV (t.take i)), i + 1) := by
      simp only [getV, if_neg h1]
      rw [if_neg (by rintro (h | h)
                     · omega
                     · exact h3 h), ← hkx, hk2]
    have hf := fbV_lt (t.take i)
    have hti : (t.take i).length = i := by rw [List.length_take]; omega
    rw [hti] at hf
    have hf8 : fbV (t.take i) < 2 ^ 64 := Nat.lt_of_lt_of_le hf (Nat.le_trans (Nat.pow_le_pow_right (by decide) hk8.2.1) (by decide))
    have hfv : (UInt64.ofNat (fbV (t.take i))).toNat = fbV (t.take i) := by rw [UInt64.toNat_ofNat']; omega
    by_cases h4 : fbV (t.take i) < 248
    · have g4 : UInt64.ofNat (fbV (t.take i)) < 248 := by rw [UInt64.lt_iff_toNat_lt, hfv]; exact h4
      have hg := getT_none (bs := x :: t) (by rw [hgg, if_pos h4])
      simp (config := { maxSteps := 1000000 }) only [hlt, g4, hg, push_cast, ↓reduceIte, Nat.reduceEqDiff, Nat.reduceLT]
      done
    · have g4 : ¬ UInt64.ofNat (fbV (t.take i)) < 248 := by rw [UInt64.lt_iff_toNat_lt, hfv]; exact h4
      have hg := getT_some (bs := x :: t) (by rw [hgg, if_neg h4])
      simp (config := { maxSteps := 1000000 }) only [hlt, g4, hg, push_cast, ↓reduceIte, Nat.reduceEqDiff, Nat.reduceLT]
      done
theorem getK {w0 : World} {ow : Nat → Prop} {hp : List Res} {sv : Sv} (bs : List UInt8) (h : Shows w0 ow hp sv (bs.map vU8)) : CallOK Tryd.prog w0 ow 111 [sv] hp (.t (getT bs)) hp := callOK_v fun γ w hS => by
  obtain ⟨A, c, e1, b1, r1⟩ := h γ w hS
  rw [List.length_map] at e1 b1
  show Calls _ _ #[sv.val γ] w _
  rw [e1, getT_val bs γ]
  exact get_any bs A c w b1 r1
end Go.Proofs.YtiaeollemmkclaaDoor
/- pack.Writer: a field more (layer 13). -/
namespace Go.Proofs.YtiaeollemmkclaaDoor
open Go.RowKit
set_option linter.unusedSimpArgs false
set_option linter.unusedVariables false
attribute [local irreducible] Callable CallOK CallG CallM DrawG LoopG symR symM
attribute [local irreducible] putV dgV nb8
set_option maxRecDepth 100000 in
theorem put_any {r : List (List UInt8)} {n : Nat} {b : List UInt8} {X : Nat → Prop} {γ : List Nm} {w : World} (g : Nat) (hn : n + b.length ≤ 1000000000) (hS : Sat w X γ [.pin g 47 (.c [.o 1, .v (.int .i64 (n : Int))]), .abs (ChR 125 r), .own 5 (.u8 b)] w) :
    Calls Tryd.prog 109 (List.map (Sv.val γ) [.x (.a (.p 0 0)), .x (.a (.o 2))]).toArray w fun e w' => ∃ γ1, e = .returned ((Sv.t []).val γ1) ∧ Sat w X γ1 [.pin g 47 (.c [.o 1, .v (.int .i64 ((n + b.length : Nat) : Int))]), .abs (ChR 125 (b :: r))] w' := by
  refine (calls_fun (n := 25) Tryd.func109 rfl Tryd.ntmps109 _ hS (by simp) (.t []) [.pin g 47 (.c [.p 3 0, .v (.int .i64 ((n + b.length : Nat) : Int))]), .abs (ChR 125 r), .own 5 (.u8 b), .blk 125 (.c [.o 1, .o 2])] ?_).mono ?_
  · simp (config := { maxSteps := 1000000 }) only [undef, push_cast, ↓reduceIte, reduceCtorEq, Nat.reduceEqDiff, Nat.reduceLT, Nat.reduceAdd, Int.reduceNeg]
    refine ⟨by omega, endsAs [0, 1, 2, 3] ?_⟩
    simp (config := { maxSteps := 1000000 }) only [push_cast, ↓reduceIte, reduceCtorEq, Nat.reduceEqDiff, Nat.reduceLT, Nat.reduceAdd]
  · rintro e w' ⟨γ1, he, h1⟩
    obtain ⟨γ2, h2⟩ := h1.chain
    exact ⟨γ2, by rw [he]; rfl, h2⟩
/-- How memory stands behind a call that wrote a field more. -/
def wrS (hp : List Res) (k0 : Nat) (ks : List Nat) (r : List (List UInt8)) (n : Nat) (b : List UInt8) : List Res :=
  moveR (hp.length + 0) k0 (bput hp[k0]? 47 (Cont.ren (shiftL hp.length 2) (.c [.o 1, .v (.int .i64 ((n + b.length : Nat) : Int))]))) (goneAll ks hp ++ [Res.pin 0 47 (.c [.o 1, .v (.int .i64 ((n + b.length : Nat) : Int))]), .abs (ChR 125 (b :: r))].map (Res.ren (shiftL hp.length 2)))
section
variable {w0 : World} {ow : Nat → Prop} {hp : List Res} {k0 k1 k2 n : Nat} {r : List (List UInt8)} {b : List UInt8} {f : FuncId} {svs : List Sv}
/-- A call that writes a field more, as its caller sees it. -/
theorem writerK (hn1 : k0 ≠ k1) (hbr : ∀ r ∈ hp, Res.bnd hp.length r) (hk : bview hp[k0]? = some (47, .c [.o k1, .v (.int .i64 (n : Int))])) (h1 : hp[k1]? = some (.abs (ChR 125 r)))
    (h : ∀ γ w, Sat w0 ow γ hp w → ∀ (X : Nat → Prop), (∀ b, X b → ∃ (k : Nat) (r : Res), k ∈ [k0, k1] ∧ hp[k]? = some r ∧ r.has γ k b) → ∀ (γ0 : List Nm) (g : Nat), Sat w X γ0 [.pin g 47 (.c [.o 1, .v (.int .i64 (n : Int))]), .abs (ChR 125 r)] w → (Sv.x (.a (.p 0 0))).val γ0 = (Sv.x (.a (.p k0 0))).val γ →
      Calls Tryd.prog f (List.map (Sv.val γ) svs).toArray w fun e w' => ∃ γ1, e = .returned ((Sv.t []).val γ1) ∧ Sat w X γ1 [.pin g 47 (.c [.o 1, .v (.int .i64 ((n + b.length : Nat) : Int))]), .abs (ChR 125 (b :: r))] w') :
    CallOK Tryd.prog w0 ow f svs hp (.t []) (wrS hp k0 [k0, k1] r n b) := by
  have := callOK_pin (P := Tryd.prog) (w0 := w0) (ow := ow) (f := f) (svs := svs) (hp := hp) (sv1 := .t []) [k0, k1] 0 k0 (c := .c [.o k1, .v (.int .i64 (n : Int))]) (c1 := .c [.o 1, .v (.int .i64 ((n + b.length : Nat) : Int))])
    (fun g => [.pin g 47 (.c [.o 1, .v (.int .i64 ((n + b.length : Nat) : Int))]), .abs (ChR 125 (b :: r))]) (by simp) hk (fun _ => rfl) (fun _ => rfl) hbr (fun _ => by simp only [push_cast, Nat.reduceLT, Nat.reduceAdd]) (by simp only [push_cast, Nat.reduceAdd])
    (fun g => moveR_pin (by rw [goneAll_length]; rfl)) fun γ w hS => by
    obtain ⟨g1, g2, g3⟩ := hS.hand (k := k0) (ρ := [k0, k1]) (hp0 := [.pin (nmB γ k0) 47 (.c [.o 1, .v (.int .i64 (n : Int))]), .abs (ChR 125 r)]) hk
      ⟨by rw [List.getElem?_set_self (by
            obtain ⟨_, _, r0, hr0, _⟩ := hS.bv hk
            exact lt_of_get hr0)]; rfl, by rw [List.getElem?_set_ne hn1, h1]; rfl, trivial⟩ ⟨⟨hn1.symm, trivial⟩, trivial, trivial⟩ (by simp only [push_cast, Nat.reduceLT, Nat.reduceAdd])
    exact ⟨_, g2, h γ w hS _ g2 _ _ g1 (g3 (.x (.a (.p 0 0))) (by show (0 : Nat) < 2; omega))⟩
  exact this
theorem putK (hn : n + b.length ≤ 1000000000) (hn1 : k0 ≠ k1) (hn2 : k0 ≠ k2) (hn3 : k1 ≠ k2) (hbr : ∀ r ∈ hp, Res.bnd hp.length r) (hk : bview hp[k0]? = some (47, .c [.o k1, .v (.int .i64 (n : Int))])) (h1 : hp[k1]? = some (.abs (ChR 125 r))) (h2 : hp[k2]? = some (.own 5 (.u8 b))) :
    CallOK Tryd.prog w0 ow 109 [.x (.a (.p k0 0)), .x (.a (.o k2))] hp (.t []) (wrS hp k0 [k0, k1, k2] r n b) := by
  have := callOK_pin (P := Tryd.prog) (w0 := w0) (ow := ow) (f := 109) (svs := [.x (.a (.p k0 0)), .x (.a (.o k2))]) (hp := hp) (sv1 := .t []) [k0, k1, k2] 0 k0 (c := .c [.o k1, .v (.int .i64 (n : Int))]) (c1 := .c [.o 1, .v (.int .i64 ((n + b.length : Nat) : Int))])
    (fun g => [.pin g 47 (.c [.o 1, .v (.int .i64 ((n + b.length : Nat) : Int))]), .abs (ChR 125 (b :: r))]) (by simp) hk (fun _ => rfl) (fun _ => rfl) hbr (fun _ => by simp only [push_cast, Nat.reduceLT, Nat.reduceAdd]) (by simp only [push_cast, Nat.reduceAdd])
    (fun g => moveR_pin (by rw [goneAll_length]; rfl)) fun γ w hS => by
    obtain ⟨g1, g2, g3⟩ := hS.hand (k := k0) (ρ := [k0, k1, k2]) (hp0 := [.pin (nmB γ k0) 47 (.c [.o 1, .v (.int .i64 (n : Int))]), .abs (ChR 125 r), .own 5 (.u8 b)]) hk
      ⟨by rw [List.getElem?_set_self (by
            obtain ⟨_, _, r0, hr0, _⟩ := hS.bv hk
            exact lt_of_get hr0)]; rfl, by rw [List.getElem?_set_ne hn1, h1]; rfl, by rw [List.getElem?_set_ne hn2, h2]; rfl, trivial⟩ ⟨⟨hn1.symm, hn2.symm, trivial⟩, ⟨hn3.symm, trivial⟩, trivial, trivial⟩ (by simp only [push_cast, Nat.reduceLT, Nat.reduceAdd])
    refine ⟨_, g2, ?_⟩
    have := put_any (nmB γ k0) hn g1
    rw [show List.map (Sv.val (reγ [k0, k1, k2] γ)) [.x (.a (.p 0 0)), .x (.a (.o 2))] = List.map (Sv.val γ) [.x (.a (.p k0 0)), .x (.a (.o k2))] from by
      simp only [List.map_cons, List.map_nil]; rw [g3 (.x (.a (.p 0 0))) (by show (0 : Nat) < 3; omega), g3 (.x (.a (.o 2))) (by show (2 : Nat) < 3; omega)]; rfl] at this
    exact this
  exact this
end
attribute [push_cast] wrS
end Go.Proofs.YtiaeollemmkclaaDoor
