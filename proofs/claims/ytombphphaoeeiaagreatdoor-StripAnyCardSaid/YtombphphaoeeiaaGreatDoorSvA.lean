import Derived.Test.YtombphphaoeeiaaGreatDoorEsA
import Derived.Test.YtombphphaoeeiaaGreatDoorPm
import Derived.Test.YtombphphaoeeiaaGreatDoorOpn
import Derived.Test.YtombphphaoeeiaaGreatDoorRef7
import Derived.Shelf.SlSortCmp.NoneTotal
/- SvA: Sm0, Sm1, So0, SoL, joined. -/
/- Shares: put in order, as the library does it with few; what values at places are worth; curves. No walk. -/
namespace Go.Proofs.YtombphphaoeeiaaGreatDoor
open Go.RowKit
set_option linter.unusedSimpArgs false
set_option linter.unusedVariables false
abbrev Sh := UInt64 × UInt64
/-! ### In order -/
def swp (L : List Sh) (j : Nat) : List Sh := (L.set (j + 1) (ix L j)).set j (ix L (j + 1))
def down (L : List Sh) : Nat → List Sh
  | 0 => L
  | j + 1 => if (ix L (j + 1)).1 < (ix L j).1 then down (swp L j) j else L
def insS (L : List Sh) : Nat → List Sh
  | 0 => L
  | k + 1 => down (insS L k) (k + 1)
theorem ix_get {α : Type} [Inhabited α] {l : List α} {i : Nat} (h : i < l.length) : ix l i = l[i] := by simp [ix, List.getD_eq_getElem?_getD, List.getElem?_eq_getElem h]
/-- All but the one at j stand in order, up to i. -/
def Ord (L : List Sh) (i j : Nat) : Prop := ∀ a b, a < b → b ≤ i → b ≠ j → (ix L a).1.toNat ≤ (ix L b).1.toNat
/-- A few shares in order. -/
def sortS (L : List Sh) : List Sh := insS L (L.length - 1)
def okSh (s : Sh) : Bool := decide (s.1 ≠ 0 ∧ s.1.toNat < 2305843009213693951 ∧ s.2.toNat < 2305843009213693951)
/-- In order, no two of one place. -/
def asc (L : List Sh) : Bool := (List.range (L.length - 1)).all fun i => decide ((ix L (i + 1)).1 ≠ (ix L i).1)
theorem asc_iff {L : List Sh} : asc L = true ↔ ∀ i, i + 1 < L.length → (ix L (i + 1)).1 ≠ (ix L i).1 := by
  unfold asc
  simp only [List.all_eq_true, List.mem_range, decide_eq_true_eq]
  exact ⟨fun h i hi => h i (by omega), fun h i hi => h i (by omega)⟩
/-! ### Numbers of the field -/
open Prm (Q)
def qU (a : UInt64) : Q := Fin.ofNat _ a.toNat
theorem qU_val (a : UInt64) : (qU a).val = a.toNat % 2305843009213693951 := rfl
theorem qU_eq {a b : UInt64} : qU a = qU b ↔ a.toNat % 2305843009213693951 = b.toNat % 2305843009213693951 := by
  rw [← Fin.val_inj, qU_val, qU_val]
theorem qU_sub (a b : UInt64) : qU (subU a b) = qU a - qU b := by
  apply Fin.ext
  rw [Fin.val_sub, qU_val, qU_val, qU_val, subU_toNat, Nat.mod_mod]
  congr 1
  omega
theorem qU_mul (a b : UInt64) : qU (fpMul a b) = qU a * qU b := by
  apply Fin.ext
  show _ = ((qU a).val * (qU b).val) % _
  rw [qU_val, qU_val, qU_val, fpMul_toNat, Nat.mod_mod, ← Nat.mul_mod]
/-- The product of the distances from a place to the first k others. -/
def prU (xs : List UInt64) (i : Nat) (at_ : UInt64) : Nat → UInt64
  | 0 => 1
  | k + 1 => if k = i then prU xs i at_ k else fpMul (prU xs i at_ k) (subU at_ (ix xs k))
theorem prU_zero (xs : List UInt64) (i : Nat) (at_ : UInt64) : prU xs i at_ 0 = 1 := rfl
theorem prU_same (xs : List UInt64) (i : Nat) (at_ : UInt64) : prU xs i at_ (i + 1) = prU xs i at_ i := if_pos rfl
theorem prU_next {xs : List UInt64} {i k : Nat} {at_ : UInt64} (h : k ≠ i) : prU xs i at_ (k + 1) = fpMul (prU xs i at_ k) (subU at_ (ix xs k)) := if_neg h
theorem qU_prU (xs : List UInt64) (i : Nat) (a : UInt64) : ∀ k, qU (prU xs i a k) = Prm.prq (fun j => qU (ix xs j)) i (qU a) k
  | 0 => rfl
  | k + 1 => by
    unfold prU Prm.prq
    split
    · exact qU_prU xs i a k
    · rw [qU_mul, qU_sub, qU_prU xs i a k]
def wtU (xs : List UInt64) (at_ : UInt64) (i : Nat) : UInt64 := fpMul (prU xs i at_ xs.length) (powU (prU xs i (ix xs i) xs.length) 2305843009213693949)
def wtsU (xs : List UInt64) (at_ : UInt64) : Nat → List UInt64
  | 0 => []
  | i + 1 => wtsU xs at_ i ++ [wtU xs at_ i]
theorem wtsU_zero (xs : List UInt64) (at_ : UInt64) : wtsU xs at_ 0 = [] := rfl
theorem wtsU_succ (xs : List UInt64) (at_ : UInt64) (i : Nat) : wtsU xs at_ (i + 1) = wtsU xs at_ i ++ [wtU xs at_ i] := rfl
theorem wtsU_length (xs : List UInt64) (at_ : UInt64) (i : Nat) : (wtsU xs at_ i).length = i := by
  induction i with
  | zero => rfl
  | succ i ih => simp [wtsU, ih]
theorem wtsU_ix (xs : List UInt64) (at_ : UInt64) (n j : Nat) (h : j < n) : ix (wtsU xs at_ n) j = wtU xs at_ j := by
  induction n with
  | zero => omega
  | succ n ih =>
    rw [wtsU_succ]
    by_cases e : j = n
    · subst e
      simp [ix, List.getD_eq_getElem?_getD, wtsU_length]
    · rw [show ix (wtsU xs at_ n ++ [wtU xs at_ n]) j = ix (wtsU xs at_ n) j from by simp [ix, List.getD_eq_getElem?_getD, List.getElem?_append_left (show j < (wtsU xs at_ n).length by rw [wtsU_length]; omega)]]
      exact ih (by omega)
/-- The value at a place of the curve through points, after k of them. -/
def thU (l : List Sh) (at_ : UInt64) : Nat → UInt64
  | 0 => 0
  | k + 1 => addU (thU l at_ k) (fpMul (ix l k).2 (wtU (l.map (·.1)) at_ k))
theorem thU_zero (l : List Sh) (at_ : UInt64) : thU l at_ 0 = 0 := rfl
theorem thU_succ (l : List Sh) (at_ : UInt64) (k : Nat) : thU l at_ (k + 1) = addU (thU l at_ k) (fpMul (ix l k).2 (wtU (l.map (·.1)) at_ k)) := rfl
theorem ix_fst (l : List Sh) (j : Nat) (h : j < l.length) : ix (l.map (·.1)) j = (ix l j).1 := by simp [ix, List.getD_eq_getElem?_getD, h]
/-! ### Places apart -/
def metU (xs : List UInt64) (k : Nat) (n : Int) : Bool := (List.range k).any fun j => decide (n64 (ix xs j % fpP) = n)
theorem metU_iff {xs : List UInt64} {k : Nat} {n : Int} : metU xs k n = true ↔ ∃ j, j < k ∧ n64 (ix xs j % fpP) = n := by
  unfold metU
  simp [List.any_eq_true]
def seenU (xs : List UInt64) : Nat → List (Int × Sc)
  | 0 => []
  | k + 1 => putI (seenU xs k) (n64 (ix xs k % fpP)) (.a (.v (.int .i64 1)))
theorem seenU_zero (xs : List UInt64) : seenU xs 0 = [] := rfl
theorem seenU_succ (xs : List UInt64) (k : Nat) : seenU xs (k + 1) = putI (seenU xs k) (n64 (ix xs k % fpP)) (.a (.v (.int .i64 1))) := rfl
theorem lookI_putIS (l : List (Int × Sc)) (i j : Int) (x : Sc) : lookI (putI l i x) j = if i = j then some x else lookI l j := by
  induction l with
  | nil => rfl
  | cons p l ih =>
    by_cases e : p.1 = i
    · simp only [putI, if_pos e, lookI]
      subst e
      by_cases e2 : p.1 = j
      · simp [e2]
      · simp [e2]
    · simp only [putI, if_neg e, lookI, ih]
      by_cases e2 : p.1 = j
      · subst e2; rw [if_pos rfl, if_neg (fun h => e h.symm), if_pos rfl]
      · rw [if_neg e2, if_neg e2]
theorem lookI_seenU (xs : List UInt64) (n : Int) : ∀ k, lookI (seenU xs k) n = if metU xs k n = true then some (.a (.v (.int .i64 1))) else none
  | 0 => by simp [seenU, lookI, metU]
  | k + 1 => by
    rw [seenU_succ, lookI_putIS, lookI_seenU xs n k]
    by_cases e : n64 (ix xs k % fpP) = n
    · rw [if_pos e, if_pos (metU_iff.2 ⟨k, by omega, e⟩)]
    · rw [if_neg e]
      by_cases h : metU xs k n = true
      · obtain ⟨j, hj, hn⟩ := metU_iff.1 h
        rw [if_pos h, if_pos (metU_iff.2 ⟨j, by omega, hn⟩)]
      · rw [if_neg h, if_neg]
        intro h2
        obtain ⟨j, hj, hn⟩ := metU_iff.1 h2
        by_cases ej : j = k
        · subst ej; exact e hn
        · exact h (metU_iff.2 ⟨j, by omega, hn⟩)
theorem putI_bndS (n : Nat) (l : List (Int × Sc)) (i : Int) (x : Sc) (hl : mpBnd n l) (hx : Sc.bnd n x) : mpBnd n (putI l i x) := by
  induction l with
  | nil => intro p hp; rw [List.mem_singleton.1 hp]; exact hx
  | cons p l ih =>
    unfold putI
    split
    · intro q hq
      rcases List.mem_cons.1 hq with rfl | hq
      · exact hx
      · exact hl q (List.mem_cons_of_mem _ hq)
    · intro q hq
      rcases List.mem_cons.1 hq with rfl | hq
      · exact hl _ (List.mem_cons_self ..)
      · exact ih (fun r hr => hl r (List.mem_cons_of_mem _ hr)) q hq
theorem seenU_bnd (xs : List UInt64) (n : Nat) : ∀ k, mpBnd n (seenU xs k) = True
  | 0 => mpBnd_nil n
  | k + 1 => eq_true (putI_bndS n _ _ _ (of_eq_true (seenU_bnd xs n k)) trivial)
theorem putI_renS (ρ : List Nat) (l : List (Int × Sc)) (i : Int) (x : Sc) : mpRen ρ (putI l i x) = putI (mpRen ρ l) i (x.ren ρ) := by
  induction l with
  | nil => rfl
  | cons p l ih =>
    rw [mpRen_cons]
    unfold putI
    by_cases e : p.1 = i
    · rw [if_pos e, if_pos e, mpRen_cons]
    · rw [if_neg e, if_neg e, mpRen_cons, ih]
theorem seenU_ren (ρ : List Nat) (xs : List UInt64) : ∀ k, mpRen ρ (seenU xs k) = seenU xs k
  | 0 => rfl
  | k + 1 => by rw [seenU_succ, putI_renS, seenU_ren ρ xs k]; rfl
def apartU (xs : List UInt64) : Bool := (List.range xs.length).all fun k => !metU xs k (n64 (ix xs k % fpP))
theorem apartU_iff {xs : List UInt64} : apartU xs = true ↔ ∀ k, k < xs.length → metU xs k (n64 (ix xs k % fpP)) = false := by
  unfold apartU
  simp [List.all_eq_true]
theorem apartU_no {xs : List UInt64} {k : Nat} (hk : k < xs.length) (h : metU xs k (n64 (ix xs k % fpP)) = true) : apartU xs = false := by
  cases e : apartU xs
  · rfl
  · rw [apartU_iff.1 e k hk] at h; cases h
theorem n64_qU {a b : UInt64} (h : n64 (a % fpP) = n64 (b % fpP)) : qU a = qU b := by
  rw [qU_eq]
  have h := n64_inj.1 h
  have := congrArg UInt64.toNat h
  rwa [modP_toNat, modP_toNat] at this
theorem n64_of_qU {a b : UInt64} (h : qU a = qU b) : n64 (a % fpP) = n64 (b % fpP) := by
  rw [qU_eq] at h
  rw [show a % fpP = b % fpP from UInt64.toNat_inj.1 (by rw [modP_toNat, modP_toNat]; exact h)]
/-- Places are apart just if no two are one in the field. -/
theorem apartU_q {xs : List UInt64} : apartU xs = true ↔ ∀ i j, i < xs.length → j < xs.length → qU (ix xs i) = qU (ix xs j) → i = j := by
  rw [apartU_iff]
  constructor
  · intro h i j hi hj e
    apply Classical.byContradiction
    intro hij
    rcases Nat.lt_or_gt_of_ne hij with hl | hl
    · have := h j hj
      rw [metU_iff.2 ⟨i, hl, n64_of_qU e⟩] at this
      cases this
    · have := h i hi
      rw [metU_iff.2 ⟨j, hl, n64_of_qU e.symm⟩] at this
      cases this
  · intro h k hk
    cases e : metU xs k (n64 (ix xs k % fpP))
    · rfl
    · obtain ⟨j, hj, hn⟩ := metU_iff.1 e
      have := h j k (by omega) hk (n64_qU hn)
      omega
end Go.Proofs.YtombphphaoeeiaaGreatDoor
/- Curves through points, as the program goes through them (poly: check, places, Weights, Through, Line; fp.Inv, Div). -/
namespace Go.Proofs.YtombphphaoeeiaaGreatDoor
open Go.RowKit
set_option linter.unusedSimpArgs false
set_option linter.unusedVariables false
/-! ### Shares as rows of two cells -/
def shv (p : Sh) : List Value := [vU64 p.1, vU64 p.2]
theorem shv_len (p : Sh) : (shv p).length = 2 := rfl
def shs (l : List Sh) : List Value := l.flatMap shv
theorem shs_len (l : List Sh) : (shs l).length = l.length * 2 := flat_len shv_len l
structure FS2 (w0 : World) (A : Option Addr) (l : List Sh) : Prop where
  some_ : 0 < l.length → A.isSome = true
  c0 : ∀ i, i < l.length → cellOf w0 (pAdd A (i * 2)) = vU64 (ix l i).1
  c1 : ∀ i, i < l.length → cellOf w0 (pAdd A (i * 2 + 1)) = vU64 (ix l i).2
  ok0 : ∀ i, i < l.length → rawOk w0 No (pAdd A (i * 2))
  ok1 : ∀ i, i < l.length → rawOk w0 No (pAdd A (i * 2 + 1))
theorem FS2.of {w0 : World} {A : Option Addr} {l : List Sh} (hR : RdV w0 w0.heap.size A (shs l)) : FS2 w0 A l := by
  have h := FV.no hR
  have g0 : ∀ i, i < l.length → (shs l)[i * 2]? = some (vU64 (ix l i).1) := fun i hi => flat_get shv_len l i 0 hi (by omega)
  have g1 : ∀ i, i < l.length → (shs l)[i * 2 + 1]? = some (vU64 (ix l i).2) := fun i hi => flat_get shv_len l i 1 hi (by omega)
  exact ⟨fun hp => h.some_ (by rw [shs_len]; omega), fun i hi => (h.cell (g0 i hi)).1, fun i hi => (h.cell (g1 i hi)).1, fun i hi => (h.cell (g0 i hi)).2, fun i hi => (h.cell (g1 i hi)).2⟩
def shc (l : List Sh) : List At := l.flatMap fun p => [.v (vU64 p.1), .v (vU64 p.2)]
theorem shc_vals (γ : List Nm) (l : List Sh) : (shc l).map (At.val γ) = shs l := by
  unfold shc shs
  induction l with
  | nil => rfl
  | cons p l ih => rw [List.flatMap_cons, List.flatMap_cons, List.map_append, ih]; rfl
def arg1 : Value := .iface 63 (.int .i64 1)
def errN (n : Int) : Value := .iface 63 (.int .i64 n)
attribute [local irreducible] Callable CallOK CallG CallM DrawG LoopG symR symM
/-! ### Inverses, quotients -/
section
variable {w0 : World} {hp : List Res}
def invE (a : UInt64) : Value := if a % fpP = 0 then errN 1 else .nilIface
def invU (a : UInt64) : UInt64 := if a % fpP = 0 then 0 else powU a 2305843009213693949
set_option maxRecDepth 100000 in
theorem fpInv_any (a : UInt64) (w : World) : Calls Tryz.prog 89 #[vU64 a] w fun e w' => e = .returned (.tuple #[vU64 (invU a), invE a]) ∧ Below w.heap.size w w' := by
  refine calls_v Tryz.func89 rfl Tryz.ntmps89 [.x (.a (.v (vU64 a)))] (by simp) (.t [.a (.v (vU64 (invU a))), .a (.v (invE a))]) (fun _ => rfl) ?_
  simp (config := { maxSteps := 1000000 }) only [push_cast, ↓reduceIte, reduceCtorEq, Nat.reduceLT]
  refine callG_v rfl cb63 rfl (fpOfK a) (dOk_lt rfl) ?_
  by_cases h : a % fpP = 0
  · have e1 : vU64 (invU a) = .int .u64 0 := by unfold invU; rw [if_pos h]; rfl
    have e2 : invE a = errN 1 := if_pos h
    simp (config := { maxSteps := 1000000 }) only [h, e1, e2, errN, push_cast, ↓reduceIte, Nat.reduceEqDiff, Nat.reduceLT]
  · have e1 : invU a = powU a 2305843009213693949 := if_neg h
    have e2 : invE a = .nilIface := if_neg h
    simp (config := { maxSteps := 1000000 }) only [h, e1, e2, push_cast, ↓reduceIte, reduceCtorEq, Nat.reduceLT]
    refine callG_v rfl cb24 rfl (fpPowK a 2305843009213693949) (dOk_lt rfl) ?_
    simp (config := { maxSteps := 1000000 }) only [push_cast, ↓reduceIte, Nat.reduceEqDiff, Nat.reduceLT]
theorem fpInvK (a : UInt64) : CallOK Tryz.prog w0 No 89 [.x (.a (.v (vU64 a)))] hp (.t [.a (.v (vU64 (invU a))), .a (.v (invE a))]) hp := callOK_v fun _ w _ => fpInv_any a w
set_option maxRecDepth 100000 in
theorem fpDiv_any (a b : UInt64) (hb : ¬ b % fpP = 0) (w : World) : Calls Tryz.prog 76 #[vU64 a, vU64 b] w fun e w' => e = .returned (.tuple #[vU64 (fpMul a (powU b 2305843009213693949)), .nilIface]) ∧ Below w.heap.size w w' := by
  refine calls_v Tryz.func76 rfl Tryz.ntmps76 [.x (.a (.v (vU64 a))), .x (.a (.v (vU64 b)))] (by simp) (.t [.a (.v (vU64 (fpMul a (powU b 2305843009213693949)))), .a (.v .nilIface)]) (fun _ => rfl) ?_
  simp (config := { maxSteps := 1000000 }) only [push_cast, ↓reduceIte, reduceCtorEq, Nat.reduceEqDiff, Nat.reduceLT]
  refine callG_v rfl cb89 rfl (fpInvK b) (dOk_lt rfl) ?_
  have e1 : invU b = powU b 2305843009213693949 := if_neg hb
  have e2 : invE b = .nilIface := if_neg hb
  simp (config := { maxSteps := 1000000 }) only [e1, e2, push_cast, ↓reduceIte, reduceCtorEq, Nat.reduceEqDiff, Nat.reduceLT]
  refine callG_v rfl cb44 rfl (fpMulK a (powU b 2305843009213693949)) (dOk_lt rfl) ?_
  simp (config := { maxSteps := 1000000 }) only [push_cast, ↓reduceIte, Nat.reduceEqDiff, Nat.reduceLT]
theorem fpDivK (a b : UInt64) (hb : ¬ b % fpP = 0) : CallOK Tryz.prog w0 No 76 [.x (.a (.v (vU64 a))), .x (.a (.v (vU64 b)))] hp (.t [.a (.v (vU64 (fpMul a (powU b 2305843009213693949)))), .a (.v .nilIface)]) hp := callOK_v fun _ w _ => fpDiv_any a b hb w
end
/-! ### May these be places? -/
def pcOk (xs : List UInt64) : Bool := decide (xs.length ≤ 64) && apartU xs
def pcErr (xs : List UInt64) : Value := if xs.length ≤ 64 then (if apartU xs = true then .nilIface else errN 8) else errN 1
theorem pcErr_yes {xs : List UInt64} (h : pcOk xs = true) : pcErr xs = .nilIface := by
  unfold pcOk at h
  rw [Bool.and_eq_true, decide_eq_true_eq] at h
  unfold pcErr
  rw [if_pos h.1, if_pos h.2]
attribute [local irreducible] seenU metU apartU prU wtU wtsU thU powU
set_option maxRecDepth 100000 in
set_option maxHeartbeats 1000000 in
theorem pcheck_any (xs : List UInt64) (A : Option Addr) (c : Nat) (w : World) (hl : xs.length ≤ 1000000) (hR : RdV w w.heap.size A (xs.map vU64)) : Calls Tryz.prog 61 #[.slice A xs.length c] w fun e w' => e = .returned (pcErr xs) ∧ Below w.heap.size w w' := by
  have F := FM.of hR
  refine calls_v Tryz.func61 rfl Tryz.ntmps61 [(.x (.a (.v (.slice A xs.length c))))] (by simp) (.x (.a (.v (pcErr xs)))) (fun _ => rfl) ?_
  by_cases h64 : (64 : Int) < xs.length
  · have e : pcErr xs = errN 1 := if_neg (by omega)
    simp (config := { maxSteps := 1000000 }) only [h64, e, errN, push_cast, ↓reduceIte, reduceCtorEq, Nat.reduceLT]
  · have e0 : pcErr xs = if apartU xs = true then .nilIface else errN 8 := if_pos (by omega)
    simp (config := { maxSteps := 1000000 }) only [h64, push_cast, ↓reduceIte, reduceCtorEq, Nat.reduceLT]
    (repeat (refine And.intro (by first | omega | decide) ?_))
    refine loop_rule (ι := Nat) (fun i => ⟨[(3, .x (.a (.o 0))), (13, (.x (.a (.v (.slice A xs.length c))))), (14, .x (.a (.v (.int .i64 xs.length)))), (15, .x (.a (.v (.int .i64 i))))], [.mp .u64 (seenU xs i)]⟩) (fun i => i ≤ xs.length ∧ ∀ j, j < i → metU xs j (n64 (ix xs j % fpP)) = false) (fun i => xs.length - i) 0 [0] ⟨Nat.zero_le _, fun j h => absurd h (Nat.not_lt_zero _)⟩ ?_ ?_
    · simp (config := { maxSteps := 1000000 }) only [seenU_zero, mpBnd_nil, push_cast, ↓Int.cast_ofNat_Int, Int.cast_ofNat_Int, ↓reduceIte, Nat.reduceEqDiff, Nat.reduceLT]
    · rintro i ⟨hi, hj⟩
      by_cases hlt : (i : Int) < xs.length
      · have i0 : (0 : Int) ≤ i := by omega
        have c0 := F.cell i (by omega)
        have o0 := F.ok i (by omega)
        have hA := F.some_ (by omega)
        have hlk := lookI_seenU xs (n64 (ix xs i % fpP)) i
        simp (config := { maxSteps := 1000000 }) only [hlt, i0, c0, o0, hA, push_cast, ↓Int.toNat_natCast, ↓reduceIte, reduceCtorEq, Nat.reduceEqDiff, Nat.reduceLT]
        (repeat (refine And.intro (by first | omega | decide) ?_))
        refine callG_v rfl cb63 rfl (fpOfK (ix xs i)) (dOk_lt rfl) ?_
        cases hm : metU xs i (n64 (ix xs i % fpP))
        · rw [hm] at hlk
          have hlk : lookI (seenU xs i) (n64 (ix xs i % fpP)) = none := hlk
          have hs := (seenU_succ xs i).symm
          have hl2 : lookI (seenU xs (i + 1)) (n64 (ix xs i % fpP)) = some (.a (.v (.int .i64 1))) := by rw [seenU_succ, lookI_putIS, if_pos rfl]
          simp (config := { maxSteps := 1000000 }) only [hlk, hs, undef, push_cast, ↓reduceIte, Nat.reduceEqDiff, Nat.reduceLT, Int.reduceNeg, Int.reduceLE, Int.reduceAdd]
          (repeat (refine And.intro (by first | omega | decide) ?_))
          refine callG_v rfl cb63 rfl (fpOfK (ix xs i)) (dOk_lt rfl) ?_
          simp (config := { maxSteps := 1000000 }) only [hl2, push_cast, ↓reduceIte, Nat.reduceEqDiff, Nat.reduceLT, Int.reduceNeg, Int.reduceLT]
          (repeat (refine And.intro (by first | omega | decide) ?_))
          refine loopK_normal (i + 1) [0] ⟨by omega, fun j h => ?_⟩ (by omega) ?_
          · by_cases e : j = i
            · rw [e]; exact hm
            · exact hj j (by omega)
          · simp (config := { maxSteps := 1000000 }) only [seenU_bnd, seenU_ren, push_cast, ↓reduceIte, Nat.reduceEqDiff, Nat.reduceLT]
        · rw [hm] at hlk
          have hlk : lookI (seenU xs i) (n64 (ix xs i % fpP)) = some (.a (.v (.int .i64 1))) := hlk
          have hl2 : lookI (putI (seenU xs i) (n64 (ix xs i % fpP)) (.a (.v (.int .i64 2)))) (n64 (ix xs i % fpP)) = some (.a (.v (.int .i64 2))) := by rw [lookI_putIS, if_pos rfl]
          have he : pcErr xs = errN 8 := by rw [e0, apartU_no (by omega) hm]; rfl
          simp (config := { maxSteps := 1000000 }) only [hlk, undef, push_cast, ↓reduceIte, Nat.reduceEqDiff, Nat.reduceLT, Int.reduceNeg, Int.reduceLE, Int.reduceAdd]
          (repeat (refine And.intro (by first | omega | decide) ?_))
          refine callG_v rfl cb63 rfl (fpOfK (ix xs i)) (dOk_lt rfl) ?_
          simp (config := { maxSteps := 1000000 }) only [hl2, he, errN, push_cast, ↓reduceIte, Nat.reduceEqDiff, Nat.reduceLT, Int.reduceLT]
      · have he : pcErr xs = .nilIface := by rw [e0, apartU_iff.2 fun k hk => hj k (by omega)]; rfl
        simp (config := { maxSteps := 1000000 }) only [hlt, he, push_cast, ↓reduceIte, Nat.reduceEqDiff, Nat.reduceLT]
theorem pcheckOK {w0 : World} {hp : List Res} {sv : Sv} {xs : List UInt64} (hl : xs.length ≤ 1000000) (h : Shows w0 No hp sv (xs.map vU64)) : CallOK Tryz.prog w0 No 61 [sv] hp (.x (.a (.v (pcErr xs)))) hp := callOK_v fun γ w hS => by
  obtain ⟨A, c, e1, b1, r1⟩ := h γ w hS
  rw [List.length_map] at e1
  show Calls _ _ #[sv.val γ] w _
  rw [e1]
  exact pcheck_any xs A c w hl r1
end Go.Proofs.YtombphphaoeeiaaGreatDoor
/- The library's sort at rows of two cells: what it makes of a row of shares; the world behind it. No program in sight. -/
namespace Go.Proofs.YtombphphaoeeiaaGreatDoor
open Go.RowKit
set_option linter.unusedSimpArgs false
set_option linter.unusedVariables false
/-! ### What comes of it -/
def cmpS (x y : Sh) : Int := if x.1 < y.1 then -1 else if y.1 < x.1 then 1 else 0
theorem ltS (x y : Sh) : ltOf cmpS x y = decide (x.1.toNat < y.1.toNat) := by
  unfold ltOf cmpS
  by_cases h : x.1 < y.1
  · simp [h, UInt64.lt_iff_toNat_lt.1 h]
  · have h2 : ¬ x.1.toNat < y.1.toNat := fun g => h (UInt64.lt_iff_toNat_lt.2 g)
    by_cases g : y.1 < x.1 <;> simp [h, g, h2]
theorem swoS : Go.Sort.SWO (ltOf cmpS) where
  irrefl x := by rw [ltS]; simp
  trans x y z h1 h2 := by rw [ltS] at *; simp at *; omega
  ntrans x y z h1 h2 := by rw [ltS] at *; simp at *; omega
def sortA (d : Array Sh) : Array Sh := Go.Sort.pdq (ltOf cmpS) d 0 d.size (Lib.bitLen d.size) true true
def sortP (L : List Sh) : List Sh := (sortA L.toArray).toList
theorem sortA_spec (d : Array Sh) : Go.Sort.PermIn 0 d.size d (sortA d) ∧ Go.Sort.SortedIn (ltOf cmpS) 0 d.size (sortA d) :=
  Go.Sort.pdq_sorts (ltOf cmpS) swoS d 0 d.size (Lib.bitLen d.size) true true (Nat.zero_le _) (Nat.le_refl _) (Or.inl rfl)
theorem sortA_size (d : Array Sh) : (sortA d).size = d.size := (sortA_spec d).1.1
theorem sortP_length (L : List Sh) : (sortP L).length = L.length := by
  unfold sortP
  rw [Array.length_toList, sortA_size]
  rfl
theorem sortP_perm (L : List Sh) : (sortP L).Perm L := by
  have h := (sortA_spec L.toArray).1.2.2
  have e : (sortA L.toArray).extract 0 L.toArray.size = sortA L.toArray := by
    have := sortA_size L.toArray
    rw [← this]
    exact Array.extract_size
  rw [e, Array.extract_size] at h
  exact h
theorem at_toA (d : Array Sh) (i : Nat) (h : i < d.size) : d[i]! = ix d.toList i := by
  rw [getElem!_pos d i h, ix_get (by simpa using h), Array.getElem_toList]
theorem sortP_ord (L : List Sh) (a b : Nat) (h1 : a < b) (h2 : b < L.length) : (ix (sortP L) a).1.toNat ≤ (ix (sortP L) b).1.toNat := by
  have hz := sortA_size L.toArray
  have e : L.toArray.size = L.length := by simp
  have h := (sortA_spec L.toArray).2 a b (Nat.zero_le _) h1 (by rw [e]; exact h2)
  rw [ltS, decide_eq_false_iff_not, at_toA _ b (by omega), at_toA _ a (by omega)] at h
  exact Nat.le_of_not_lt h
/-! ### The row's cells -/
theorem flat2 (d : Array Sh) : (Go.Sort.flatK shv 2 d).toList = shs d.toList := by
  apply List.ext_getElem?
  intro t
  by_cases ht : t < d.size * 2
  · have h1 : t / 2 < d.size := by omega
    have h2 : t % 2 < 2 := by omega
    have e := flat_get shv_len d.toList (t / 2) (t % 2) (by simpa using h1) h2
    rw [show t / 2 * 2 + t % 2 = t from by omega] at e
    show _ = (d.toList.flatMap shv)[t]?
    rw [e]
    have g := Go.Sort.get_flatK shv 2 d t ht
    rw [at_toA d _ h1] at g
    have s : t < (Go.Sort.flatK shv 2 d).size := by rw [Go.Sort.size_flatK]; exact ht
    rw [getElem!_pos _ t s, getElem!_pos _ (t % 2) (by rw [shv_len]; exact h2)] at g
    rw [Array.getElem?_toList, Array.getElem?_eq_getElem s, g, List.getElem?_eq_getElem (by rw [shv_len]; exact h2)]
  · rw [List.getElem?_eq_none (by rw [Array.length_toList, Go.Sort.size_flatK]; omega), List.getElem?_eq_none (by rw [shs_len, Array.length_toList]; omega)]
theorem holds2 {w : World} {g cap : Nat} {d : Array Sh} {e : TypeId} (h : w.ownsRow 0 e 2 (.slice (some ⟨g, 0, none⟩) d.size cap) d.size (shs d.toList)) : Go.Sort.HoldsK shv 2 w g 0 d := by
  intro j hj
  have s := hj
  rw [Go.Sort.size_flatK] at hj
  rw [Nat.zero_add]
  refine ⟨?_, World.ownsRow.frozenAt h j⟩
  have hc := fun u hu => World.ownsRow.cells h (g := g) rfl j u hu
  simp only [add_plain, Nat.zero_add] at hc
  refine hc _ ?_
  rw [← flat2, Array.getElem?_toList, getElem!_pos _ j s, Array.getElem?_eq_getElem s]
  rfl
theorem put2_cells (F cur : Array Value) (h : F.size ≤ cur.size) : (Go.Sort.putCells id 0 F cur).toList.take F.size = F.toList := by
  apply List.ext_getElem?
  intro t
  rw [List.getElem?_take]
  by_cases ht : t < F.size
  · rw [if_pos ht, Array.getElem?_toList, Array.getElem?_toList, Array.getElem?_eq_getElem ht]
    unfold Go.Sort.putCells
    rw [Array.getElem?_mapIdx, Array.getElem?_eq_getElem (show t < cur.size by omega), Option.map_some, if_pos ⟨Nat.zero_le _, by omega⟩, Nat.sub_zero, getElem!_pos F t ht]
    rfl
  · rw [if_neg ht, List.getElem?_eq_none (by rw [Array.length_toList]; omega)]
theorem heap_sortW (w : World) (g n : Nat) (d : Array Sh) (os : Array Obj) (k : Nat) (hk : k < w.heap.size) : (sortWorldK shv 2 w g 0 n d os).heap[k]? = if g = k then (w.heap[k]?).map (Go.Sort.onCells (Go.Sort.putCells id 0 (Go.Sort.flatK shv 2 d))) else w.heap[k]? := by
  unfold sortWorldK Go.Sort.grow Go.Sort.putRowK Go.Sort.putRow Go.Sort.mapBlock Go.Sort.ahead
  show (w.heap.modify g _ ++ os)[k]? = _
  rw [Array.getElem?_append_left (by simpa using hk), Array.getElem?_modify]
theorem owns2 {w : World} {g cap n : Nat} {d d' : Array Sh} {e : TypeId} (hs : d'.size = d.size) (os : Array Obj) (h : w.ownsRow 0 e 2 (.slice (some ⟨g, 0, none⟩) d.size cap) d.size (shs d.toList)) :
    (sortWorldK shv 2 w g 0 n d' os).ownsRow 0 e 2 (.slice (some ⟨g, 0, none⟩) d.size cap) d.size (shs d'.toList) := by
  obtain ⟨h0, ⟨h1, _⟩ | ⟨g', cap', cur, h1, _, hh, h3, h4, h5, h6⟩⟩ := h
  · cases h1
  · cases h1
    have hz : (Go.Sort.flatK shv 2 d').size = d.size * 2 := by rw [Go.Sort.size_flatK, hs]
    have hle := Nat.mul_le_mul_right 2 h3
    refine ⟨by rw [shs_len, Array.length_toList, hs], .inr ⟨g, cap, Go.Sort.putCells id 0 (Go.Sort.flatK shv 2 d') cur, rfl, Nat.zero_le _, ?_, h3, h4, ?_, ?_⟩⟩
    · rw [heap_sortW _ _ _ _ _ _ (Array.getElem?_eq_some_iff.1 hh).1, if_pos rfl, hh]
      rfl
    · unfold Go.Sort.putCells
      rw [Array.size_mapIdx, h5]
    · rw [← hz, put2_cells _ _ (by rw [hz, h5]; exact hle), flat2]
theorem keeps2 (w : World) (g n : Nat) (d : Array Sh) (os : Array Obj) : Keeps (· = g) w (sortWorldK shv 2 w g 0 n d os) := by
  refine ⟨rfl, rfl, rfl, ?_, fun k hk hn => ?_⟩
  · unfold sortWorldK Go.Sort.grow Go.Sort.putRowK Go.Sort.putRow Go.Sort.mapBlock Go.Sort.ahead
    show _ ≤ (w.heap.modify g _ ++ os).size
    rw [Array.size_append, Array.size_modify]
    omega
  · rw [heap_sortW _ _ _ _ _ _ hk, if_neg (fun e => hn e.symm)]
theorem shv_one (x : Sh) : ∀ v ∈ shv x, v.oneCell' = true := by
  intro v hv
  simp only [shv, List.mem_cons, List.not_mem_nil, or_false] at hv
  rcases hv with rfl | rfl <;> rfl
/-! ### A call of it, in the engine's words -/
theorem callOK_sort {P : Program} {w0 : World} {ow : Nat → Prop} {hp : List Res} {f : FuncId} {e : TypeId} {k : Nat} {L : List Sh} {sv : Sv} {fv : Value} (hk : hp[k]? = some (.onn e 2 (.c (shc L)))) (hv : ∀ γ, sv.val γ = fv)
    (h1 : ∀ (g cap : Nat) (w : World), Go.Sort.HoldsK shv 2 w g 0 L.toArray → g < w.heap.size → Calls P f #[.slice (some ⟨g, 0, none⟩) L.toArray.size cap, fv] w fun e w' => e = .returned (.tuple #[]) ∧ ∃ n os, w' = sortWorldK shv 2 w g 0 n (sortA L.toArray) os)
    (h2 : ∀ (w : World), L = [] → Calls P f #[.slice none 0 0, fv] w fun e w' => e = .returned (.tuple #[]) ∧ w' = w) :
    CallOK P w0 ow f [.x (.a (.o k)), sv] hp (.t []) (hp.set k (.onn e 2 (.c (shc (sortP L))))) := fun γ w hS => by
  obtain ⟨hg, hm, n, ho⟩ := hS.holds k _ hk
  have hl : (shc L).map (At.val γ) = shs L := shc_vals γ L
  have ho : w.ownsRow 0 e 2 (nmS γ k) n (shs L) := by rw [← hl]; exact ho
  have hn : n = L.length := by have := ho.1; rw [shs_len] at this; omega
  subst hn
  show Calls P f #[nmS γ k, sv.val γ] w _
  rw [hv]
  have hcase := ho
  obtain ⟨_, ⟨hv1, hv2⟩ | ⟨g, cap, cur, hv1, _, hh, _⟩⟩ := hcase
  · have hL : L = [] := List.eq_nil_of_length_eq_zero hv2
    rw [hv1]
    refine (h2 w hL).mono ?_
    rintro en w' ⟨rfl, rfl⟩
    refine ⟨[], by rw [List.append_nil]; rfl, ?_⟩
    rw [List.append_nil, show hp.set k (.onn e 2 (.c (shc (sortP L)))) = hp from ?_]
    · exact hS
    · have : sortP L = L := by
        have := sortP_length L
        rw [hL] at this ⊢
        exact List.eq_nil_of_length_eq_zero this
      rw [this]
      apply List.ext_getElem?
      intro i
      rw [List.getElem?_set]
      split
      · rename_i hi
        subst hi
        rw [hk, if_pos (lt_of_get hk)]
      · rfl
  · have hlt : g < w.heap.size := (Array.getElem?_eq_some_iff.1 hh).1
    rw [hv1] at ho ⊢
    have ho' : w.ownsRow 0 e 2 (.slice (some ⟨g, 0, none⟩) L.toArray.size cap) L.toArray.size (shs L.toArray.toList) := ho
    refine (h1 g cap w (holds2 ho') hlt).mono ?_
    rintro en w' ⟨rfl, q, os, rfl⟩
    refine ⟨[], by rw [List.append_nil]; rfl, ?_⟩
    rw [List.append_nil]
    have hob : (nmS γ k).ownBlock = some g := by rw [hv1]; rfl
    refine hS.update (b := g) (r' := .onn e 2 (.c (shc (sortP L)))) hk hob (keeps2 w g q _ os) ⟨hg, hm, L.length, ?_⟩ (.inl rfl)
    have e2 : (shc (sortP L)).map (At.val γ) = shs (sortA L.toArray).toList := shc_vals γ _
    show World.ownsRow _ 0 e 2 (nmS γ k) L.length ((shc (sortP L)).map (At.val γ))
    rw [hv1, e2]
    exact owns2 (d := L.toArray) (sortA_size _) os ho'
end Go.Proofs.YtombphphaoeeiaaGreatDoor
/- Shares split, sorted, joined, summed: what comes, and what it tells. No walk. -/
namespace Go.Proofs.YtombphphaoeeiaaGreatDoor
open Go.RowKit
set_option linter.unusedSimpArgs false
set_option linter.unusedVariables false
/-! ### What comes -/
def splS (c : List UInt64) : Nat → List Sh
  | 0 => []
  | k + 1 => splS c k ++ [(UInt64.ofNat (k + 1), polyU c (UInt64.ofNat (k + 1)))]
def okAll (l : List Sh) : Bool := l.all okSh
def sorE (l : List Sh) : Int := if l.length ≤ 64 then (if okAll l = true then (if asc (sortP l) = true then 0 else 8) else 1) else 1
def sorL (l : List Sh) : List Sh := if sorE l = 0 then sortP l else []
def lineU (l : List Sh) (m : Nat) : Bool := (List.range (l.length - m)).all fun i => decide (thU (l.take m) (ix l (m + i)).1 m = (ix l (m + i)).2 % fpP)
def joiE (l : List Sh) (need : Int) : Int :=
  if need < 1 then 1 else if sorE l = 0 then (if (l.length : Int) < need then 7 else if lineU (sortP l) need.toNat = true then 0 else 4) else sorE l
def joiU (l : List Sh) (need : Int) : UInt64 := if joiE l need = 0 then thU ((sortP l).take need.toNat) 0 need.toNat else 0
def sumTo (a b : List Sh) : Nat → List Sh
  | 0 => a
  | k + 1 => (sumTo a b k).set k ((ix a k).1, addU (ix a k).2 (ix b k).2)
def sameX (a b : List Sh) : Bool := (List.range a.length).all fun i => decide ((ix a i).1 = (ix b i).1)
def sumE (a b : List Sh) : Int := if sorE a = 0 then (if sorE b = 0 then (if a.length = b.length then (if sameX (sortP a) (sortP b) = true then 0 else 1) else 1) else sorE b) else sorE a
def sumLs (a b : List Sh) : List Sh := if sumE a b = 0 then sumTo (sortP a) (sortP b) a.length else []
/-! ### What it tells -/
open Prm (Q)
abbrev PL (l : List Sh) : List UInt64 := l.map (·.1)
theorem okSh_iff {s : Sh} : okSh s = true ↔ s.1 ≠ 0 ∧ s.1.toNat < 2305843009213693951 ∧ s.2.toNat < 2305843009213693951 := by
  unfold okSh
  rw [decide_eq_true_eq]
theorem okAll_iff {l : List Sh} : okAll l = true ↔ ∀ s ∈ l, s.1 ≠ 0 ∧ s.1.toNat < 2305843009213693951 ∧ s.2.toNat < 2305843009213693951 := by
  unfold okAll
  rw [List.all_eq_true]
  exact ⟨fun h s hs => okSh_iff.1 (h s hs), fun h s hs => okSh_iff.2 (h s hs)⟩
theorem okAll_perm {l l' : List Sh} (h : l.Perm l') (ok : okAll l' = true) : okAll l = true := okAll_iff.2 fun s hs => okAll_iff.1 ok s (h.mem_iff.1 hs)
theorem qU_inj {a b : UInt64} (ha : a.toNat < 2305843009213693951) (hb : b.toNat < 2305843009213693951) (h : qU a = qU b) : a = b := by
  have := qU_eq.1 h
  rw [Nat.mod_eq_of_lt ha, Nat.mod_eq_of_lt hb] at this
  exact UInt64.toNat_inj.1 this
theorem ix_memS {α : Type} [Inhabited α] {l : List α} {i : Nat} (h : i < l.length) : ix l i ∈ l := by rw [ix_get h]; exact List.getElem_mem h
theorem nodup_ix {l : List Sh} (nd : (PL l).Nodup) {i j : Nat} (hi : i < l.length) (hj : j < l.length) (h : (ix l i).1 = (ix l j).1) : i = j := by
  have hi' : i < (PL l).length := by simpa using hi
  have hj' : j < (PL l).length := by simpa using hj
  refine (List.getElem_inj (h₀ := hi') (h₁ := hj') nd).1 ?_
  rw [ix_get hi, ix_get hj] at h
  simpa using h
theorem apart_of {l : List Sh} (ok : okAll l = true) (nd : (PL l).Nodup) : apartU (PL l) = true := by
  rw [apartU_q]
  intro i j hi hj h
  have hi' : i < l.length := by simpa using hi
  have hj' : j < l.length := by simpa using hj
  rw [ix_fst l i hi', ix_fst l j hj'] at h
  exact nodup_ix nd hi' hj' (qU_inj (okAll_iff.1 ok _ (ix_memS hi')).2.1 (okAll_iff.1 ok _ (ix_memS hj')).2.1 h)
theorem pcOk_of {l : List Sh} (h64 : l.length ≤ 64) (ok : okAll l = true) (nd : (PL l).Nodup) : pcOk (PL l) = true := by
  unfold pcOk
  rw [Bool.and_eq_true, decide_eq_true_eq]
  exact ⟨by simpa using h64, apart_of ok nd⟩
theorem asc_of {l : List Sh} (nd : (PL l).Nodup) : asc l = true := asc_iff.2 fun i hi h => by have := nodup_ix nd (by omega) (by omega) h; omega
/-- In order and no two that touch of one place: no two at all. -/
theorem nodup_of {L : List Sh} (h : asc (sortP L) = true) : (PL (sortP L)).Nodup := by
  have hl := sortP_length L
  have step : ∀ i, i + 1 < L.length → (ix (sortP L) i).1.toNat < (ix (sortP L) (i + 1)).1.toNat := fun i hi => by
    have h1 := sortP_ord L i (i + 1) (by omega) hi
    have h2 := asc_iff.1 h i (by omega)
    have : (ix (sortP L) (i + 1)).1.toNat ≠ (ix (sortP L) i).1.toNat := fun e => h2 (UInt64.toNat_inj.1 e)
    omega
  show List.Pairwise _ _
  rw [List.pairwise_iff_getElem]
  intro i j hi hj hij
  have hi' : i < (sortP L).length := by simpa using hi
  have hj' : j < (sortP L).length := by simpa using hj
  intro e
  have e' : (ix (sortP L) i).1 = (ix (sortP L) j).1 := by rw [ix_get hi', ix_get hj']; simpa using e
  have h1 := step i (by omega)
  have h2 : (ix (sortP L) (i + 1)).1.toNat ≤ (ix (sortP L) j).1.toNat := by
    by_cases e : i + 1 = j
    · rw [e]; exact Nat.le_refl _
    · exact sortP_ord L (i + 1) j (by omega) (by omega)
  rw [e'] at h1
  omega
section
variable {l : List Sh}
theorem perm_nodup (nd : (PL l).Nodup) : (PL (sortP l)).Nodup := ((sortP_perm l).map (·.1)).nodup_iff.2 nd
theorem sorE_of (h64 : l.length ≤ 64) (ok : okAll l = true) (nd : (PL l).Nodup) : sorE l = 0 := by
  unfold sorE
  rw [if_pos h64, if_pos ok, if_pos (asc_of (perm_nodup nd))]
theorem sorE_ok (h : sorE l = 0) : l.length ≤ 64 ∧ okAll l = true ∧ asc (sortP l) = true := by
  unfold sorE at h
  split at h
  · rename_i h1
    split at h
    · rename_i h2
      split at h
      · rename_i h3
        exact ⟨h1, h2, h3⟩
      · cases h
    · cases h
  · cases h
theorem take_len {m : Nat} (h : m ≤ l.length) : (l.take m).length = m := by rw [List.length_take]; omega
theorem ix_tk {l : List Sh} {i m : Nat} (h : i < m) : ix (l.take m) i = ix l i := by simp [ix, List.getD_eq_getElem?_getD, h]
end
/-! ### Already in order -/
theorem sortP_same {l : List Sh} (h : ∀ i j, i < j → j < l.length → (ix l i).1.toNat < (ix l j).1.toNat) : sortP l = l := by
  have hl := sortP_length l
  have P := sortP_perm l
  have nd : (PL l).Nodup := by
    show List.Pairwise _ _
    rw [List.pairwise_iff_getElem]
    intro i j hi hj hij e
    have hi' : i < l.length := by simpa using hi
    have hj' : j < l.length := by simpa using hj
    have := h i j hij hj'
    rw [ix_get hi', ix_get hj'] at this
    have e : l[i].1 = l[j].1 := by simpa using e
    rw [e] at this
    omega
  refine List.Perm.eq_of_pairwise (le := fun x y : Sh => x.1.toNat ≤ y.1.toNat) ?_ ?_ ?_ P
  · intro x y hx hy h1 h2
    obtain ⟨i, hi, rfl⟩ := List.mem_iff_getElem.1 (P.mem_iff.1 hx)
    obtain ⟨j, hj, rfl⟩ := List.mem_iff_getElem.1 hy
    have e : (ix l i).1 = (ix l j).1 := by rw [ix_get hi, ix_get hj]; exact UInt64.toNat_inj.1 (Nat.le_antisymm h1 h2)
    have := nodup_ix nd hi hj e
    subst this
    rfl
  · rw [List.pairwise_iff_getElem]
    intro i j hi hj hij
    have := sortP_ord l i j hij (by omega)
    rwa [ix_get hi, ix_get hj] at this
  · rw [List.pairwise_iff_getElem]
    intro i j hi hj hij
    have := h i j hij hj
    rw [ix_get hi, ix_get hj] at this
    omega
end Go.Proofs.YtombphphaoeeiaaGreatDoor
