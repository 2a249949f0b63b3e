/- Ej: Ej0, Ej1, joined. -/
import Derived.Test.YteiifdpikcnbgaaGreatDoorEsM
import Derived.Test.YteiifdpikcnbgaaGreatDoorPrB
import Derived.Test.YteiifdpikcnbgaaGreatDoorSo6
import Derived.Test.YteiifdpikcnbgaaGreatDoorSvB
import Derived.Test.YteiifdpikcnbgaaGreatDoorDrT
/- What any as many as are needed open of what one has for all: the theorem of stage 25. No walk. -/
namespace Go.Proofs.YteiifdpikcnbgaaGreatDoor
open Go.RowKit
set_option linter.unusedSimpArgs false
set_option linter.unusedVariables false
open Prm (Q)
def ejP (lots : List Sh) (i : Nat) : Pr := (5 * (i : Int), powU 3 (ix lots i).2)
def ejL (lots : List Sh) (n : Nat) : List Pr := (List.range n).map (ejP lots)
theorem ejL_len (lots : List Sh) (n : Nat) : (ejL lots n).length = n := by simp [ejL]
theorem ejL_ix {lots : List Sh} {n i : Nat} (h : i < n) : ix (ejL lots n) i = ejP lots i := by simp [ejL, ix, List.getD_eq_getElem?_getD, h]
theorem ejL_zero (lots : List Sh) : ejL lots 0 = [] := rfl
theorem ejL_succ (lots : List Sh) (n : Nat) : ejL lots (n + 1) = ejL lots n ++ [ejP lots n] := by simp [ejL, List.range_succ]
theorem ejL_may (lots : List Sh) {n : Nat} (h : n ≤ 12) : may (ejL lots n) = true := may_list fun i hi => by
  rw [ejL_len] at hi
  rw [ejL_ix hi]
  refine ⟨?_, by show 5 * (i : Int) < 64; omega, _, rfl⟩
  cases i with
  | zero => rw [lastP_zero]; show (-1 : Int) < 5 * 0; decide
  | succ i => rw [lastP_succ, ejL_ix (by omega)]; show 5 * (i : Int) < 5 * ((i + 1 : Nat) : Int); omega
theorem ejP_may (lots : List Sh) {i : Nat} (h : i < 12) : may [ejP lots i] = true := may_list fun j hj => by
  have : j = 0 := by simpa using hj
  subst this
  refine ⟨?_, by show 5 * (i : Int) < 64; omega, _, rfl⟩
  rw [lastP_zero]
  show (-1 : Int) < 5 * (i : Int)
  omega
theorem ejL_is (lots : List Sh) {n i : Nat} (h : i < n) : isP (ejL lots n) (5 * (i : Int), powU 3 (ix lots i).2) = true := by
  unfold isP
  rw [decide_eq_true_eq]
  have := ix_mem (l := ejL lots n) (i := i) (by rw [ejL_len]; exact h)
  rw [ejL_ix h] at this
  exact this
/-! ### What chance gives -/
def ejOf (ch : UInt64) (i : Nat) : Nat → List UInt64
  | 0 => []
  | k + 1 => ejOf ch i k ++ [ch + UInt64.ofNat (i * (k + 1))]
def ejAn (ch : UInt64) : Nat → List UInt64
  | 0 => []
  | k + 1 => ejAn ch k ++ [ch ^^^ UInt64.ofNat (k + 1)]
theorem ejOf_zero (ch : UInt64) (i : Nat) : ejOf ch i 0 = [] := rfl
theorem ejAn_zero (ch : UInt64) : ejAn ch 0 = [] := rfl
theorem ejOf_succ (ch : UInt64) (i k : Nat) : ejOf ch i (k + 1) = ejOf ch i k ++ [ch + UInt64.ofNat (i * (k + 1))] := rfl
theorem ejAn_succ (ch : UInt64) (k : Nat) : ejAn ch (k + 1) = ejAn ch k ++ [ch ^^^ UInt64.ofNat (k + 1)] := rfl
theorem ejOf_length (ch : UInt64) (i k : Nat) : (ejOf ch i k).length = k := by
  induction k with
  | zero => rfl
  | succ k ih => simp [ejOf, ih]
theorem ejAn_length (ch : UInt64) (k : Nat) : (ejAn ch k).length = k := by
  induction k with
  | zero => rfl
  | succ k ih => simp [ejAn, ih]
/-! ### Box -/
theorem ej_bxOk (lots : List Sh) {n wh J : Nat} {g : Int} {of an : List UInt64} (hw : wh < n) (hn : n ≤ 8) (hJ : J < n) (h1 : 1 ≤ g) (h2 : g ≤ 1073741824) (lo : of.length = J) (la : an.length = J) :
    bxOk (5 * (wh : Int)) g ((J : Int) + 1) (ix lots wh).2 of.length an.length (ejL lots n) = true :=
  bxOk_spec.2 ⟨ejL_may lots (by omega), ejL_is lots hw, h1, h2, by omega, by rw [ejL_len]; omega, by omega, by omega⟩
theorem ej_box (lots : List Sh) {n wh J : Nat} {g : Int} {of an : List UInt64} (self : UInt64) (hw : wh < n) (hn : n ≤ 8) (hJ : J < n) (h1 : 1 ≤ g) (h2 : g ≤ 1073741824) (lo : of.length = J) (la : an.length = J) :
    bxErr (5 * (wh : Int)) g ((J : Int) + 1) (ix lots wh).2 of.length an.length (ejL lots n) = .nilIface ∧
    bxOut (5 * (wh : Int)) g ((J : Int) + 1) self (ix lots wh).2 of an (ejL lots n) = bxTo (self :: of) ((ix lots wh).2 :: an) (5 * (wh : Int)) g (ix lots wh).2 (ejL lots n) n := by
  obtain ⟨e1, e2⟩ := bx_yes (ej_bxOk lots hw hn hJ h1 h2 lo la) self
  refine ⟨e1, ?_⟩
  rw [e2, ejL_len, show ((J : Int) + 1 - 1).toNat = J from by omega, List.take_of_length_le (by omega), List.take_of_length_le (by omega)]
theorem bxTo_at (a b : List UInt64) (me g : Int) (key : UInt64) (l : List Pr) : ∀ n i, i < n → ix (bxTo a b me g key l n) (2 * i) = bxV a me g key (ix l i) 0 ∧ ix (bxTo a b me g key l n) (2 * i + 1) = bxV b me g key (ix l i) 1
  | 0, i, h => by omega
  | n + 1, i, h => by
    have hl := bxTo_length a b me g key l n
    rw [bxTo_succ]
    by_cases e : i = n
    · subst e
      constructor
      · simp [ix, List.getD_eq_getElem?_getD, List.getElem?_append_right, hl]
      · simp [ix, List.getD_eq_getElem?_getD, List.getElem?_append_right, hl]
    · have ih := bxTo_at a b me g key l n i (by omega)
      have h1 : ∀ (ys : List UInt64) j, j < 2 * n → ix (bxTo a b me g key l n ++ ys) j = ix (bxTo a b me g key l n) j := fun ys j hj => by
        simp [ix, List.getD_eq_getElem?_getD, List.getElem?_append_left (show j < (bxTo a b me g key l n).length by rw [hl]; exact hj)]
      rw [h1 _ _ (by omega), h1 _ _ (by omega)]
      exact ih
theorem add_lt (a b : UInt64) : (addU a b).toNat < 2305843009213693951 := by rw [addU_toNat]; exact Nat.mod_lt _ (by decide)
theorem not_le_P {a : UInt64} (h : a.toNat < 2305843009213693951) : ¬ fpP ≤ a := fun g => by
  have := UInt64.le_iff_toNat_le.1 g
  have e : fpP.toNat = 2305843009213693951 := rfl
  omega
theorem poly_lt (c : List UInt64) (x : UInt64) : (polyU c x).toNat < 2305843009213693951 := by rw [polyU_toNat]; exact Nat.mod_lt _ (by decide)
theorem sub_add {a h : UInt64} (ha : a.toNat < 2305843009213693951) : subU (addU a h) h = a := by
  refine qU_inj (by rw [subU_toNat]; exact Nat.mod_lt _ (by decide)) ha ?_
  rw [qU_sub, qU_add]
  grind
theorem bxV_lt (c : List UInt64) (me g : Int) (key : UInt64) (p : Pr) (i : Nat) : (bxV c me g key p i).toNat < 2305843009213693951 := by
  unfold bxV
  exact add_lt _ _
theorem ej_open (lots : List Sh) {i wh : Nat} {g : Int} {t0 t1 : UInt64} (hi : i < 8) (hw : wh < 8) (h1 : 1 ≤ g) (h2 : g ≤ 1073741824) (l0 : t0.toNat < 2305843009213693951) (l1 : t1.toNat < 2305843009213693951) : eopOk (5 * (i : Int)) g (ejP lots wh) t0 t1 = true :=
  eopOk_spec.2 ⟨ejP_may lots (by omega), by omega, by omega, h1, h2, not_le_P l0, not_le_P l1⟩
/-- What is opened is the curve's value. -/
theorem ej_val (lots : List Sh) {i wh : Nat} {g : Int} (fa : List UInt64) (j : Nat) : subU (bxV fa (5 * (wh : Int)) g (ix lots wh).2 (ejP lots i) j) (hidU (powU (ejP lots wh).2 (ix lots i).2) (ejP lots wh).1.toNat (5 * (i : Int)).toNat g.toNat j) = polyU fa (atU (5 * (i : Int))) := by
  unfold bxV
  have e : powU (ejP lots wh).2 (ix lots i).2 = powU (ejP lots i).2 (ix lots wh).2 := powU_comm _ _
  rw [e]
  exact sub_add (poly_lt _ _)
/-! ### Join -/
def ejS (c : List UInt64) (n : Nat) : List Sh := (List.range n).map fun (i : Nat) => (atU (5 * (i : Int)), polyU c (atU (5 * (i : Int))))
theorem ejS_zero (c : List UInt64) : ejS c 0 = [] := rfl
theorem ejS_succ (c : List UInt64) (n : Nat) : ejS c (n + 1) = ejS c n ++ [(atU (5 * (n : Int)), polyU c (atU (5 * (n : Int))))] := by simp [ejS, List.range_succ]
theorem ejS_len (c : List UInt64) (n : Nat) : (ejS c n).length = n := by simp [ejS]
theorem ofInt_natE (m : Nat) (h : m < 1000) : UInt64.ofInt (m : Int) = UInt64.ofNat m := by
  rw [← UInt64.toNat_inj, UInt64.toNat_ofNat']
  simp [UInt64.ofInt, UInt64.toNat_ofNat']
  omega
theorem at_nat {i : Nat} (h : i < 12) : (atU (5 * (i : Int))).toNat = 5 * i + 1 := by
  unfold atU
  have e0 : 5 * (i : Int) = ((5 * i : Nat) : Int) := by omega
  have h1 : (1 : UInt64).toNat = 1 := rfl
  rw [e0, ofInt_natE _ (by omega), UInt64.toNat_add, UInt64.toNat_ofNat', h1]
  omega
theorem ejS_ok (c : List UInt64) {n : Nat} (hn : n ≤ 12) : okAll (ejS c n) = true := okAll_iff.2 fun s hs => by
  obtain ⟨i, hi, rfl⟩ := List.mem_map.1 hs
  rw [List.mem_range] at hi
  have h1 := at_nat (i := i) (by omega)
  refine ⟨fun h => ?_, ?_, poly_lt _ _⟩
  · have := congrArg UInt64.toNat h
    rw [h1] at this
    cases this
  · show (atU _).toNat < _
    omega
theorem ejS_nodup (c : List UInt64) {n : Nat} (hn : n ≤ 12) : (PL (ejS c n)).Nodup := by
  show List.Pairwise _ (List.map _ (List.map _ _))
  rw [List.pairwise_map, List.pairwise_map]
  refine List.nodup_range.imp_of_mem ?_
  intro i j hi hj hne e
  rw [List.mem_range] at hi hj
  have e : atU (5 * (i : Int)) = atU (5 * (j : Int)) := e
  have := congrArg UInt64.toNat e
  rw [at_nat (by omega), at_nat (by omega)] at this
  omega
theorem ejS_curve (c : List UInt64) (n : Nat) : ∀ s ∈ ejS c n, qU s.2 = Prm.ev (c.map qU) (qU s.1) := fun s hs => by
  obtain ⟨i, hi, rfl⟩ := List.mem_map.1 hs
  exact qU_poly c _
theorem ej_join (x : UInt64) (cs : List UInt64) {n J : Nat} (l : List Sh) (hc : cs.length = J) (hJ : J < l.length) (hn : n ≤ 12) (hl : l.Sublist (ejS (x :: cs) n)) : joiE l ((J : Int) + 1) = 0 ∧ joiU l ((J : Int) + 1) = x % fpP := by
  have hs : ∀ s ∈ l, s ∈ ejS (x :: cs) n := fun s h => hl.subset h
  have hlen : l.length ≤ n := by have := hl.length_le; rwa [ejS_len] at this
  have nd : (PL l).Nodup := (ejS_nodup (x :: cs) hn).sublist (hl.map _)
  obtain ⟨h1, h2, h3⟩ := join_curve (l := l) ((x :: cs).map qU) (J + 1) (by rw [List.length_map, List.length_cons]; omega) (by omega) (by omega) (by omega) (okAll_iff.2 fun s h => okAll_iff.1 (ejS_ok (x :: cs) hn) s (hs s h)) nd (sub_curve (ejS_curve (x :: cs) n) hs)
  rw [Int.natCast_add] at h1 h2 h3
  refine ⟨h1, qU_inj h3 (by rw [modP_toNat]; exact Nat.mod_lt _ (by decide)) ?_⟩
  have e0 : qU 0 = 0 := rfl
  have : Prm.ev ((x :: cs).map qU) (qU 0) = qU x := by
    show qU x + qU 0 * Prm.ev (cs.map qU) (qU 0) = qU x
    rw [e0]
    grind
  have h2 : qU (joiU l ((J : Int) + 1)) = _ := h2
  rw [h2, this, qU_mod]
end Go.Proofs.YteiifdpikcnbgaaGreatDoor
/- EscrowJoins walked. -/
namespace Go.Proofs.YteiifdpikcnbgaaGreatDoor
open Go.RowKit
set_option linter.unusedSimpArgs false
set_option linter.unusedVariables false
/-! ### Lots, with what chance gives as it lies -/
structure Lt where
  a : UInt64
  b : UInt64
  A1 : Option Addr
  c1 : Nat
  l1 : List UInt64
  A2 : Option Addr
  c2 : Nat
  l2 : List UInt64
deriving Inhabited
def Lt.f1 (t : Lt) : Fct := ⟨.slice t.A1 t.l1.length t.c1, t.l1.length, t.l1.map vU64⟩
def Lt.f2 (t : Lt) : Fct := ⟨.slice t.A2 t.l2.length t.c2, t.l2.length, t.l2.map vU64⟩
def Lt.cs (t : Lt) : List At := [.v (vU64 t.a), .v (vU64 t.b), .v (.slice t.A1 t.l1.length t.c1), .v (.slice t.A2 t.l2.length t.c2)]
def ltc (L : List Lt) : List At := L.flatMap Lt.cs
theorem ltc_nil : ltc [] = [] := rfl
theorem ltc_cons (t : Lt) (L : List Lt) : ltc (t :: L) = .v (vU64 t.a) :: .v (vU64 t.b) :: .v (.slice t.A1 t.l1.length t.c1) :: .v (.slice t.A2 t.l2.length t.c2) :: ltc L := rfl
theorem ltc_app (L M : List Lt) : ltc (L ++ M) = ltc L ++ ltc M := by unfold ltc; rw [List.flatMap_append]
theorem ltc_snoc (L : List Lt) (t : Lt) : ltc L ++ [.v (vU64 t.a), .v (vU64 t.b), .v (.slice t.A1 t.l1.length t.c1), .v (.slice t.A2 t.l2.length t.c2)] = ltc (L ++ [t]) := by
  rw [ltc_app, ltc_cons, ltc_nil]
theorem ltc_len (L : List Lt) : (ltc L).length = L.length * 4 := by
  induction L with
  | nil => rfl
  | cons t L ih => rw [ltc_cons]; simp only [List.length_cons, ih]; omega
theorem ltc_ren (ρ : List Nat) (L : List Lt) : (ltc L).map (At.ren ρ) = ltc L := by
  induction L with
  | nil => rfl
  | cons t L ih => rw [ltc_cons]; simp only [List.map_cons, ih]; rfl
theorem ltc_sub (j : Nat) (v : Value) (L : List Lt) : (ltc L).map (At.sub j v) = ltc L := by
  induction L with
  | nil => rfl
  | cons t L ih => rw [ltc_cons]; simp only [List.map_cons, ih]; rfl
theorem ltc_forall {Q : At → Prop} (L : List Lt) : (∀ x ∈ ltc L, Q x) = ∀ t ∈ L, Q (.v (vU64 t.a)) ∧ Q (.v (vU64 t.b)) ∧ Q (.v (.slice t.A1 t.l1.length t.c1)) ∧ Q (.v (.slice t.A2 t.l2.length t.c2)) := by
  apply propext
  induction L with
  | nil => simp [ltc_nil]
  | cons t L ih =>
    rw [ltc_cons, List.forall_mem_cons, List.forall_mem_cons, List.forall_mem_cons, List.forall_mem_cons, List.forall_mem_cons, ih, and_assoc, and_assoc, and_assoc]
theorem ltc_get1 (L : List Lt) (i : Nat) (h : i < L.length) (x : At) : (ltc L).getD (i * 4 + 1) x = .v (vU64 (ix L i).b) := by
  induction L generalizing i with
  | nil => simp at h
  | cons t L ih =>
    cases i with
    | zero => rw [ltc_cons]; rfl
    | succ i =>
      rw [ltc_cons, show (i + 1) * 4 + 1 = i * 4 + 1 + 1 + 1 + 1 + 1 from by omega, List.getD_cons_succ, List.getD_cons_succ, List.getD_cons_succ, List.getD_cons_succ, ih i (by simpa using h)]
      rfl
theorem ltc_part (L : List Lt) (i : Nat) (h : i < L.length) : List.take 4 (List.drop (i * 4) (ltc L)) = [.v (vU64 (ix L i).a), .v (vU64 (ix L i).b), .v (.slice (ix L i).A1 (ix L i).l1.length (ix L i).c1), .v (.slice (ix L i).A2 (ix L i).l2.length (ix L i).c2)] := by
  induction L generalizing i with
  | nil => simp at h
  | cons t L ih =>
    cases i with
    | zero => rw [ltc_cons]; rfl
    | succ i =>
      rw [ltc_cons, show (i + 1) * 4 = i * 4 + 1 + 1 + 1 + 1 from by omega, List.drop_succ_cons, List.drop_succ_cons, List.drop_succ_cons, List.drop_succ_cons, ih i (by simpa using h)]
      rfl
theorem quart (n : Nat) : n * 4 / 4 = n := Nat.mul_div_cancel n (by omega)
attribute [push_cast] ltc_ren ltc_len ltc_forall
theorem shows_fct {w0 : World} {hp : List Res} {kf : Nat} {Fs : List Fct} {A : Option Addr} {c : Nat} {l : List UInt64} (hF : hp[kf]? = some (.abs (fctRep Fs))) (hf : (⟨.slice A l.length c, l.length, l.map vU64⟩ : Fct) ∈ Fs) : Shows w0 No hp (.x (.a (.v (.slice A l.length c)))) (l.map vU64) := fun γ w hS => by
  obtain ⟨A', c', g1, g2, g3, g4⟩ := fct_rd hS hF hf
  cases g1
  exact ⟨A, c, by rw [List.length_map]; rfl, by rw [List.length_map]; exact g2, g4⟩
theorem sub_pcsE (j : Nat) (v : Value) (l : List Pr) : (pcs l).map (At.sub j v) = pcs l := by
  induction l with
  | nil => rw [pcs_nil]; rfl
  | cons p l ih => rw [pcs_cons, List.map_cons, List.map_cons, ih]; rfl
theorem ix_snocE {α : Type} [Inhabited α] (L : List α) (y : α) : ix (L ++ [y]) L.length = y := by simp [ix, List.getD_eq_getElem?_getD]
theorem ix_snocL {α : Type} [Inhabited α] (L : List α) (y : α) {j : Nat} (h : j < L.length) : ix (L ++ [y]) j = ix L j := by simp [ix, List.getD_eq_getElem?_getD, List.getElem?_append_left h]
theorem pcs_get0E (l : List Pr) (i : Nat) (h : i < l.length) (x : At) : (pcs l).getD (i * 2) x = .v (.int .i64 (ix l i).1) := by
  induction l generalizing i with
  | nil => simp at h
  | cons p l ih =>
    cases i with
    | zero => rw [pcs_cons]; rfl
    | succ i =>
      rw [pcs_cons, show (i + 1) * 2 = i * 2 + 1 + 1 from by omega, List.getD_cons_succ, List.getD_cons_succ, ih i (by simpa using h)]
      rfl
theorem pcs_partE (l : List Pr) (i : Nat) (h : i < l.length) : List.take 2 (List.drop (i * 2) (pcs l)) = [.v (.int .i64 (ix l i).1), .v (vU64 (ix l i).2)] := by
  induction l generalizing i with
  | nil => simp at h
  | cons p l ih =>
    cases i with
    | zero => rw [pcs_cons]; rfl
    | succ i =>
      rw [pcs_cons, show (i + 1) * 2 = i * 2 + 1 + 1 from by omega, List.drop_succ_cons, List.drop_succ_cons, ih i (by simpa using h)]
      rfl
theorem shs_drop (l : List Sh) (m : Nat) : (shs l).drop (m * 2) = shs (l.drop m) := by
  induction l generalizing m with
  | nil => simp [shs]
  | cons p l ih =>
    cases m with
    | zero => simp
    | succ m =>
      rw [show (m + 1) * 2 = m * 2 + 1 + 1 from by omega]
      show (shs l).drop (m * 2) = shs (l.drop m)
      rw [ih]
theorem rshc_drop {w0 : World} {ow : Nat → Prop} {hp : List Res} {k n : Nat} {e : TypeId} {L : List Sh} (a : Nat) (hr : hp[k]? = some (.onn e 2 (.c (shc L)))) (hl : L.length = n) (ha : a ≤ n) : ShowsR w0 ow hp (.x (.a (.y k 2 a (n - a)))) (L.drop a).length (shs (L.drop a)) := by
  have := showsR_y (w0 := w0) (ow := ow) (vs := shs L) a (n - a) hr (fun γ => shc_vals γ L) (by rw [shs_len, hl]; omega)
  rw [shs_drop, show n - a = (L.drop a).length from by rw [List.length_drop, hl], ← shs_len, List.take_length] at this
  rwa [show n - a = (L.drop a).length from by rw [List.length_drop, hl]]
attribute [local irreducible] Callable CallOK CallG CallM DrawG LoopG symR symM
attribute [local irreducible] ltc shc seenU metU apartU prU wtU wtsU thU powU polyU sortP polyN addU subU sumTo joiU joiE sorE may isP bxErr bxOut bxOk bxTo bxV hidU atU eopErr eopX eopY eopOk ejOf ejAn ejL ejS
set_option maxRecDepth 100000 in
set_option maxHeartbeats 8000000 in
theorem joins_any (lots : List Sh) (A : Option Addr) (c : Nat) (ch : UInt64) (o0 o1 o2 : UInt8) (w : World) (hc : lots.length ≤ c) (hR : RdV w w.heap.size A (shs lots)) (hk : LaidK 4 w) (hg : Handle w) (hw : TabW w) :
    Calls Tryz.prog 3 (List.map (Sv.val []) [(.x (.a (.v (.slice A lots.length c)))), .x (.a (.v (vU64 ch))), .x (.a8 [o0, o1, o2])]).toArray w fun e w' => e = .returned (.bool true) ∧ Below w.heap.size w w' := by
  have F := FS2.of hR
  refine calls_v (n := 223) Tryz.func3 rfl Tryz.ntmps3 [(.x (.a (.v (.slice A lots.length c)))), .x (.a (.v (vU64 ch))), .x (.a8 [o0, o1, o2])] (by simp) (.x (.a (.v (.bool true)))) (fun _ => rfl) ?_
  by_cases g0 : (lots.length : Int) = 0
  · simp (config := { maxSteps := 2000000 }) only [g0, undef, push_cast, ↓Int.toNat_natCast, ↓Int.cast_ofNat_Int, Int.cast_ofNat_Int, ↓reduceIte, reduceCtorEq, Nat.reduceEqDiff, Nat.reduceLT, Nat.reduceLeDiff, Nat.reduceAdd, Nat.reduceSub, Nat.reduceMul, Int.reduceNeg, Int.reduceLE, Int.reduceLT, Int.reduceToNat, Int.reduceAdd, Int.reduceSub, Int.reduceMul, Int.reduceEq]
    refine callG_v rfl cb5 rfl (sure25OK hk hg hw) (dOk_lt rfl) ?_
    simp (config := { maxSteps := 2000000 }) only [undef, push_cast, ↓Int.toNat_natCast, ↓Int.cast_ofNat_Int, Int.cast_ofNat_Int, ↓reduceIte, reduceCtorEq, Nat.reduceEqDiff, Nat.reduceLT, Nat.reduceLeDiff, Nat.reduceAdd, Nat.reduceSub, Nat.reduceMul, Int.reduceNeg, Int.reduceLE, Int.reduceLT, Int.reduceToNat, Int.reduceAdd, Int.reduceSub, Int.reduceMul, Int.reduceEq]
  by_cases g8 : (8 : Int) < lots.length
  · simp (config := { maxSteps := 2000000 }) only [g0, g8, undef, push_cast, ↓Int.toNat_natCast, ↓Int.cast_ofNat_Int, Int.cast_ofNat_Int, ↓reduceIte, reduceCtorEq, Nat.reduceEqDiff, Nat.reduceLT, Nat.reduceLeDiff, Nat.reduceAdd, Nat.reduceSub, Nat.reduceMul, Int.reduceNeg, Int.reduceLE, Int.reduceLT, Int.reduceToNat, Int.reduceAdd, Int.reduceSub, Int.reduceMul, Int.reduceEq]
    refine callG_v rfl cb5 rfl (sure25OK hk hg hw) (dOk_lt rfl) ?_
    simp (config := { maxSteps := 2000000 }) only [undef, push_cast, ↓Int.toNat_natCast, ↓Int.cast_ofNat_Int, Int.cast_ofNat_Int, ↓reduceIte, reduceCtorEq, Nat.reduceEqDiff, Nat.reduceLT, Nat.reduceLeDiff, Nat.reduceAdd, Nat.reduceSub, Nat.reduceMul, Int.reduceNeg, Int.reduceLE, Int.reduceLT, Int.reduceToNat, Int.reduceAdd, Int.reduceSub, Int.reduceMul, Int.reduceEq]
  simp (config := { maxSteps := 2000000 }) only [g0, g8, undef, push_cast, ↓Int.toNat_natCast, ↓Int.cast_ofNat_Int, Int.cast_ofNat_Int, ↓reduceIte, reduceCtorEq, Nat.reduceEqDiff, Nat.reduceLT, Nat.reduceLeDiff, Nat.reduceAdd, Nat.reduceSub, Nat.reduceMul, Int.reduceNeg, Int.reduceLE, Int.reduceLT, Int.reduceToNat, Int.reduceAdd, Int.reduceSub, Int.reduceMul, Int.reduceEq]
  (repeat (refine And.intro (by first | omega | decide) ?_))
  refine draw_rule [(0, true), (1, true), (2, true), (3, true), (4, true), (5, true), (6, true), (7, true), (8, true), (9, true), (10, true), (11, true)] (by kernel_rfl) (by kernel_rfl) rfl (by kernel_rfl) ?_
  have hJ0 : (n8 (ix [o0, o1, o2] 0)).tmod (lots.length : Int) = ((o0.toNat % lots.length : Nat) : Int) := by
    show ((o0.toNat : Nat) : Int).tmod _ = _
    rw [← Int.ofNat_tmod]
  have hJn : o0.toNat % lots.length < lots.length := Nat.mod_lt _ (by omega)
  generalize o0.toNat % lots.length = J at *
  obtain ⟨g, hg1⟩ : ∃ g : Int, 1 + n8 (ix [o0, o1, o2] 1) = g := ⟨_, rfl⟩
  have hgl : 1 ≤ g ∧ g ≤ 256 := by
    have h1 : n8 (ix [o0, o1, o2] 1) = (o1.toNat : Int) := rfl
    have h2 := o1.toNat_lt
    omega
  have hg0 : (-9223372036854775808 : Int) ≤ g := by omega
  have hg2 : g ≤ 9223372036854775807 := by omega
  have hn8 : lots.length ≤ 8 := by omega
  simp (config := { maxSteps := 2000000 }) only [g0, hJ0, hg1, hg0, hg2, undef, push_cast, ↓Int.toNat_natCast, ↓Int.cast_ofNat_Int, Int.cast_ofNat_Int, ↓reduceIte, reduceCtorEq, Nat.reduceEqDiff, Nat.reduceLT, Nat.reduceLeDiff, Nat.reduceAdd, Nat.reduceSub, Nat.reduceMul, Int.reduceNeg, Int.reduceLE, Int.reduceLT, Int.reduceToNat, Int.reduceAdd, Int.reduceSub, Int.reduceMul, Int.reduceEq]
  (repeat (refine And.intro (by first | omega | decide) ?_))
  refine loop_ghostN 10 34 2 (.c []) (by omega) rfl rfl (by simp only [push_cast, ↓Int.toNat_natCast, ↓Int.cast_ofNat_Int, Int.cast_ofNat_Int, ↓reduceIte, reduceCtorEq, Nat.reduceEqDiff, Nat.reduceLT, Nat.reduceLeDiff, Nat.reduceAdd, Nat.reduceSub, Nat.reduceMul, Int.reduceNeg, Int.reduceLE, Int.reduceLT, Int.reduceToNat, Int.reduceAdd, Int.reduceSub, Int.reduceMul, Int.reduceEq]) ?_
  refine loop_ghostN 11 31 4 (.c []) (by omega) rfl rfl (by simp only [push_cast, ↓Int.toNat_natCast, ↓Int.cast_ofNat_Int, Int.cast_ofNat_Int, ↓reduceIte, reduceCtorEq, Nat.reduceEqDiff, Nat.reduceLT, Nat.reduceLeDiff, Nat.reduceAdd, Nat.reduceSub, Nat.reduceMul, Int.reduceNeg, Int.reduceLE, Int.reduceLT, Int.reduceToNat, Int.reduceAdd, Int.reduceSub, Int.reduceMul, Int.reduceEq]) ?_
  refine loop_fct (by simp only [push_cast, ↓Int.toNat_natCast, ↓Int.cast_ofNat_Int, Int.cast_ofNat_Int, ↓reduceIte, reduceCtorEq, Nat.reduceEqDiff, Nat.reduceLT, Nat.reduceLeDiff, Nat.reduceAdd, Nat.reduceSub, Nat.reduceMul, Int.reduceNeg, Int.reduceLE, Int.reduceLT, Int.reduceToNat, Int.reduceAdd, Int.reduceSub, Int.reduceMul, Int.reduceEq]) ?_
  refine loop_rule (ι := Nat × List Lt × List Fct) (fun x => ⟨[(0, (.x (.a (.v (.slice A lots.length c))))), (1, .x (.a (.v (vU64 ch)))), (5, (.x (.a (.p 0 0)))), (7, (.x (.a (.v (.int .i64 lots.length))))), (8, (.x (.a (.v (.int .i64 (1 + (J : Int))))))), (9, (.x (.a (.v (.int .i64 g))))), (10, .x (.a (.o 1))), (11, .x (.a (.o 2))), (12, .x (.a (.v (.int .i64 x.1))))], [(.blk 24 (.u8 [o0, o1, o2])), .onn 34 2 (.c (pcs (ejL lots x.1))), .onn 31 4 (.c (ltc x.2.1)), .abs (fctRep x.2.2)]⟩)
    (fun x => x.1 ≤ lots.length ∧ x.2.1.length = x.1 ∧ (∀ j, j < x.1 → (ix x.2.1 j).a = (ix lots j).1 ∧ (ix x.2.1 j).b = (ix lots j).2 ∧ (ix x.2.1 j).l1 = ejOf ch j J ∧ (ix x.2.1 j).l2 = ejAn ch J ∧ (ix x.2.1 j).f1 ∈ x.2.2 ∧ (ix x.2.1 j).f2 ∈ x.2.2)) (fun x => lots.length - x.1) (0, [], []) [0, 1, 2, 3] ⟨Nat.zero_le _, rfl, fun j h => absurd h (Nat.not_lt_zero _)⟩ ?_ ?_
  · simp (config := { maxSteps := 2000000 }) only [ejL_zero, ltc_nil, pcs_nil, push_cast, ↓Int.toNat_natCast, ↓Int.cast_ofNat_Int, Int.cast_ofNat_Int, ↓reduceIte, reduceCtorEq, Nat.reduceEqDiff, Nat.reduceLT, Nat.reduceLeDiff, Nat.reduceAdd, Nat.reduceSub, Nat.reduceMul, Int.reduceNeg, Int.reduceLE, Int.reduceLT, Int.reduceToNat, Int.reduceAdd, Int.reduceSub, Int.reduceMul, Int.reduceEq]
  · rintro ⟨i, L, Fs⟩ ⟨hi, hL, hI⟩
    dsimp only at hi hL hI ⊢
    by_cases hlt : (i : Int) < lots.length
    · have i0 : (0 : Int) ≤ i := by omega
      have c0 := F.c0 i (by omega)
      have c1 := F.c1 i (by omega)
      have o0' := F.ok0 i (by omega)
      have o1' := F.ok1 i (by omega)
      have hA := F.some_ (by omega)
      simp (config := { maxSteps := 2000000 }) only [hlt, undef, push_cast, ↓Int.toNat_natCast, ↓Int.cast_ofNat_Int, Int.cast_ofNat_Int, ↓reduceIte, reduceCtorEq, Nat.reduceEqDiff, Nat.reduceLT, Nat.reduceLeDiff, Nat.reduceAdd, Nat.reduceSub, Nat.reduceMul, Int.reduceNeg, Int.reduceLE, Int.reduceLT, Int.reduceToNat, Int.reduceAdd, Int.reduceSub, Int.reduceMul, Int.reduceEq]
      (repeat (refine And.intro (by first | omega | decide) ?_))
      refine drawT_rule 12 [(0, true), (1, true), (2, true), (3, true), (4, true), (5, true), (6, true), (7, true), (8, true), (9, true), (10, true), (11, false)] (by kernel_rfl) (by kernel_rfl) ?_
      simp (config := { maxSteps := 2000000 }) only [hlt, i0, c0, c1, o0', o1', hA, pAdd_zero, pAdd_add, pAdd_isSome, undef, push_cast, ↓Int.toNat_natCast, ↓Int.cast_ofNat_Int, Int.cast_ofNat_Int, ↓reduceIte, reduceCtorEq, Nat.reduceEqDiff, Nat.reduceLT, Nat.reduceLeDiff, Nat.reduceAdd, Nat.reduceSub, Nat.reduceMul, Int.reduceNeg, Int.reduceLE, Int.reduceLT, Int.reduceToNat, Int.reduceAdd, Int.reduceSub, Int.reduceMul, Int.reduceEq]
      (repeat (refine And.intro (by first | omega | decide) ?_))
      refine loop_ghostC 4 2 31 23 _ (.u64 []) rfl rfl rfl trivial (by simp only [push_cast, ↓Int.toNat_natCast, ↓Int.cast_ofNat_Int, Int.cast_ofNat_Int, ↓reduceIte, reduceCtorEq, Nat.reduceEqDiff, Nat.reduceLT, Nat.reduceLeDiff, Nat.reduceAdd, Nat.reduceSub, Nat.reduceMul, Int.reduceNeg, Int.reduceLE, Int.reduceLT, Int.reduceToNat, Int.reduceAdd, Int.reduceSub, Int.reduceMul, Int.reduceEq]) ?_
      simp (config := { maxSteps := 2000000 }) only [push_cast, ↓Int.toNat_natCast, ↓Int.cast_ofNat_Int, Int.cast_ofNat_Int, ↓reduceIte, reduceCtorEq, Nat.reduceEqDiff, Nat.reduceLT, Nat.reduceLeDiff, Nat.reduceAdd, Nat.reduceSub, Nat.reduceMul, Int.reduceNeg, Int.reduceLE, Int.reduceLT, Int.reduceToNat, Int.reduceAdd, Int.reduceSub, Int.reduceMul, Int.reduceEq]
      refine loop_ghostC 4 3 31 23 _ (.u64 []) rfl rfl rfl trivial (by simp only [push_cast, ↓Int.toNat_natCast, ↓Int.cast_ofNat_Int, Int.cast_ofNat_Int, ↓reduceIte, reduceCtorEq, Nat.reduceEqDiff, Nat.reduceLT, Nat.reduceLeDiff, Nat.reduceAdd, Nat.reduceSub, Nat.reduceMul, Int.reduceNeg, Int.reduceLE, Int.reduceLT, Int.reduceToNat, Int.reduceAdd, Int.reduceSub, Int.reduceMul, Int.reduceEq]) ?_
      simp (config := { maxSteps := 2000000 }) only [push_cast, ↓Int.toNat_natCast, ↓Int.cast_ofNat_Int, Int.cast_ofNat_Int, ↓reduceIte, reduceCtorEq, Nat.reduceEqDiff, Nat.reduceLT, Nat.reduceLeDiff, Nat.reduceAdd, Nat.reduceSub, Nat.reduceMul, Int.reduceNeg, Int.reduceLE, Int.reduceLT, Int.reduceToNat, Int.reduceAdd, Int.reduceSub, Int.reduceMul, Int.reduceEq]
      refine loop_rule (ι := Nat) (fun k => ⟨[(0, (.x (.a (.v (.slice A lots.length c))))), (1, .x (.a (.v (vU64 ch)))), (5, (.x (.a (.p 0 0)))), (7, (.x (.a (.v (.int .i64 lots.length))))), (8, (.x (.a (.v (.int .i64 (1 + (J : Int))))))), (9, (.x (.a (.v (.int .i64 g))))), (10, .x (.a (.o 1))), (11, .x (.a (.o 2))), (12, .x (.a (.v (.int .i64 i)))), (13, .x (.a (.p 4 0))), (14, .x (.a (.v (.int .i64 ((k : Int) + 1)))))], [(.blk 24 (.u8 [o0, o1, o2])), .onn 34 2 (.c (pcs (ejL lots i))), .onn 31 4 (.c (ltc L)), .abs (fctRep Fs), .blk 31 (.c [.v (vU64 (ix lots i).1), .v (vU64 (ix lots i).2), .o 5, .o 6]), .own 23 (.u64 (ejOf ch i k)), .own 23 (.u64 (ejAn ch k))]⟩) (fun k => k ≤ J) (fun k => J - k) 0 [0, 1, 2, 3, 4, 5, 6] (by omega) ?_ ?_
      · simp (config := { maxSteps := 2000000 }) only [ejOf_zero, ejAn_zero, push_cast, ↓Int.toNat_natCast, ↓Int.cast_ofNat_Int, Int.cast_ofNat_Int, ↓reduceIte, reduceCtorEq, Nat.reduceEqDiff, Nat.reduceLT, Nat.reduceLeDiff, Nat.reduceAdd, Nat.reduceSub, Nat.reduceMul, Int.reduceNeg, Int.reduceLE, Int.reduceLT, Int.reduceToNat, Int.reduceAdd, Int.reduceSub, Int.reduceMul, Int.reduceEq]
      · intro k hk
        by_cases hlk : (k : Int) + 1 < 1 + (J : Int)
        · simp (config := { maxSteps := 2000000 }) only [hlk, undef, push_cast, ↓Int.toNat_natCast, ↓Int.cast_ofNat_Int, Int.cast_ofNat_Int, ↓reduceIte, reduceCtorEq, Nat.reduceEqDiff, Nat.reduceLT, Nat.reduceLeDiff, Nat.reduceAdd, Nat.reduceSub, Nat.reduceMul, Int.reduceNeg, Int.reduceLE, Int.reduceLT, Int.reduceToNat, Int.reduceAdd, Int.reduceSub, Int.reduceMul, Int.reduceEq]
          (repeat (refine And.intro (by first | omega | decide) ?_))
          have lo := ejOf_length ch i k
          have la := ejAn_length ch k
          have b1 : (k + 1) * 8 ≤ 140737488355328 := by omega
          have b2 : k + 1 ≤ 2 ^ 63 - 1 := by omega
          have hm1 : (i : Int) * ((k : Int) + 1) ≤ 9 * 9 := by
            have h1 : (i : Int) ≤ 9 := by omega
            have h2 : (k : Int) + 1 ≤ 9 := by omega
            exact Int.mul_le_mul h1 h2 (by omega) (by omega)
          have hm0 : (0 : Int) ≤ (i : Int) * ((k : Int) + 1) := Int.mul_nonneg i0 (by omega)
          have hm2 : (-9223372036854775808 : Int) ≤ (i : Int) * ((k : Int) + 1) := by omega
          have hm3 : (i : Int) * ((k : Int) + 1) ≤ 9223372036854775807 := by omega
          have ho1 : UInt64.ofInt ((i : Int) * ((k : Int) + 1)) = UInt64.ofNat (i * (k + 1)) := by
            have := ofInt_natE (i * (k + 1)) (by
              have h1 : i ≤ 9 := by omega
              have h2 : k + 1 ≤ 9 := by omega
              have := Nat.mul_le_mul h1 h2
              omega)
            rwa [Int.natCast_mul, Int.natCast_add] at this
          have ho2 : UInt64.ofInt ((k : Int) + 1) = UInt64.ofNat (k + 1) := by
            have := ofInt_natE (k + 1) (by omega)
            rwa [Int.natCast_add] at this
          have hs1 := (ejOf_succ ch i k).symm
          have hs2 := (ejAn_succ ch k).symm
          refine drawVT_rule 7 [5, 6] 19 (.rd 0 (.rd 1 (.rd 2 (.rd 3 (.rd 4 (.rd 5 (.rd 6 (.rd 7 (.rd 10 (.rd 11 (.rd 12 (.rd 13 (.rd 14 (.rd 15 (.fk 8 (.fk 9 (.rd 18 (.wr 16 (.wr 17 .nil))) 16 (.wr 9 (.rd 18 (.wr 17 .nil)))) 16 (.wr 8 (.wr 9 (.rd 18 (.wr 17 .nil))))))))))))))))))) ⟨[(0, (.x (.a (.v (.slice A lots.length c))))), (1, .x (.a (.v (vU64 ch)))), (5, (.x (.a (.p 0 0)))), (7, (.x (.a (.v (.int .i64 lots.length))))), (8, (.x (.a (.v (.int .i64 (1 + (J : Int))))))), (9, (.x (.a (.v (.int .i64 g))))), (10, .x (.a (.o 1))), (11, .x (.a (.o 2))), (12, .x (.a (.v (.int .i64 i)))), (13, .x (.a (.p 4 0))), (14, .x (.a (.v (.int .i64 ((k : Int) + 1))))), (76, .x (.a (.o 5))), (84, .x (.a (.o 6))), (85, .x (.a (.p 4 2)))], [(.blk 24 (.u8 [o0, o1, o2])), .onn 34 2 (.c (pcs (ejL lots i))), .onn 31 4 (.c (ltc L)), .abs (fctRep Fs), .blk 31 (.c [.v (vU64 (ix lots i).1), .v (vU64 (ix lots i).2), .o 7, .o 8]), .own 23 (.u64 (ejOf ch i (k + 1))), .own 23 (.u64 (ejAn ch (k + 1))), .gone, .gone]⟩ (by kernel_rfl) (by kernel_rfl) (Nat.le_add_left 7 0) ?_ ?_
          · simp (config := { maxSteps := 2000000 }) only [hlk, i0, lo, la, b1, b2, hm2, hm3, ho1, ho2, hs1, hs2, undef, push_cast, ↓Int.toNat_natCast, ↓Int.cast_ofNat_Int, Int.cast_ofNat_Int, ↓reduceIte, reduceCtorEq, Nat.reduceEqDiff, Nat.reduceLT, Nat.reduceLeDiff, Nat.reduceAdd, Nat.reduceSub, Nat.reduceMul, Int.reduceNeg, Int.reduceLE, Int.reduceLT, Int.reduceToNat, Int.reduceAdd, Int.reduceSub, Int.reduceMul, Int.reduceEq]
            (repeat (refine And.intro (by first | omega | decide) ?_))
            repeat' refine And.intro ?_ ?_
            all_goals first | (refine leads_le [0, 1, 2, 3, 4, 8, 10, 5, 6] ?_; (simp (config := { maxSteps := 2000000 }) only [push_cast, ↓Int.toNat_natCast, ↓Int.cast_ofNat_Int, Int.cast_ofNat_Int, ↓reduceIte, reduceCtorEq, Nat.reduceEqDiff, Nat.reduceLT, Nat.reduceLeDiff, Nat.reduceAdd, Nat.reduceSub, Nat.reduceMul, Int.reduceNeg, Int.reduceLE, Int.reduceLT, Int.reduceToNat, Int.reduceAdd, Int.reduceSub, Int.reduceMul, Int.reduceEq]); done) | (refine leads_le [0, 1, 2, 3, 4, 9, 10, 5, 6] ?_; (simp (config := { maxSteps := 2000000 }) only [push_cast, ↓Int.toNat_natCast, ↓Int.cast_ofNat_Int, Int.cast_ofNat_Int, ↓reduceIte, reduceCtorEq, Nat.reduceEqDiff, Nat.reduceLT, Nat.reduceLeDiff, Nat.reduceAdd, Nat.reduceSub, Nat.reduceMul, Int.reduceNeg, Int.reduceLE, Int.reduceLT, Int.reduceToNat, Int.reduceAdd, Int.reduceSub, Int.reduceMul, Int.reduceEq]); done) | (refine leads_le [0, 1, 2, 3, 4, 10, 9, 5, 6] ?_; (simp (config := { maxSteps := 2000000 }) only [push_cast, ↓Int.toNat_natCast, ↓Int.cast_ofNat_Int, Int.cast_ofNat_Int, ↓reduceIte, reduceCtorEq, Nat.reduceEqDiff, Nat.reduceLT, Nat.reduceLeDiff, Nat.reduceAdd, Nat.reduceSub, Nat.reduceMul, Int.reduceNeg, Int.reduceLE, Int.reduceLT, Int.reduceToNat, Int.reduceAdd, Int.reduceSub, Int.reduceMul, Int.reduceEq]); done) | (refine leads_le [0, 1, 2, 3, 4, 10, 8, 5, 6] ?_; (simp (config := { maxSteps := 2000000 }) only [push_cast, ↓Int.toNat_natCast, ↓Int.cast_ofNat_Int, Int.cast_ofNat_Int, ↓reduceIte, reduceCtorEq, Nat.reduceEqDiff, Nat.reduceLT, Nat.reduceLeDiff, Nat.reduceAdd, Nat.reduceSub, Nat.reduceMul, Int.reduceNeg, Int.reduceLE, Int.reduceLT, Int.reduceToNat, Int.reduceAdd, Int.reduceSub, Int.reduceMul, Int.reduceEq]); done)
          · simp (config := { maxSteps := 2000000 }) only [undef, push_cast, ↓Int.toNat_natCast, ↓Int.cast_ofNat_Int, Int.cast_ofNat_Int, ↓reduceIte, reduceCtorEq, Nat.reduceEqDiff, Nat.reduceLT, Nat.reduceLeDiff, Nat.reduceAdd, Nat.reduceSub, Nat.reduceMul, Int.reduceNeg, Int.reduceLE, Int.reduceLT, Int.reduceToNat, Int.reduceAdd, Int.reduceSub, Int.reduceMul, Int.reduceEq]
            (repeat (refine And.intro (by first | omega | decide) ?_))
            refine loopK_normal (k + 1) [0, 1, 2, 3, 4, 5, 6] (by omega) (by omega) ?_
            simp (config := { maxSteps := 2000000 }) only [push_cast, ↓Int.toNat_natCast, ↓Int.cast_ofNat_Int, Int.cast_ofNat_Int, ↓reduceIte, reduceCtorEq, Nat.reduceEqDiff, Nat.reduceLT, Nat.reduceLeDiff, Nat.reduceAdd, Nat.reduceSub, Nat.reduceMul, Int.reduceNeg, Int.reduceLE, Int.reduceLT, Int.reduceToNat, Int.reduceAdd, Int.reduceSub, Int.reduceMul, Int.reduceEq]
        · have e : k = J := by omega
          subst e
          have hpl := ejL_len lots i
          have hq1 : (ix [vU64 (ix lots i).1] 0) = vU64 (ix lots i).1 := rfl
          have hsn : pcs (ejL lots i) ++ [.v (.int .i64 (5 * (i : Int))), .v (vU64 (powU 3 (ix lots i).2))] = pcs (ejL lots (i + 1)) := by rw [ejL_succ, pcs_app, pcs_cons, pcs_nil]; rfl
          have b3 : (i + 1) * 16 ≤ 140737488355328 := by omega
          have b4 : i + 1 ≤ 2 ^ 63 - 1 := by omega
          have b5 : (i + 1) * 64 ≤ 140737488355328 := by omega
          have b6 : (-9223372036854775808 : Int) ≤ 5 * (i : Int) := by omega
          have b7 : 5 * (i : Int) ≤ 9223372036854775807 := by omega
          simp (config := { maxSteps := 2000000 }) only [hlk, hL, quart, b3, b4, b5, b6, b7, undef, push_cast, ↓Int.toNat_natCast, ↓Int.cast_ofNat_Int, Int.cast_ofNat_Int, ↓reduceIte, reduceCtorEq, Nat.reduceEqDiff, Nat.reduceLT, Nat.reduceLeDiff, Nat.reduceAdd, Nat.reduceSub, Nat.reduceMul, Int.reduceNeg, Int.reduceLE, Int.reduceLT, Int.reduceToNat, Int.reduceAdd, Int.reduceSub, Int.reduceMul, Int.reduceEq]
          (repeat (refine And.intro (by first | omega | decide) ?_))
          refine callG_v rfl cb6 rfl (publicK _) (dOk_lt rfl) ?_
          simp (config := { maxSteps := 2000000 }) only [hpl, half2, hsn, b3, b4, b5, b6, b7, undef, push_cast, ↓Int.toNat_natCast, ↓Int.cast_ofNat_Int, Int.cast_ofNat_Int, ↓reduceIte, reduceCtorEq, Nat.reduceEqDiff, Nat.reduceLT, Nat.reduceLeDiff, Nat.reduceAdd, Nat.reduceSub, Nat.reduceMul, Int.reduceNeg, Int.reduceLE, Int.reduceLT, Int.reduceToNat, Int.reduceAdd, Int.reduceSub, Int.reduceMul, Int.reduceEq]
          (repeat (refine And.intro (by first | omega | decide) ?_))
          refine loopK_absorb 5 3 rfl (vs := (ejOf ch i k).map vU64) (fun _ => rfl) rfl (by decide) ?_
          intro Ar cr hr1 hr2
          simp (config := { maxSteps := 2000000 }) only [ltc_sub, sub_pcsE, push_cast, ↓Int.toNat_natCast, ↓Int.cast_ofNat_Int, Int.cast_ofNat_Int, ↓reduceIte, reduceCtorEq, Nat.reduceEqDiff, Nat.reduceLT, Nat.reduceLeDiff, Nat.reduceAdd, Nat.reduceSub, Nat.reduceMul, Int.reduceNeg, Int.reduceLE, Int.reduceLT, Int.reduceToNat, Int.reduceAdd, Int.reduceSub, Int.reduceMul, Int.reduceEq]
          refine loopK_absorb 6 3 rfl (vs := (ejAn ch k).map vU64) (fun _ => rfl) rfl (by decide) ?_
          intro Ax cx hx1 hx2
          obtain ⟨y, hy⟩ : ∃ y : Lt, y = ⟨(ix lots i).1, (ix lots i).2, Ar, cr, ejOf ch i k, Ax, cx, ejAn ch k⟩ := ⟨_, rfl⟩
          have sn : ltc L ++ [.v (vU64 (ix lots i).1), .v (vU64 (ix lots i).2), .v (.slice Ar (ejOf ch i k).length cr), .v (.slice Ax (ejAn ch k).length cx)] = ltc (L ++ [y]) := by
            subst hy
            exact ltc_snoc L ⟨(ix lots i).1, (ix lots i).2, Ar, cr, ejOf ch i k, Ax, cx, ejAn ch k⟩
          have f1 : (⟨.slice Ar (ejOf ch i k).length cr, (ejOf ch i k).length, (ejOf ch i k).map vU64⟩ : Fct) = y.f1 := by rw [hy]; rfl
          have f2 : (⟨.slice Ax (ejAn ch k).length cx, (ejAn ch k).length, (ejAn ch k).map vU64⟩ : Fct) = y.f2 := by rw [hy]; rfl
          simp (config := { maxSteps := 2000000 }) only [ltc_sub, sub_pcsE, sn, f1, f2, push_cast, ↓Int.toNat_natCast, ↓Int.cast_ofNat_Int, Int.cast_ofNat_Int, ↓reduceIte, reduceCtorEq, Nat.reduceEqDiff, Nat.reduceLT, Nat.reduceLeDiff, Nat.reduceAdd, Nat.reduceSub, Nat.reduceMul, Int.reduceNeg, Int.reduceLE, Int.reduceLT, Int.reduceToNat, Int.reduceAdd, Int.reduceSub, Int.reduceMul, Int.reduceEq]
          refine loopK_normal (i + 1, L ++ [y], Fs ++ [y.f1] ++ [y.f2]) [0, 10, 8, 3] ⟨by show i + 1 ≤ _; omega, by show (L ++ [y]).length = i + 1; rw [List.length_append, hL]; rfl, fun j hj => ?_⟩ (by show lots.length - (i + 1) < lots.length - i; omega) ?_
          · by_cases e : j = i
            · subst e
              have hxe : ix (L ++ [y]) j = y := by rw [← hL]; exact ix_snocE L y
              show (ix (L ++ [y]) j).a = _ ∧ _
              rw [hxe]
              refine ⟨by rw [hy], by rw [hy], by rw [hy], by rw [hy], by simp, by simp⟩
            · obtain ⟨q1, q2, q3, q4, q5, q6⟩ := hI j (by have : j < i + 1 := hj; omega)
              have hxe : ix (L ++ [y]) j = ix L j := ix_snocL L y (by have : j < i + 1 := hj; omega)
              show (ix (L ++ [y]) j).a = _ ∧ _
              rw [hxe]
              exact ⟨q1, q2, q3, q4, by simp [q5], by simp [q6]⟩
          · simp (config := { maxSteps := 2000000 }) only [push_cast, ↓Int.toNat_natCast, ↓Int.cast_ofNat_Int, Int.cast_ofNat_Int, ↓reduceIte, reduceCtorEq, Nat.reduceEqDiff, Nat.reduceLT, Nat.reduceLeDiff, Nat.reduceAdd, Nat.reduceSub, Nat.reduceMul, Int.reduceNeg, Int.reduceLE, Int.reduceLT, Int.reduceToNat, Int.reduceAdd, Int.reduceSub, Int.reduceMul, Int.reduceEq]
    · have e : i = lots.length := by omega
      subst e
      have hW0 : (n8 (ix [o0, o1, o2] 2)).tmod (lots.length : Int) = ((o2.toNat % lots.length : Nat) : Int) := by
        show ((o2.toNat : Nat) : Int).tmod _ = _
        rw [← Int.ofNat_tmod]
      have hWn : o2.toNat % lots.length < lots.length := Nat.mod_lt _ (by omega)
      generalize o2.toNat % lots.length = W at *
      obtain ⟨q1, q2, q3, q4, q5, q6⟩ := hI W hWn
      have hkeys : ∀ j, j < lots.length → (ix L j).b = (ix lots j).2 := fun j hj => (hI j hj).2.1
      have lp := ejL_len lots lots.length
      have hpx : ∀ j, j < lots.length → ix (ejL lots lots.length) j = ejP lots j := fun j hj => ejL_ix hj
      have m0 : (0 : Int) ≤ W := by omega
      have m1 : (W : Int) < lots.length := by omega
      have m2 : W * 2 < lots.length * 2 := by omega
      have m3 : W * 4 + 4 ≤ lots.length * 4 := by omega
      have p0 := pcs_get0E (ejL lots lots.length) W (by omega)
      have lt0 := ltc_part L W (by omega)
      rw [hpx W hWn] at p0
      have p0 : ∀ x : At, (pcs (ejL lots lots.length)).getD (W * 2) x = .v (.int .i64 (5 * (W : Int))) := p0
      have lJ1 : (ix L W).l1.length = J := by rw [q3, ejOf_length]
      have lJ2 : (ix L W).l2.length = J := by rw [q4, ejAn_length]
      simp (config := { maxSteps := 2000000 }) only [hlt, hW0, g0, undef, push_cast, ↓Int.toNat_natCast, ↓Int.cast_ofNat_Int, Int.cast_ofNat_Int, ↓reduceIte, reduceCtorEq, Nat.reduceEqDiff, Nat.reduceLT, Nat.reduceLeDiff, Nat.reduceAdd, Nat.reduceSub, Nat.reduceMul, Int.reduceNeg, Int.reduceLE, Int.reduceLT, Int.reduceToNat, Int.reduceAdd, Int.reduceSub, Int.reduceMul, Int.reduceEq]
      (repeat (refine And.intro (by first | omega | decide) ?_))
      refine draw_rule [(0, true), (1, true), (2, true), (3, true), (4, true), (5, true), (6, true), (7, true), (8, true), (9, true), (10, true), (11, true), (12, false), (13, true), (14, true), (15, true), (16, true), (17, true)] (by kernel_rfl) (by kernel_rfl) rfl (by kernel_rfl) ?_
      simp (config := { maxSteps := 2000000 }) only [m0, m1, m2, m3, hL, lp, half2, quart, p0, lt0, q1, q2, undef, push_cast, ↓Int.toNat_natCast, ↓Int.cast_ofNat_Int, Int.cast_ofNat_Int, ↓reduceIte, reduceCtorEq, Nat.reduceEqDiff, Nat.reduceLT, Nat.reduceLeDiff, Nat.reduceAdd, Nat.reduceSub, Nat.reduceMul, Int.reduceNeg, Int.reduceLE, Int.reduceLT, Int.reduceToNat, Int.reduceAdd, Int.reduceSub, Int.reduceMul, Int.reduceEq]
      (repeat (refine And.intro (by first | omega | decide) ?_))
      obtain ⟨bx1, bx2⟩ := ej_box lots (n := lots.length) (wh := W) (J := J) (g := g) (of := (ix L W).l1) (an := (ix L W).l2) (ix lots W).1 hWn hn8 hJn (by omega) (by omega) lJ1 lJ2
      rw [show (J : Int) + 1 = 1 + (J : Int) from by omega] at bx1 bx2
      refine callM_x rfl cb7 rfl (boxOK25 (x1 := .v (.slice (ix L W).A1 (ix L W).l1.length (ix L W).c1)) (x2 := .v (.slice (ix L W).A2 (ix L W).l2.length (ix L W).c2)) (of := (ix L W).l1) (an := (ix L W).l2) (l := ejL lots lots.length) (5 * (W : Int)) g (1 + (J : Int)) (ix lots W).1 (ix lots W).2 (by omega) (by omega) (by omega) (shows_fct (kf := 3) rfl q5) (shows_fct (kf := 3) rfl q6) (showsR_pcs rfl) hk hw (by simp only [push_cast, ↓Int.toNat_natCast, ↓Int.cast_ofNat_Int, Int.cast_ofNat_Int, ↓reduceIte, reduceCtorEq, Nat.reduceEqDiff, Nat.reduceLT, Nat.reduceLeDiff, Nat.reduceAdd, Nat.reduceSub, Nat.reduceMul, Int.reduceNeg, Int.reduceLE, Int.reduceLT, Int.reduceToNat, Int.reduceAdd, Int.reduceSub, Int.reduceMul, Int.reduceEq])) (dOk_lt rfl) (by simp only [push_cast, ↓Int.toNat_natCast, ↓Int.cast_ofNat_Int, Int.cast_ofNat_Int, ↓reduceIte, reduceCtorEq, Nat.reduceEqDiff, Nat.reduceLT, Nat.reduceLeDiff, Nat.reduceAdd, Nat.reduceSub, Nat.reduceMul, Int.reduceNeg, Int.reduceLE, Int.reduceLT, Int.reduceToNat, Int.reduceAdd, Int.reduceSub, Int.reduceMul, Int.reduceEq]) ?_
      rw [bx1, bx2]
      generalize hfa : (ix lots W).1 :: (ix L W).l1 = fa at *
      generalize hfb : (ix lots W).2 :: (ix L W).l2 = fb at *
      have lB := bxTo_length fa fb (5 * (W : Int)) g (ix lots W).2 (ejL lots lots.length) lots.length
      have hB := bxTo_at fa fb (5 * (W : Int)) g (ix lots W).2 (ejL lots lots.length) lots.length
      generalize bxTo fa fb (5 * (W : Int)) g (ix lots W).2 (ejL lots lots.length) lots.length = B at *
      have d0 : (-9223372036854775808 : Int) ≤ 2 * (lots.length : Int) := by omega
      have d1 : 2 * (lots.length : Int) ≤ 9223372036854775807 := by omega
      simp (config := { maxSteps := 2000000 }) only [lB, d0, d1, undef, push_cast, ↓Int.toNat_natCast, ↓Int.cast_ofNat_Int, Int.cast_ofNat_Int, ↓reduceIte, reduceCtorEq, Nat.reduceEqDiff, Nat.reduceLT, Nat.reduceLeDiff, Nat.reduceAdd, Nat.reduceSub, Nat.reduceMul, Int.reduceNeg, Int.reduceLE, Int.reduceLT, Int.reduceToNat, Int.reduceAdd, Int.reduceSub, Int.reduceMul, Int.reduceEq]
      (repeat (refine And.intro (by first | omega | decide) ?_))
      refine loop_ghostN 18 41 2 (.c []) (by omega) rfl rfl (by simp only [push_cast, ↓Int.toNat_natCast, ↓Int.cast_ofNat_Int, Int.cast_ofNat_Int, ↓reduceIte, reduceCtorEq, Nat.reduceEqDiff, Nat.reduceLT, Nat.reduceLeDiff, Nat.reduceAdd, Nat.reduceSub, Nat.reduceMul, Int.reduceNeg, Int.reduceLE, Int.reduceLT, Int.reduceToNat, Int.reduceAdd, Int.reduceSub, Int.reduceMul, Int.reduceEq]) ?_
      refine loop_ghostN 19 41 2 (.c []) (by omega) rfl rfl (by simp only [push_cast, ↓Int.toNat_natCast, ↓Int.cast_ofNat_Int, Int.cast_ofNat_Int, ↓reduceIte, reduceCtorEq, Nat.reduceEqDiff, Nat.reduceLT, Nat.reduceLeDiff, Nat.reduceAdd, Nat.reduceSub, Nat.reduceMul, Int.reduceNeg, Int.reduceLE, Int.reduceLT, Int.reduceToNat, Int.reduceAdd, Int.reduceSub, Int.reduceMul, Int.reduceEq]) ?_
      refine loop_rule (ι := Nat) (fun i => ⟨[(0, (.x (.a (.v (.slice A lots.length c))))), (7, (.x (.a (.v (.int .i64 lots.length))))), (8, (.x (.a (.v (.int .i64 (1 + (J : Int))))))), (9, (.x (.a (.v (.int .i64 g))))), (10, .x (.a (.o 1))), (11, .x (.a (.o 2))), (15, .x (.a (.v (.int .i64 W)))), (16, .x (.a (.o 4))), (18, .x (.a (.o 5))), (19, .x (.a (.o 6))), (20, .x (.a (.v (.int .i64 i))))], [(.blk 24 (.u8 [o0, o1, o2])), .onn 34 2 (.c (pcs (ejL lots lots.length))), .onn 31 4 (.c (ltc L)), .abs (fctRep Fs), .own 23 (.u64 B), .onn 41 2 (.c (shc (ejS fa i))), .onn 41 2 (.c (shc (ejS fb i)))]⟩) (fun i => i ≤ lots.length) (fun i => lots.length - i) 0 [0, 1, 2, 3, 4, 5, 6] (by omega) ?_ ?_
      · simp (config := { maxSteps := 2000000 }) only [ejS_zero, shc_nil, push_cast, ↓Int.toNat_natCast, ↓Int.cast_ofNat_Int, Int.cast_ofNat_Int, ↓reduceIte, reduceCtorEq, Nat.reduceEqDiff, Nat.reduceLT, Nat.reduceLeDiff, Nat.reduceAdd, Nat.reduceSub, Nat.reduceMul, Int.reduceNeg, Int.reduceLE, Int.reduceLT, Int.reduceToNat, Int.reduceAdd, Int.reduceSub, Int.reduceMul, Int.reduceEq]
      · clear hi hlt
        intro i hi
        by_cases hlt : (i : Int) < lots.length
        · have i0 : (0 : Int) ≤ i := by omega
          have i1 : i < lots.length := by omega
          have i2 : i * 2 < lots.length * 2 := by omega
          have i3 : i * 4 + 1 < lots.length * 4 := by omega
          have i4 : W * 2 + 2 ≤ lots.length * 2 := by omega
          have r0 := pcs_get0E (ejL lots lots.length) i (by omega)
          rw [hpx i i1] at r0
          have r0 : ∀ x : At, (pcs (ejL lots lots.length)).getD (i * 2) x = .v (.int .i64 (5 * (i : Int))) := r0
          have r1 := ltc_get1 L i (by omega)
          rw [hkeys i i1] at r1
          have r2 := pcs_partE (ejL lots lots.length) W (by omega)
          rw [hpx W hWn] at r2
          obtain ⟨e0, e1⟩ := hB i i1
          rw [hpx i i1] at e0 e1
          have v0 : (bxV fa (5 * (W : Int)) g (ix lots W).2 (ejP lots i) 0).toNat < 2305843009213693951 := bxV_lt _ _ _ _ _ _
          have v1 : (bxV fb (5 * (W : Int)) g (ix lots W).2 (ejP lots i) 1).toNat < 2305843009213693951 := bxV_lt _ _ _ _ _ _
          have hok := ej_open lots (i := i) (wh := W) (g := g) (by omega) (by omega) (by omega) (by omega) v0 v1
          obtain ⟨z1, z2, z3⟩ := eop_yes hok (ix lots i).2
          have y0 := ej_val lots (i := i) (wh := W) (g := g) fa 0
          have y1 := ej_val lots (i := i) (wh := W) (g := g) fb 1
          rw [← z3 (bxV fa (5 * (W : Int)) g (ix lots W).2 (ejP lots i) 0) 0] at y0
          rw [← z3 (bxV fb (5 * (W : Int)) g (ix lots W).2 (ejP lots i) 1) 1] at y1
          generalize bxV fa (5 * (W : Int)) g (ix lots W).2 (ejP lots i) 0 = t0 at *
          generalize bxV fb (5 * (W : Int)) g (ix lots W).2 (ejP lots i) 1 = t1 at *
          have j0 : (0 : Int) ≤ 2 * (i : Int) := by omega
          have j1 : 2 * (i : Int) < 2 * (lots.length : Int) := by omega
          have j2 : (-9223372036854775808 : Int) ≤ 2 * (i : Int) := by omega
          have j3 : 2 * (i : Int) ≤ 9223372036854775807 := by omega
          have j4 : (0 : Int) ≤ 2 * (i : Int) + 1 := by omega
          have j5 : 2 * (i : Int) + 1 < 2 * (lots.length : Int) := by omega
          have j6 : 2 * (i : Int) + 1 ≤ 9223372036854775807 := by omega
          have j7 : (-9223372036854775808 : Int) ≤ 2 * (i : Int) + 1 := by omega
          have j8 : (2 * (i : Int)).toNat = 2 * i := by omega
          have j9 : (2 * (i : Int) + 1).toNat = 2 * i + 1 := by omega
          have ja : 2 * i < 2 * lots.length := by omega
          have jb : 2 * i + 1 < 2 * lots.length := by omega
          simp (config := { maxSteps := 2000000 }) only [hlt, undef, push_cast, ↓Int.toNat_natCast, ↓Int.cast_ofNat_Int, Int.cast_ofNat_Int, ↓reduceIte, reduceCtorEq, Nat.reduceEqDiff, Nat.reduceLT, Nat.reduceLeDiff, Nat.reduceAdd, Nat.reduceSub, Nat.reduceMul, Int.reduceNeg, Int.reduceLE, Int.reduceLT, Int.reduceToNat, Int.reduceAdd, Int.reduceSub, Int.reduceMul, Int.reduceEq]
          (repeat (refine And.intro (by first | omega | decide) ?_))
          refine drawV_rule 7 [] (.rd 0 (.rd 1 (.rd 2 (.rd 3 (.rd 4 (.rd 5 (.rd 6 (.rd 7 (.rd 8 (.rd 9 (.rd 10 (.rd 11 (.rd 12 (.rd 13 (.rd 14 (.rd 15 (.rd 16 (.rd 17 (.rd 18 (.rd 19 (.rd 20 (.rd 21 (.rd 22 (.rd 23 (.rd 24 (.rd 25 (.rd 26 (.fk 27 (.rd 28 (.rd 29 (.rd 30 (.wr 31 (.wr 32 (.rd 33 .nil)))))) 31 (.wr 27 (.rd 28 (.rd 29 (.rd 30 (.wr 32 (.rd 33 .nil)))))))))))))))))))))))))))))))))) ⟨[(0, (.x (.a (.v (.slice A lots.length c))))), (7, (.x (.a (.v (.int .i64 lots.length))))), (8, (.x (.a (.v (.int .i64 (1 + (J : Int))))))), (9, (.x (.a (.v (.int .i64 g))))), (10, .x (.a (.o 1))), (11, .x (.a (.o 2))), (15, .x (.a (.v (.int .i64 W)))), (16, .x (.a (.o 4))), (18, .x (.a (.o 5))), (19, .x (.a (.o 6))), (20, .x (.a (.v (.int .i64 i)))), (21, .x (.a (.p 7 0))), (22, .x (.a (.v .nilIface)))], [(.blk 24 (.u8 [o0, o1, o2])), .onn 34 2 (.c (pcs (ejL lots lots.length))), .onn 31 4 (.c (ltc L)), .abs (fctRep Fs), .own 23 (.u64 B), .onn 41 2 (.c (shc (ejS fa i))), .onn 41 2 (.c (shc (ejS fb i))), .blk 42 (.c [.v (vU64 (atU (5 * (i : Int)))), .v (vU64 (polyU fa (atU (5 * (i : Int))))), .v (vU64 (atU (5 * (i : Int)))), .v (vU64 (polyU fb (atU (5 * (i : Int)))))])]⟩ (by kernel_rfl) (by kernel_rfl) (by kernel_rfl) (Nat.le_add_left 7 0) ?_ ?_
          · simp (config := { maxSteps := 2000000 }) only [i0, i1, i2, i3, i4, hlt, m0, m1, m2, hL, lp, lB, half2, quart, r0, r1, r2, e0, e1, j0, j1, j2, j3, j4, j5, j6, j7, j8, j9, ja, jb, undef, push_cast, ↓Int.toNat_natCast, ↓Int.cast_ofNat_Int, Int.cast_ofNat_Int, ↓reduceIte, reduceCtorEq, Nat.reduceEqDiff, Nat.reduceLT, Nat.reduceLeDiff, Nat.reduceAdd, Nat.reduceSub, Nat.reduceMul, Int.reduceNeg, Int.reduceLE, Int.reduceLT, Int.reduceToNat, Int.reduceAdd, Int.reduceSub, Int.reduceMul, Int.reduceEq]
            (repeat (refine And.intro (by first | omega | decide) ?_))
            refine ⟨?_, ?_⟩
            · refine callQ_v rfl cb8 rfl (openOK25 (5 * (i : Int)) g (ix lots i).2 (ejP lots W) t0 t1 hk hw) (dOk_lt rfl) ?_
              rw [z1, z2, y0, y1]
              simp (config := { maxSteps := 2000000 }) only [undef, push_cast, ↓Int.toNat_natCast, ↓Int.cast_ofNat_Int, Int.cast_ofNat_Int, ↓reduceIte, reduceCtorEq, Nat.reduceEqDiff, Nat.reduceLT, Nat.reduceLeDiff, Nat.reduceAdd, Nat.reduceSub, Nat.reduceMul, Int.reduceNeg, Int.reduceLE, Int.reduceLT, Int.reduceToNat, Int.reduceAdd, Int.reduceSub, Int.reduceMul, Int.reduceEq]
              (repeat (refine And.intro (by first | omega | decide) ?_))
              refine leads_le [0, 1, 2, 3, 4, 5, 6, 7] ?_
              simp (config := { maxSteps := 2000000 }) only [push_cast, ↓Int.toNat_natCast, ↓Int.cast_ofNat_Int, Int.cast_ofNat_Int, ↓reduceIte, reduceCtorEq, Nat.reduceEqDiff, Nat.reduceLT, Nat.reduceLeDiff, Nat.reduceAdd, Nat.reduceSub, Nat.reduceMul, Int.reduceNeg, Int.reduceLE, Int.reduceLT, Int.reduceToNat, Int.reduceAdd, Int.reduceSub, Int.reduceMul, Int.reduceEq]
            · refine callQ_v rfl cb8 rfl (openOK25 (5 * (i : Int)) g (ix lots i).2 (ejP lots W) t0 t1 hk hw) (dOk_lt rfl) ?_
              rw [z1, z2, y0, y1]
              simp (config := { maxSteps := 2000000 }) only [undef, push_cast, ↓Int.toNat_natCast, ↓Int.cast_ofNat_Int, Int.cast_ofNat_Int, ↓reduceIte, reduceCtorEq, Nat.reduceEqDiff, Nat.reduceLT, Nat.reduceLeDiff, Nat.reduceAdd, Nat.reduceSub, Nat.reduceMul, Int.reduceNeg, Int.reduceLE, Int.reduceLT, Int.reduceToNat, Int.reduceAdd, Int.reduceSub, Int.reduceMul, Int.reduceEq]
              (repeat (refine And.intro (by first | omega | decide) ?_))
              refine leads_le [0, 1, 2, 3, 4, 5, 6, 7] ?_
              simp (config := { maxSteps := 2000000 }) only [push_cast, ↓Int.toNat_natCast, ↓Int.cast_ofNat_Int, Int.cast_ofNat_Int, ↓reduceIte, reduceCtorEq, Nat.reduceEqDiff, Nat.reduceLT, Nat.reduceLeDiff, Nat.reduceAdd, Nat.reduceSub, Nat.reduceMul, Int.reduceNeg, Int.reduceLE, Int.reduceLT, Int.reduceToNat, Int.reduceAdd, Int.reduceSub, Int.reduceMul, Int.reduceEq]
          · have s0 : shc (ejS fa i) ++ [.v (vU64 (atU (5 * (i : Int)))), .v (vU64 (polyU fa (atU (5 * (i : Int)))))] = shc (ejS fa (i + 1)) := by rw [ejS_succ]; exact shc_snoc _ _ _
            have s1 : shc (ejS fb i) ++ [.v (vU64 (atU (5 * (i : Int)))), .v (vU64 (polyU fb (atU (5 * (i : Int)))))] = shc (ejS fb (i + 1)) := by rw [ejS_succ]; exact shc_snoc _ _ _
            have l0 := ejS_len fa i
            have l1 := ejS_len fb i
            have b5 : (i + 1) * 16 ≤ 140737488355328 := by omega
            have b6 : i + 1 ≤ 2 ^ 63 - 1 := by omega
            simp (config := { maxSteps := 2000000 }) only [undef, push_cast, ↓Int.toNat_natCast, ↓Int.cast_ofNat_Int, Int.cast_ofNat_Int, ↓reduceIte, reduceCtorEq, Nat.reduceEqDiff, Nat.reduceLT, Nat.reduceLeDiff, Nat.reduceAdd, Nat.reduceSub, Nat.reduceMul, Int.reduceNeg, Int.reduceLE, Int.reduceLT, Int.reduceToNat, Int.reduceAdd, Int.reduceSub, Int.reduceMul, Int.reduceEq]
            (repeat (refine And.intro (by first | omega | decide) ?_))
            refine drawV_rule 8 [5, 6] (.rd 0 (.rd 1 (.rd 2 (.rd 5 (.rd 6 (.rd 7 (.fk 3 (.fk 4 (.wr 8 (.wr 9 (.rd 10 (.rd 11 .nil)))) 8 (.wr 4 (.wr 9 (.rd 10 (.rd 11 .nil))))) 8 (.wr 3 (.wr 4 (.wr 9 (.rd 10 (.rd 11 .nil)))))))))))) ⟨[(0, (.x (.a (.v (.slice A lots.length c))))), (7, (.x (.a (.v (.int .i64 lots.length))))), (8, (.x (.a (.v (.int .i64 (1 + (J : Int))))))), (9, (.x (.a (.v (.int .i64 g))))), (10, .x (.a (.o 1))), (11, .x (.a (.o 2))), (15, .x (.a (.v (.int .i64 W)))), (16, .x (.a (.o 4))), (18, .x (.a (.o 5))), (19, .x (.a (.o 6))), (20, .x (.a (.v (.int .i64 i))))], [(.blk 24 (.u8 [o0, o1, o2])), .onn 34 2 (.c (pcs (ejL lots lots.length))), .onn 31 4 (.c (ltc L)), .abs (fctRep Fs), .own 23 (.u64 B), .onn 41 2 (.c (shc (ejS fa (i + 1)))), .onn 41 2 (.c (shc (ejS fb (i + 1))))]⟩ (by kernel_rfl) (by kernel_rfl) (by kernel_rfl) (Nat.le_add_left 8 0) ?_ ?_
            · simp (config := { maxSteps := 2000000 }) only [s0, s1, l0, l1, b5, b6, half2, undef, push_cast, ↓Int.toNat_natCast, ↓Int.cast_ofNat_Int, Int.cast_ofNat_Int, ↓reduceIte, reduceCtorEq, Nat.reduceEqDiff, Nat.reduceLT, Nat.reduceLeDiff, Nat.reduceAdd, Nat.reduceSub, Nat.reduceMul, Int.reduceNeg, Int.reduceLE, Int.reduceLT, Int.reduceToNat, Int.reduceAdd, Int.reduceSub, Int.reduceMul, Int.reduceEq]
              (repeat (refine And.intro (by first | omega | decide) ?_))
              repeat' refine And.intro ?_ ?_
              all_goals first | omega | (refine leads_le [0, 1, 2, 3, 4, 9, 11] ?_; (simp (config := { maxSteps := 2000000 }) only [push_cast, ↓Int.toNat_natCast, ↓Int.cast_ofNat_Int, Int.cast_ofNat_Int, ↓reduceIte, reduceCtorEq, Nat.reduceEqDiff, Nat.reduceLT, Nat.reduceLeDiff, Nat.reduceAdd, Nat.reduceSub, Nat.reduceMul, Int.reduceNeg, Int.reduceLE, Int.reduceLT, Int.reduceToNat, Int.reduceAdd, Int.reduceSub, Int.reduceMul, Int.reduceEq]); done) | (refine leads_le [0, 1, 2, 3, 4, 10, 11] ?_; (simp (config := { maxSteps := 2000000 }) only [push_cast, ↓Int.toNat_natCast, ↓Int.cast_ofNat_Int, Int.cast_ofNat_Int, ↓reduceIte, reduceCtorEq, Nat.reduceEqDiff, Nat.reduceLT, Nat.reduceLeDiff, Nat.reduceAdd, Nat.reduceSub, Nat.reduceMul, Int.reduceNeg, Int.reduceLE, Int.reduceLT, Int.reduceToNat, Int.reduceAdd, Int.reduceSub, Int.reduceMul, Int.reduceEq]); done) | (refine leads_le [0, 1, 2, 3, 4, 11, 10] ?_; (simp (config := { maxSteps := 2000000 }) only [push_cast, ↓Int.toNat_natCast, ↓Int.cast_ofNat_Int, Int.cast_ofNat_Int, ↓reduceIte, reduceCtorEq, Nat.reduceEqDiff, Nat.reduceLT, Nat.reduceLeDiff, Nat.reduceAdd, Nat.reduceSub, Nat.reduceMul, Int.reduceNeg, Int.reduceLE, Int.reduceLT, Int.reduceToNat, Int.reduceAdd, Int.reduceSub, Int.reduceMul, Int.reduceEq]); done) | (refine leads_le [0, 1, 2, 3, 4, 11, 9] ?_; (simp (config := { maxSteps := 2000000 }) only [push_cast, ↓Int.toNat_natCast, ↓Int.cast_ofNat_Int, Int.cast_ofNat_Int, ↓reduceIte, reduceCtorEq, Nat.reduceEqDiff, Nat.reduceLT, Nat.reduceLeDiff, Nat.reduceAdd, Nat.reduceSub, Nat.reduceMul, Int.reduceNeg, Int.reduceLE, Int.reduceLT, Int.reduceToNat, Int.reduceAdd, Int.reduceSub, Int.reduceMul, Int.reduceEq]); done)
            · simp (config := { maxSteps := 2000000 }) only [undef, push_cast, ↓Int.toNat_natCast, ↓Int.cast_ofNat_Int, Int.cast_ofNat_Int, ↓reduceIte, reduceCtorEq, Nat.reduceEqDiff, Nat.reduceLT, Nat.reduceLeDiff, Nat.reduceAdd, Nat.reduceSub, Nat.reduceMul, Int.reduceNeg, Int.reduceLE, Int.reduceLT, Int.reduceToNat, Int.reduceAdd, Int.reduceSub, Int.reduceMul, Int.reduceEq]
              (repeat (refine And.intro (by first | omega | decide) ?_))
              refine loopK_normal (i + 1) [0, 1, 2, 3, 4, 5, 6] (by omega) (by omega) ?_
              simp (config := { maxSteps := 2000000 }) only [push_cast, ↓Int.toNat_natCast, ↓Int.cast_ofNat_Int, Int.cast_ofNat_Int, ↓reduceIte, reduceCtorEq, Nat.reduceEqDiff, Nat.reduceLT, Nat.reduceLeDiff, Nat.reduceAdd, Nat.reduceSub, Nat.reduceMul, Int.reduceNeg, Int.reduceLE, Int.reduceLT, Int.reduceToNat, Int.reduceAdd, Int.reduceSub, Int.reduceMul, Int.reduceEq]
        · have e : i = lots.length := by omega
          rw [e] at hi hlt ⊢
          clear e
          obtain ⟨D, hD⟩ : ∃ D : Nat, (lots.length : Int) - (1 + (J : Int)) = D := ⟨lots.length - (1 + J), by omega⟩
          have l0 := ejS_len fa lots.length
          have l1 := ejS_len fb lots.length
          have n0 : (0 : Int) ≤ D := by omega
          have n1 : (D : Int) ≤ lots.length := by omega
          have n2 : (-9223372036854775808 : Int) ≤ D := by omega
          have n3 : (D : Int) ≤ 9223372036854775807 := by omega
          have c0 := F.c0 W hWn
          have c1 := F.c1 W hWn
          have o0' := F.ok0 W hWn
          have o1' := F.ok1 W hWn
          have hA := F.some_ (by omega)
          have hP0 : ¬ (2305843009213693951 : UInt64) = 0 := by decide
          have hlit : (2305843009213693951 : UInt64) = fpP := rfl
          have hP1 : ¬ fpP = 0 := by decide
          obtain ⟨k1, k2⟩ := ej_join (ix lots W).1 (ix L W).l1 (n := lots.length) (J := J) ((ejS fa lots.length).drop D) lJ1 (by rw [List.length_drop, l0]; omega) (by omega) (by rw [hfa]; exact List.drop_sublist _ _)
          obtain ⟨k3, k4⟩ := ej_join (ix lots W).2 (ix L W).l2 (n := lots.length) (J := J) (ejS fb lots.length) lJ2 (by rw [l1]; omega) (by omega) (by rw [hfb]; exact List.Sublist.refl _)
          rw [show (J : Int) + 1 = 1 + (J : Int) from by omega] at k1 k2 k3 k4
          simp (config := { maxSteps := 2000000 }) only [hlt, hD, l0, n0, n1, n2, n3, half2, undef, push_cast, ↓Int.toNat_natCast, ↓Int.cast_ofNat_Int, Int.cast_ofNat_Int, ↓reduceIte, reduceCtorEq, Nat.reduceEqDiff, Nat.reduceLT, Nat.reduceLeDiff, Nat.reduceAdd, Nat.reduceSub, Nat.reduceMul, Int.reduceNeg, Int.reduceLE, Int.reduceLT, Int.reduceToNat, Int.reduceAdd, Int.reduceSub, Int.reduceMul, Int.reduceEq]
          (repeat (refine And.intro (by first | omega | decide) ?_))
          refine callG_v rfl cb9 rfl (joinOK (l := (ejS fa lots.length).drop D) (1 + (J : Int)) (by rw [List.length_drop, l0]; omega) (rshc_drop (L := ejS fa lots.length) D rfl l0 (by omega))) (dOk_lt rfl) ?_
          rw [k1, k2]
          simp (config := { maxSteps := 2000000 }) only [erS_zero, undef, push_cast, ↓Int.toNat_natCast, ↓Int.cast_ofNat_Int, Int.cast_ofNat_Int, ↓reduceIte, reduceCtorEq, Nat.reduceEqDiff, Nat.reduceLT, Nat.reduceLeDiff, Nat.reduceAdd, Nat.reduceSub, Nat.reduceMul, Int.reduceNeg, Int.reduceLE, Int.reduceLT, Int.reduceToNat, Int.reduceAdd, Int.reduceSub, Int.reduceMul, Int.reduceEq]
          (repeat (refine And.intro (by first | omega | decide) ?_))
          refine callG_v rfl cb9 rfl (joinOK (l := ejS fb lots.length) (1 + (J : Int)) (by omega) (showsR_shc rfl)) (dOk_lt rfl) ?_
          rw [k3, k4]
          simp (config := { maxSteps := 2000000 }) only [erS_zero, m0, m1, c0, c1, o0', o1', hA, hP0, hP1, hlit, pAdd_zero, pAdd_add, pAdd_isSome, undef, push_cast, ↓Int.toNat_natCast, ↓Int.cast_ofNat_Int, Int.cast_ofNat_Int, ↓reduceIte, reduceCtorEq, Nat.reduceEqDiff, Nat.reduceLT, Nat.reduceLeDiff, Nat.reduceAdd, Nat.reduceSub, Nat.reduceMul, Int.reduceNeg, Int.reduceLE, Int.reduceLT, Int.reduceToNat, Int.reduceAdd, Int.reduceSub, Int.reduceMul, Int.reduceEq]
          (repeat (refine And.intro (by first | omega | decide) ?_))
          refine callG_v rfl cb5 rfl (sure25OK hk hg hw) (dOk_lt rfl) ?_
          simp (config := { maxSteps := 2000000 }) only [undef, push_cast, ↓Int.toNat_natCast, ↓Int.cast_ofNat_Int, Int.cast_ofNat_Int, ↓reduceIte, reduceCtorEq, Nat.reduceEqDiff, Nat.reduceLT, Nat.reduceLeDiff, Nat.reduceAdd, Nat.reduceSub, Nat.reduceMul, Int.reduceNeg, Int.reduceLE, Int.reduceLT, Int.reduceToNat, Int.reduceAdd, Int.reduceSub, Int.reduceMul, Int.reduceEq]
end Go.Proofs.YteiifdpikcnbgaaGreatDoor
