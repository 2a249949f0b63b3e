/- Shares compared; what must come whatever the input is (law 4's areShares, sure). -/
import Derived.Test.YteiifdpikcnbgaaGreatDoorSvB
import Derived.Test.YteiifdpikcnbgaaGreatDoorNmA
namespace Go.Proofs.YteiifdpikcnbgaaGreatDoor
open Go.RowKit
set_option linter.unusedSimpArgs false
set_option linter.unusedVariables false
theorem sh_eq (p q : Sh) : (decide (n64 p.1 = n64 q.1) && decide (n64 p.2 = n64 q.2)) = decide (p = q) := by
  rw [Bool.eq_iff_iff]
  simp only [Bool.and_eq_true, decide_eq_true_eq, n64_inj]
  exact ⟨fun ⟨a, b⟩ => Prod.ext a b, fun h => by rw [h]; exact ⟨rfl, rfl⟩⟩
theorem list_ne_at {α : Type} [Inhabited α] {a b : List α} {i : Nat} (h : ix a i ≠ ix b i) : a ≠ b := fun e => h (by rw [e])
theorem list_eq_at {α : Type} [Inhabited α] {a b : List α} (hl : a.length = b.length) (h : ∀ i, i < a.length → ix a i = ix b i) : a = b := by
  apply List.ext_getElem hl
  intro i h1 h2
  have := h i h1
  rwa [ix_get h1, ix_get h2] at this
attribute [local irreducible] Callable CallOK CallG CallM DrawG LoopG symR symM
attribute [local irreducible] shc seenU metU apartU prU wtU wtsU thU powU polyU sortP splS polyN addU sumTo
/-! ### What must come whatever the input is -/
open Prm (Q)
theorem spl_len3 (c : List UInt64) : (splS c 3).length = 3 := splS_length c 3
theorem spl_ok (c : List UInt64) (n : Nat) (hn : n ≤ 64) : okAll (splS c n) = true := okAll_iff.2 fun s hs => by
  obtain ⟨i, hi, rfl⟩ := List.mem_iff_getElem.1 hs
  rw [splS_length] at hi
  have e := splS_ix c n i hi
  rw [ix_get (by rw [splS_length]; exact hi)] at e
  rw [e]
  have h1 : (UInt64.ofNat (i + 1)).toNat = i + 1 := by rw [UInt64.toNat_ofNat']; omega
  refine ⟨fun h => ?_, ?_, ?_⟩
  · have := congrArg UInt64.toNat h
    rw [h1] at this
    cases this
  · show (UInt64.ofNat (i + 1)).toNat < _
    omega
  · show (polyU c _).toNat < _
    rw [polyU_toNat]
    exact Nat.mod_lt _ (by decide)
theorem spl_up (c : List UInt64) (n : Nat) (hn : n ≤ 64) : ∀ i j, i < j → j < (splS c n).length → (ix (splS c n) i).1.toNat < (ix (splS c n) j).1.toNat := fun i j hij hj => by
  rw [splS_length] at hj
  rw [splS_ix c n i (by omega), splS_ix c n j hj]
  show (UInt64.ofNat (i + 1)).toNat < (UInt64.ofNat (j + 1)).toNat
  rw [UInt64.toNat_ofNat', UInt64.toNat_ofNat']
  omega
theorem up_nodup {l : List Sh} (h : ∀ i j, i < j → j < l.length → (ix l i).1.toNat < (ix l j).1.toNat) : (PL l).Nodup := by
  show List.Pairwise _ _
  rw [List.pairwise_iff_getElem]
  intro i j hi hj hij e
  have hi' : i < l.length := by simpa using hi
  have hj' : j < l.length := by simpa using hj
  have := h i j hij hj'
  rw [ix_get hi', ix_get hj'] at this
  have e : l[i].1 = l[j].1 := by simpa using e
  rw [e] at this
  omega
theorem spl_curve (c : List UInt64) (n : Nat) : ∀ s ∈ splS c n, qU s.2 = Prm.ev (c.map qU) (qU s.1) := fun s hs => by
  obtain ⟨i, hi, rfl⟩ := List.mem_iff_getElem.1 hs
  rw [splS_length] at hi
  have e := splS_ix c n i hi
  rw [ix_get (by rw [splS_length]; exact hi)] at e
  rw [e]
  exact qU_poly c _
theorem spl_sorted (c : List UInt64) (n : Nat) (hn : n ≤ 64) : sortP (splS c n) = splS c n := sortP_same (spl_up c n hn)
theorem spl_sorE (c : List UInt64) (n : Nat) (hn : n ≤ 64) : sorE (splS c n) = 0 := sorE_of (by rw [splS_length]; exact hn) (spl_ok c n hn) (up_nodup (spl_up c n hn))
theorem spl_sumE (c d : List UInt64) (n : Nat) (hn : n ≤ 64) : sumE (splS c n) (splS d n) = 0 := by
  unfold sumE
  rw [if_pos (spl_sorE c n hn), if_pos (spl_sorE d n hn), if_pos (by rw [splS_length, splS_length]), spl_sorted c n hn, spl_sorted d n hn, if_pos]
  rw [sameX_iff]
  intro i hi
  rw [splS_length] at hi
  rw [splS_ix c n i hi, splS_ix d n i hi]
abbrev L3 : List Sh := [(1, 7), (2, 9), (3, 11)]
abbrev C2 : List UInt64 := [5, 2]
theorem spl3 : splS C2 3 = L3 := by decide +kernel
theorem ev_two : Prm.ev (C2.map qU) (qU 0) = qU 5 := by decide +kernel
theorem sub_curve {c : List Q} {l m : List Sh} (h : ∀ s ∈ l, qU s.2 = Prm.ev c (qU s.1)) (hs : ∀ s ∈ m, s ∈ l) : ∀ s ∈ m, qU s.2 = Prm.ev c (qU s.1) := fun s hm => h s (hs s hm)
theorem j23 : joiE [(2, 9), (3, 11)] 2 = 0 ∧ joiU [(2, 9), (3, 11)] 2 = 5 := by
  have hv := spl_curve C2 3
  rw [spl3] at hv
  obtain ⟨h1, h2, h3⟩ := join_curve (l := [(2, 9), (3, 11)]) (C2.map qU) 2 (by decide) (by decide) (by decide) (by decide) (by decide) (by decide) (sub_curve hv (by decide))
  exact ⟨h1, qU_inj h3 (by decide) (by rw [← ev_two]; exact h2)⟩
theorem j1 : joiE [(1, 7)] 2 = 7 := join_few 2 (by decide) (by decide) (by decide) (by decide) (by decide)
theorem j4 : joiE [(1, 7), (2, 9), (3, 12)] 2 = 4 := by
  have hv := spl_curve C2 3
  rw [spl3] at hv
  have := join_wrong (l := L3) (C2.map qU) 2 2 (by decide) (by decide) (by decide) (by decide) (by decide) (by decide) hv (by decide)
  have e : L3.set 2 ((ix L3 2).1, addU (ix L3 2).2 1) = [(1, 7), (2, 9), (3, 12)] := by decide +kernel
  rw [e] at this
  exact this
theorem s3 : sumE L3 L3 = 0 := by
  have := spl_sumE C2 C2 3 (by decide)
  rwa [spl3] at this
theorem s3S : sortP L3 = L3 := by
  have := spl_sorted C2 3 (by decide)
  rwa [spl3] at this
theorem s3L : sumTo L3 L3 3 = [(1, 14), (2, 18), (3, 22)] := by decide +kernel
theorem e11 : sorE [(1, 0), (1, 0)] = 8 := by
  have P := sortP_perm [((1 : UInt64), (0 : UInt64)), (1, 0)]
  have e : sortP [((1 : UInt64), (0 : UInt64)), (1, 0)] = [(1, 0), (1, 0)] := by
    have := List.perm_replicate.1 (P.trans (List.Perm.of_eq (show [((1 : UInt64), (0 : UInt64)), (1, 0)] = List.replicate 2 (1, 0) from rfl)))
    exact this
  unfold sorE
  rw [e]
  decide
end Go.Proofs.YteiifdpikcnbgaaGreatDoor
