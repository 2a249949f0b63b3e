import Derived.Test.YtiaeollemmkclaaDoorPkI
/- law 13's read, told alike for every kind. -/
namespace Go.Proofs.YtiaeollemmkclaaDoor
open Go.RowKit
set_option linter.unusedSimpArgs false
set_option linter.unusedVariables false
def rdT (f : FdR) : TypeId := if f.k = 0 then 5 else if f.k = 1 then 27 else if f.k = 2 then 5 else if f.k = 3 then 5 else 136
def rdC (f : FdR) (s : RS) : Cont := if f.k = 0 then .u8 [] else if f.k = 1 then .u64 (numsOfS f.many f.most s).1 else if f.k = 2 then .u8 (bytesOfS f.many s).1 else if f.k = 3 then .u8 [] else .u32 (rowOfS f.many s).1
/-- How the reader stands behind it. -/
def rdN (f : FdR) (s : RS) : RS := if f.k = 0 then (numS f.most s).2.2 else if f.k = 1 then (numsOfS f.many f.most s).2 else if f.k = 2 then (bytesOfS f.many s).2 else if f.k = 3 then (sumOfS s).2 else (rowOfS f.many s).2
/-- The field that is read, its own slice named j. -/
def rdA (f : FdR) (s : RS) (j : Nat) : List At :=
  if f.k = 0 then fdL (.v (vU8 f.k)) (.v (vU64 (numS f.most s).1)) nl nl (List.replicate 32 0) nl
  else if f.k = 1 then fdL (.v (vU8 f.k)) (.v (.int .u64 0)) (.o j) nl (List.replicate 32 0) nl
  else if f.k = 2 then fdL (.v (vU8 f.k)) (.v (.int .u64 0)) nl (.o j) (List.replicate 32 0) nl
  else if f.k = 3 then fdL (.v (vU8 f.k)) (.v (.int .u64 0)) nl nl (sumOfS s).1 nl
  else fdL (.v (vU8 f.k)) (.v (.int .u64 0)) nl nl (List.replicate 32 0) (.o j)
theorem fdL_ren (ρ : List Nat) (k n l b : At) (s : List UInt8) (x : At) : (fdL k n l b s x).map (At.ren ρ) = fdL (k.ren ρ) (n.ren ρ) (l.ren ρ) (b.ren ρ) s (x.ren ρ) := by
  unfold fdL
  simp only [List.map_cons, List.map_append, List.map_nil, renf8]
  rfl
theorem rdA_ren (ρ : List Nat) (f : FdR) (s : RS) (j : Nat) : (rdA f s j).map (At.ren ρ) = rdA f s (rn ρ j) := by
  unfold rdA
  split
  · exact fdL_ren ..
  · split
    · exact fdL_ren ..
    · split
      · exact fdL_ren ..
      · split <;> exact fdL_ren ..
theorem fdL_bnd {m : Nat} {k n l b : At} {s : List UInt8} {x : At} (h1 : k.bnd m) (h2 : n.bnd m) (h3 : l.bnd m) (h4 : b.bnd m) (h5 : x.bnd m) : ∀ y ∈ fdL k n l b s x, y.bnd m := by
  intro y hy
  unfold fdL at hy
  simp only [List.mem_cons, List.mem_append, List.mem_map, List.not_mem_nil, or_false] at hy
  rcases hy with rfl | rfl | rfl | rfl | ⟨z, _, rfl⟩ | rfl | rfl | rfl
  · exact h1
  · exact h2
  · exact h3
  · exact h4
  · trivial
  · exact h5
  · trivial
  · trivial
theorem rdA_bnd (f : FdR) (s : RS) {j m : Nat} (h : j < m) : (∀ x ∈ rdA f s j, x.bnd m) = True := eq_true (by
  unfold rdA
  split
  · exact fdL_bnd trivial trivial trivial trivial trivial
  · split
    · exact fdL_bnd trivial trivial h trivial trivial
    · split
      · exact fdL_bnd trivial trivial trivial h trivial
      · split
        · exact fdL_bnd trivial trivial trivial trivial trivial
        · exact fdL_bnd trivial trivial trivial trivial h)
theorem rdC_bnd (f : FdR) (s : RS) (m : Nat) : Cont.bnd m (rdC f s) = True := eq_true (by
  unfold rdC
  split
  · trivial
  · split
    · trivial
    · split
      · trivial
      · split <;> trivial)
theorem rdC_ren (f : FdR) (s : RS) (ρ : List Nat) : Cont.ren ρ (rdC f s) = rdC f s := by
  unfold rdC
  split
  · rfl
  · split
    · rfl
    · split
      · rfl
      · split <;> rfl
theorem rdA_sbnd (f : FdR) (s : RS) {j m : Nat} (h : j < m) : Sc.bnd m (.g (rdA f s j)) = True := rdA_bnd f s h
theorem rdA_vbnd (f : FdR) (s : RS) {j m : Nat} (h : j < m) : Sv.bnd m (.x (.g (rdA f s j))) = True := rdA_bnd f s h
theorem rdA_sren (f : FdR) (s : RS) (j : Nat) (ρ : List Nat) : Sc.ren ρ (.g (rdA f s j)) = .g (rdA f s (rn ρ j)) := by
  show Sc.g _ = _
  rw [rdA_ren]
theorem rdA_vren (f : FdR) (s : RS) (j : Nat) (ρ : List Nat) : Sv.ren ρ (.x (.g (rdA f s j))) = .x (.g (rdA f s (rn ρ j))) := by
  show Sv.x (Sc.g _) = _
  rw [rdA_ren]
theorem rdN_ok {f : FdR} {s : RS} {X : Nat → Prop} {w : World} (h : s.Ok X w) : (rdN f s).Ok X w := by
  unfold rdN
  split
  · exact numS_ok h
  · split
    · exact numsOfS_ok h
    · split
      · exact bytesOfS_ok h
      · split
        · exact sumOfS_ok h
        · exact rowOfS_ok h
theorem rdN_rs (f : FdR) (s : RS) : (rdN f s).rs = (takeF f.fd s.rs).2 := by
  unfold rdN takeF
  simp only [show f.fd.k = f.k from rfl, show f.fd.most = f.most from rfl, show f.fd.many = f.many from rfl]
  by_cases k0 : f.k = 0
  · simp only [if_pos k0]; exact congrArg (fun x => x.2.2) (numS_rs f.most s)
  simp only [if_neg k0]
  by_cases k1 : f.k = 1
  · simp only [if_pos k1]; exact congrArg (fun x => x.2) (numsOfS_rs f.many f.most s)
  simp only [if_neg k1]
  by_cases k2 : f.k = 2
  · simp only [if_pos k2]; exact congrArg (fun x => x.2) (bytesOfS_rs f.many s)
  simp only [if_neg k2]
  by_cases k3 : f.k = 3
  · simp only [if_pos k3]; exact congrArg (fun x => x.2) (sumOfS_rs s)
  simp only [if_neg k3]; exact congrArg (fun x => x.2) (rowOfS_rs f.many s)
theorem RS.From.read {s : RS} {A : Option Addr} {vs : List Value} (h : s.From A vs) (f : FdR) : (rdN f s).From A vs := fun X w hf => rdN_ok (h X w hf)
section
variable {X : Nat → Prop} {w : World} {s : RS}
/-- One slice more that is empty. -/
theorem RdG.ghost {f : FuncId} {args : List Sv} {sv : Sv} {t : RS} {e : TypeId} {c : Cont} (hc : c.len = 0) (hsv : sv.bnd 1) (h : RdG f args sv s t [] X w) : RdG f args sv s t [.own e c] X w := fun g γ hS => (h g γ hS).mono (by
  rintro en w' ⟨γ1, he, h3⟩
  have hl := h3.len
  have hcv : c.vals (γ1 ++ [Nm.s (.slice none 0 0)]) = [] := by
    rw [← List.length_eq_zero_iff, Cont.len_vals, hc]
  have hl1 : γ1.length = 1 := hl
  refine ⟨γ1 ++ [.s (.slice none 0 0)], by rw [he, Sv.ext (by rw [hl1]; exact hsv)], ?_⟩
  refine h3.push (X := fun _ => False) (Keeps.refl _ _) (fun b h => h.elim) (fun r hr => ?_) ⟨by rw [get_last hl, nmS_last hl], ?_⟩ ?_
  · obtain rfl : r = _ := by simpa using hr
    simp only [push_cast, ↓Int.toNat_natCast, ↓Int.cast_ofNat_Int, Int.cast_ofNat_Int, ↓reduceIte, reduceCtorEq, Nat.reduceEqDiff, Nat.reduceLT, Nat.reduceLeDiff, Nat.reduceAdd, Nat.reduceSub, Nat.reduceMul, Int.reduceNeg, Int.reduceLE, Int.reduceLT, Int.reduceToNat, Int.reduceAdd, Int.reduceSub, Int.reduceMul, Int.reduceEq]
  · rw [nmS_last hl, hcv]
    exact Own.nil_ _ _ _
  · intro b hb
    simp only [Res.has, nmS_last hl, Value.ownBlock] at hb
    cases hb)
theorem read13_all (f : FdR) (hf : f.Ok w) (hs : s.Ok X w) : RdG 24 [.x (.g (fdA f))] (.x (.g (rdA f s 1))) s (rdN f s) [.own (rdT f) (rdC f s)] X w := by
  have nb : nl.bnd 1 := trivial
  unfold rdA rdN rdT rdC
  by_cases k0 : f.k = 0
  · simp only [if_pos k0]
    exact (read13_num f hf hs k0).ghost rfl (fdL_bnd trivial trivial nb nb nb)
  simp only [if_neg k0]
  by_cases k1 : f.k = 1
  · simp only [if_pos k1]
    exact read13_nums f hf hs k0 k1
  simp only [if_neg k1]
  by_cases k2 : f.k = 2
  · simp only [if_pos k2]
    exact read13_bytes f hf hs k0 k1 k2
  simp only [if_neg k2]
  by_cases k3 : f.k = 3
  · simp only [if_pos k3]
    exact (read13_sum f hf hs k0 k1 k2 k3).ghost rfl (fdL_bnd trivial trivial nb nb nb)
  simp only [if_neg k3]
  exact read13_row f hf hs k0 k1 k2 k3
end
/-- What was read shows the field. -/
theorem showsFd_read {w0 : World} {hp : List Res} {f : FdR} {s : RS} {j : Nat} (hj : hp[j]? = some (.own (rdT f) (rdC f s))) : ShowsFd w0 hp (.x (.g (rdA f s j))) (takeF f.fd s.rs).1 := fun γ w hS => by
  obtain ⟨A, cap, h1, h2, h3, h4⟩ := hS.rdOwn hj
  have z32 : (List.replicate 32 (0 : UInt8)).length = 32 := rfl
  have nok : ∀ {α : Type} (g : α → Value), (⟨none, 0, []⟩ : SlR α).Ok g w := fun g => ⟨Nat.le_refl _, RdV.nil_⟩
  have agg : ∀ (k n l b : At) (q : List UInt8) (x : At), (Sv.x (.g (fdL k n l b q x))).val γ = .agg ([k.val γ, n.val γ, l.val γ, b.val γ] ++ (q.map vU8 ++ [x.val γ, .int .i64 0, .int .u64 0])).toArray := fun k n l b q x => by
    show Value.agg _ = _
    unfold fdL
    simp only [List.map_cons, List.map_append, List.map_map, List.map_nil]
    rfl
  unfold takeF
  simp only [show f.fd.k = f.k from rfl, show f.fd.most = f.most from rfl, show f.fd.many = f.many from rfl]
  unfold rdC at h1 h2 h4
  unfold rdA
  by_cases k0 : f.k = 0
  · simp only [if_pos k0]
    refine ⟨⟨f.k, (numS f.most s).1, ⟨none, 0, []⟩, ⟨none, 0, []⟩, List.replicate 32 0, ⟨none, 0, []⟩, 0, 0⟩, agg .., ⟨nok _, nok _, z32, nok _, ⟨by show (-9223372036854775808 : Int) ≤ 0; decide, by show (0 : Int) ≤ 9223372036854775807; decide⟩⟩, ?_⟩
    have := congrArg Prod.fst (numS_rs f.most s)
    show Fd.mk _ _ _ _ _ _ _ _ = _
    rw [show (numS f.most s).1 = (numR f.most s.rs).1 from this]
    rfl
  simp only [if_neg k0] at h1 h2 h4 ⊢
  by_cases k1 : f.k = 1
  · simp only [if_pos k1] at h1 h2 h4 ⊢
    refine ⟨⟨f.k, 0, ⟨A, cap, (numsOfS f.many f.most s).1⟩, ⟨none, 0, []⟩, List.replicate 32 0, ⟨none, 0, []⟩, 0, 0⟩, ?_, ⟨⟨h2, h4⟩, nok _, z32, nok _, ⟨by show (-9223372036854775808 : Int) ≤ 0; decide, by show (0 : Int) ≤ 9223372036854775807; decide⟩⟩, ?_⟩
    · rw [agg]
      show Value.agg ([_, _, nmS γ j, _] ++ _).toArray = _
      rw [h1]
      rfl
    have := congrArg Prod.fst (numsOfS_rs f.many f.most s)
    show Fd.mk _ _ _ _ _ _ _ _ = _
    rw [show (numsOfS f.many f.most s).1 = (numsOf f.many f.most s.rs).1 from this]
    rfl
  simp only [if_neg k1] at h1 h2 h4 ⊢
  by_cases k2 : f.k = 2
  · simp only [if_pos k2] at h1 h2 h4 ⊢
    refine ⟨⟨f.k, 0, ⟨none, 0, []⟩, ⟨A, cap, (bytesOfS f.many s).1⟩, List.replicate 32 0, ⟨none, 0, []⟩, 0, 0⟩, ?_, ⟨nok _, ⟨h2, h4⟩, z32, nok _, ⟨by show (-9223372036854775808 : Int) ≤ 0; decide, by show (0 : Int) ≤ 9223372036854775807; decide⟩⟩, ?_⟩
    · rw [agg]
      show Value.agg ([_, _, _, nmS γ j] ++ _).toArray = _
      rw [h1]
      rfl
    have := congrArg Prod.fst (bytesOfS_rs f.many s)
    show Fd.mk _ _ _ _ _ _ _ _ = _
    rw [show (bytesOfS f.many s).1 = (bytesOf f.many s.rs).1 from this]
    rfl
  simp only [if_neg k2] at h1 h2 h4 ⊢
  by_cases k3 : f.k = 3
  · simp only [if_pos k3]
    refine ⟨⟨f.k, 0, ⟨none, 0, []⟩, ⟨none, 0, []⟩, (sumOfS s).1, ⟨none, 0, []⟩, 0, 0⟩, agg .., ⟨nok _, nok _, sumOfS_len s, nok _, ⟨by show (-9223372036854775808 : Int) ≤ 0; decide, by show (0 : Int) ≤ 9223372036854775807; decide⟩⟩, ?_⟩
    have := congrArg Prod.fst (sumOfS_rs s)
    show Fd.mk _ _ _ _ _ _ _ _ = _
    rw [show (sumOfS s).1 = (sumOf s.rs).1 from this]
    rfl
  simp only [if_neg k3] at h1 h2 h4 ⊢
  refine ⟨⟨f.k, 0, ⟨none, 0, []⟩, ⟨none, 0, []⟩, List.replicate 32 0, ⟨A, cap, (rowOfS f.many s).1⟩, 0, 0⟩, ?_, ⟨nok _, nok _, z32, ⟨h2, h4⟩, ⟨by show (-9223372036854775808 : Int) ≤ 0; decide, by show (0 : Int) ≤ 9223372036854775807; decide⟩⟩, ?_⟩
  · rw [agg]
    show Value.agg ([_, _, _, _] ++ (_ ++ [nmS γ j, _, _])).toArray = _
    rw [h1]
    rfl
  have := congrArg Prod.fst (rowOfS_rs f.many s)
  show Fd.mk _ _ _ _ _ _ _ _ = _
  rw [show (rowOfS f.many s).1 = (rowOf f.many s.rs).1 from this]
  rfl
end Go.Proofs.YtiaeollemmkclaaDoor
