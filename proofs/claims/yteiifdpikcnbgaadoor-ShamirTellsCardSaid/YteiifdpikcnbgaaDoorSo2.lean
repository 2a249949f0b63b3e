/- The library's sort and copy at shares, in the engine's words. -/
import Derived.Test.YteiifdpikcnbgaaDoorSoL
import Derived.Test.YteiifdpikcnbgaaDoorLiS
import Derived.Lib.Walk
import Derived.Shelf.SlicesE.Kit
namespace Go.Proofs
open Go.Shelf Go.RowKit Go.Lib Go.Sort
set_option linter.unusedVariables false
theorem Tryd.isNaN_u64 (x : Int) (w : World) : Calls Tryd.prog 107 #[.int .u64 x] w fun e w' => e = .returned (.bool false) ∧ w' = w := by
  have t4 := Tryd.underlying4; have a4 := Tryd.isAgg4; have z4 := Tryd.sizeOf4; have v4 := Tryd.zeroValue4; have t22 := Tryd.underlying23; have a22 := Tryd.isAgg23; have z22 := Tryd.sizeOf23; have v22 := Tryd.zeroValue23
  go_enter Tryd.func107, Tryd.ntmps107
  go_wp2
  go_ret
  exact ⟨by simp, rfl⟩
set_option maxRecDepth 100000 in
set_option maxHeartbeats 1000000 in
theorem Tryd.compare_u64 (x y : Int) (w : World) : Calls Tryd.prog 82 #[.int .u64 x, .int .u64 y] w fun e w' => e = .returned (.int .i64 (Lib.compareInt x y)) ∧ w' = w := by
  have t3 := Tryd.underlying3; have a3 := Tryd.isAgg3; have z3 := Tryd.sizeOf3; have v3 := Tryd.zeroValue3; have t4 := Tryd.underlying4; have a4 := Tryd.isAgg4; have z4 := Tryd.sizeOf4; have v4 := Tryd.zeroValue4; have t22 := Tryd.underlying23; have a22 := Tryd.isAgg23; have z22 := Tryd.sizeOf23; have v22 := Tryd.zeroValue23
  have e7 : ∀ args w, (callFunc 107 args).run Tryd.prog w = .ok (.enter 107 args) w := enters_of Tryd.func107 (by kernel_rfl) rfl
  go_enter Tryd.func82, Tryd.ntmps82
  go_wp2_with (go_at_call 107; refine (Tryd.isNaN_u64 _ _).mono ?_; rintro e w' ⟨rfl, hw⟩; rw [hw])
  all_goals (go_ret; refine ⟨?_, rfl⟩; unfold Lib.compareInt; (repeat' split) <;> first | rfl | (exfalso; omega))
set_option maxRecDepth 100000 in
set_option maxHeartbeats 1000000 in
/-- The closure: two blocks are laid. -/
theorem Tryd.cmpSh_int (x1 x2 y1 y2 : Int) (W : World) : Calls Tryd.prog 81 #[.agg #[.int .u64 x1, .int .u64 x2], .agg #[.int .u64 y1, .int .u64 y2]] W fun e w' => e = .returned (.int .i64 (Lib.compareInt x1 y1)) ∧ ∃ q os', w' = grow (W.drewN q) os' := by
  have hcon := fun W' => Tryd.compare_u64 x1 y1 W'
  generalize Lib.compareInt x1 y1 = r at hcon ⊢
  go_enter Tryd.func81, Tryd.ntmps81
  go_wp2_with (go_at_call 82; refine (hcon _).mono ?_; rintro e w' ⟨rfl, rfl⟩)
  go_ret
  exact ⟨rfl, 0, _, by rw [alloc_eq_grow, alloc_eq_grow, grow_grow]; rfl⟩
set_option maxRecDepth 100000 in
theorem Tryd.infoSh : ∃ i0, Tryd.prog.info? 76 = some i0 ∧ i0.zero = some (.agg #[.int .u64 0, .int .u64 0]) ∧ i0.size = 2 ∧ i0.bytes = 16 := ⟨_, rfl, rfl, rfl, rfl⟩
set_option maxRecDepth 100000 in
set_option maxHeartbeats 1000000 in
theorem Tryd.cloneSh_at (ad : Addr) (n c : Nat) (news : List Value) (w : World) (hl : news.length = n * 2) (hn : n ≤ 1000) (hc : ∀ j u, news[j]? = some u → w.cell? (ad.add j) = some u) (h1 : ∀ u ∈ news, u.oneCell' = true) :
    Calls Tryd.prog 79 #[.slice (some ad) n c] w fun e w' => ∃ v', e = .returned v' ∧ w'.ownsRow w.heap.size 76 2 v' n news ∧ Below w.heap.size w w' := by
  obtain ⟨i0, hi, hz0, hz1, hz2⟩ := Tryd.infoSh
  have t22 : Tryd.prog.underlying 90 = some (.slice 76) := Tryd.cloneSh.t22
  have q22 : ∀ (w : World) (a : Option Addr) (n c n' c' : Nat), (binOp .eql 90 (.slice a n c) (.slice none n' c')).run Tryd.prog w = .ok (.bool a.isNone) w := fun w a n c n' c' => Lib.run_eql_slice_nil w _ _ a n c n' c' t22
  have u22 : ∀ w, Sem.run Tryd.prog (underlying 90) w = .ok (TypeDesc.slice 76) w := run_underlying t22
  have z23 : ∀ w, (Go.sizeOf 76).run Tryd.prog w = .ok 2 w := Tryd.sizeOf76
  have A : Aside (∀ j u, news[j]? = some u → w.cell? (ad.add j) = some u) := hc
  clear hc
  go_enter Tryd.func79, Tryd.ntmps79
  go_wp2_with (at_builtin; refine wpList_append_own _ rfl _ _ 90 rfl w.heap.size 76 i0 _ 2 16 t22 hi hz0 hz1 hz2 rfl (by decide) _ _ _ rfl (World.ownsRow_made w #[] 0 (Nat.le_refl _) (Nat.zero_le _) (by simp)) ad n c news rfl ?qc1 ?qc2 ?qc3 ?qc4 ?qc5 ?qc6 ?_)
  case qc1 => exact hl
  case qc2 =>
    intro j u hj
    exact Lib.cell?_alloc_some _ (A.out j u hj)
  case qc3 => exact h1
  case qc4 => rw [Nat.zero_add]; unfold maxLen; omega
  case qc5 => rw [Nat.zero_add]; omega
  case qc6 => simp
  intro v' w1 hown hgrow hnil
  go_wp2
  go_ret
  refine ⟨v', rfl, by simpa using hown, ?_⟩
  exact ((Below.refl _ w).alloc (Nat.le_refl _) _).grown hgrow (by simp) (by intro k hk; simp [Value.ownBlock] at hk; omega)
end Go.Proofs
namespace Go.Proofs.YteiifdpikcnbgaaDoor
open Go.RowKit
set_option linter.unusedSimpArgs false
set_option linter.unusedVariables false
theorem cmpS_int (x y : Sh) : Lib.compareInt (x.1.toNat : Int) (y.1.toNat : Int) = cmpS x y := by
  unfold Lib.compareInt cmpS
  simp only [UInt64.lt_iff_toNat_lt, Int.ofNat_lt]
theorem cmpSh_lays (blk size : Nat) (w : World) : CmpLays Tryd.prog 81 #[] shv 2 cmpS blk 0 size w := fun _ _ _ _ x y => by
  have := Tryd.cmpSh_int x.1.toNat x.2.toNat y.1.toNat y.2.toNat
  rw [cmpS_int] at this
  exact this _
theorem sortF_any (d : Array Sh) (g cap : Nat) (w : World) (hH : Go.Sort.HoldsK shv 2 w g 0 d) (hg : g < w.heap.size) (hsz : d.size < 4611686018427387904) :
    Calls Tryd.prog 80 #[.slice (some ⟨g, 0, none⟩) d.size cap, .func (.func 81) #[] #[]] w fun e w' => e = .returned (.tuple #[]) ∧ ∃ n os, w' = sortWorldK shv 2 w g 0 n (sortA d) os := by
  have eg : ∀ args w, (callFunc 81 args).run Tryd.prog w = .ok (.enter 81 args) w := enters_of Tryd.func81 (by kernel_rfl) rfl
  exact AnyQ.slices_SortFunc_eq Tryd.sortSh 2 Tryd.isAgg76 Tryd.sizeOf76 shv shv_len shv_one cmpS swoS 81 #[] g 0 cap d w eg (cmpSh_lays g d.size w) hH hg hsz
theorem sortF_none (w : World) : Calls Tryd.prog 80 #[.slice none 0 0, .func (.func 81) #[] #[]] w fun e w' => e = .returned (.tuple #[]) ∧ w' = w :=
  AnyF.slices_SortFunc_none Tryd.sortSh none 0 _ w
theorem sortOK {w0 : World} {ow : Nat → Prop} {hp : List Res} {k : Nat} {L : List Sh} (hk : hp[k]? = some (.onn 76 2 (.c (shc L)))) (hl : L.length ≤ 1000) :
    CallOK Tryd.prog w0 ow 80 [.x (.a (.o k)), .x (.a (.v (.func (.func 81) #[] #[])))] hp (.t []) (hp.set k (.onn 76 2 (.c (shc (sortP L))))) :=
  callOK_sort hk (fun _ => rfl) (fun g cap w hH hg => sortF_any L.toArray g cap w hH hg (by simp; omega)) fun w _ => sortF_none w
/-! ### Copies -/
theorem clone_any (l : List Sh) (A : Option Addr) (c : Nat) (w : World) (hl : l.length ≤ 1000) (hR : RdV w w.heap.size A (shs l)) : Calls Tryd.prog 79 #[.slice A l.length c] w fun e w' => ∃ v, e = .returned v ∧ w'.ownsRow w.heap.size 76 2 v l.length (shs l) ∧ Below w.heap.size w w' := by
  cases A with
  | none =>
    have hn : l = [] := by
      cases l with
      | nil => rfl
      | cons x r => obtain ⟨b, off, h, _⟩ := hR (by rw [shs_len]; simp); cases h
    subst hn
    refine (AnyE.slices_Clone_nil Tryd.cloneSh 0 c w).mono ?_
    rintro e w' ⟨rfl, rfl⟩
    exact ⟨_, rfl, World.ownsRow_nil _ _ _ _, Below.refl _ _⟩
  | some a =>
    refine Tryd.cloneSh_at a l.length c (shs l) w (shs_len l) hl (fun j u hj => ?_) ?_
    · obtain ⟨b, off, h1, h2, h3⟩ := hR (by have := (List.getElem?_eq_some_iff.1 hj).1; omega)
      cases h1
      rw [add_plain]
      exact h3 j u hj
    · intro u hu
      obtain ⟨p, hp, hu⟩ := List.mem_flatMap.1 hu
      exact shv_one p u hu
theorem cloneOK {w0 : World} {hp : List Res} {sv : Sv} {l : List Sh} (hl : l.length ≤ 1000) (h : ShowsR w0 No hp sv l.length (shs l)) (hbr : ∀ r ∈ hp, Res.bnd hp.length r) : CallOK Tryd.prog w0 No 79 [sv] hp (.x (.a (.o hp.length))) (hp ++ [.onn 76 2 (.c (shc l))]) := fun γ w hS => by
  obtain ⟨A, c, e1, b1, r1⟩ := h γ w hS
  show Calls _ _ #[sv.val γ] w _
  rw [e1]
  refine (clone_any l A c w hl r1).mono ?_
  rintro en w' ⟨v, rfl, ho, hb⟩
  have hlen := hS.len
  refine ⟨[.s v], by simp [Sv.val, Sc.val, At.val, nmS_last hlen], ?_⟩
  refine hS.push (X := fun _ => False) (Keeps.of_below (own := fun _ => False) hb) (fun b h => h.elim) hbr ⟨by rw [get_last hlen, nmS_last hlen], by decide, l.length, ?_⟩ ?_
  · rw [nmS_last hlen]
    have e2 : (shc l).map (At.val (γ ++ [.s v])) = shs l := shc_vals _ l
    show World.ownsRow _ 0 _ 2 v l.length ((shc l).map (At.val (γ ++ [.s v])))
    rw [e2]
    exact ⟨ho.1, ho.2.imp id fun ⟨g, cap, cur, h1, _, h3⟩ => ⟨g, cap, cur, h1, Nat.zero_le _, h3⟩⟩
  · intro n hn
    simp only [Res.has, nmS_last hlen] at hn
    have := World.ownsRow.lt ho n hn
    exact ⟨.inr this.1, this.2⟩
end Go.Proofs.YteiifdpikcnbgaaDoor
