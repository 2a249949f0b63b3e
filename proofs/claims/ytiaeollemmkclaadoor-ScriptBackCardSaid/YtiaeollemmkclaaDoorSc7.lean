import Derived.Test.YtiaeollemmkclaaDoorSc6
/- Layer 40 walked: Print; law 40's giveCommands, big. -/
namespace Go.Proofs.YtiaeollemmkclaaDoor
open Go.RowKit
set_option linter.unusedSimpArgs false
set_option linter.unusedVariables false
theorem sb_append (a b : ByteArray) : (a ++ b).data.toList = a.data.toList ++ b.data.toList := by rw [ByteArray.data_append, Array.toList_append]
theorem printT_app (a b : List CmS) : printT (a ++ b) = printT a ++ printT b := by unfold printT; rw [List.flatMap_append]
theorem printT_one (c : CmS) : printT [c] = c.word.data.toList ++ (c.args.flatMap fun a => 32 :: a.data.toList) ++ [10] := by
  unfold printT printL bytesOfL CmS.ws
  rw [List.flatMap_cons, List.flatMap_nil, List.append_nil, List.map_cons]
  show (_ ++ (c.args.map fun w => w.data.toList).flatMap fun x => 32 :: x) ++ [10] = _
  rw [List.flatMap_map]
theorem printT_le (l : List CmS) (i : Nat) : (printT (l.take i)).length ≤ (printT l).length := by
  have h : printT l = printT (l.take i) ++ printT (l.drop i) := by rw [← printT_app, List.take_append_drop]
  rw [h, List.length_append]
  omega
theorem flat_args_len (l : List ByteArray) (h : ∀ s ∈ l, s.size ≤ 1000000) : (l.flatMap fun a => 32 :: a.data.toList).length ≤ l.length * 1000001 := by
  induction l with
  | nil => exact Nat.le_refl _
  | cons a r ih =>
    have h1 := ih fun s hs => h s (List.mem_cons_of_mem _ hs)
    have h2 := h a (List.mem_cons_self ..)
    have h3 := size_data a
    rw [List.flatMap_cons, List.length_append, List.length_cons, List.length_cons]
    omega
attribute [local irreducible] Callable CallOK CallG CallM DrawG LoopG symR symM
attribute [local irreducible] chkCm printT erV
section
variable {w0 : World} {hp : List Res}
theorem print_vals (L : List CmS) : (1000 < L.length → printE L = 337) ∧ (L.all chkCm = false → printE L = 337) ∧ (L.length ≤ 1000 → L.all chkCm = true → 65536 < (printT L).length → printE L = 5) ∧ (L.length ≤ 1000 → L.all chkCm = true → (printT L).length ≤ 65536 → printE L = 0) := by
  unfold printE
  refine ⟨fun h => if_pos h, fun h => ?_, fun h1 h2 h3 => ?_, fun h1 h2 h3 => ?_⟩
  · by_cases h1 : 1000 < L.length
    · exact if_pos h1
    · rw [if_neg h1, if_pos h]
  · rw [if_neg (by omega), if_neg (by rw [h2]; decide), if_pos h3]
  · rw [if_neg (by omega), if_neg (by rw [h2]; decide), if_neg (by omega)]
end
set_option maxRecDepth 100000 in
set_option maxHeartbeats 1000000 in
theorem print_any (x : SlV CmR) (w : World) (hx : CmsW x w) (hv : Vars w) : Calls Tryd.prog 54 #[x.val] w fun e w' => e = .returned (.tuple #[.string (sb (if printE (cmsL x) = 0 then printT (cmsL x) else [])), erV (printE (cmsL x))]) ∧ Below w.heap.size w w' := by
  have F := FLm.of cmV_len (by decide) hx.rd
  have hfew := hx.few
  have e5 : erV 5 = .iface 137 (.int .i64 5) := erV_ne (by decide)
  have e337 : erV 337 = .iface 137 (.int .i64 337) := erV_ne (by decide)
  have e0 := erV_zero
  have hcl : (cmsL x).length = x.l.length := List.length_map ..
  obtain ⟨v1, v2, v3, v4⟩ := print_vals (cmsL x)
  refine calls_v (n := 52) Tryd.func54 rfl Tryd.ntmps54 [.x (.a (.v (.slice x.A x.l.length x.c)))] (by simp) (.t [.a (.v (.string (sb (if printE (cmsL x) = 0 then printT (cmsL x) else [])))), .a (.v (erV (printE (cmsL x))))]) (fun _ => rfl) ?_
  have bad : ∀ n : Int, n ≠ 0 → printE (cmsL x) = n → sb (if printE (cmsL x) = 0 then printT (cmsL x) else []) = ⟨#[]⟩ ∧ erV (printE (cmsL x)) = .iface 137 (.int .i64 n) := fun n hn h => by
    rw [h, if_neg hn]
    exact ⟨rfl, erV_ne hn⟩
  have good : printE (cmsL x) = 0 → sb (if printE (cmsL x) = 0 then printT (cmsL x) else []) = ⟨(printT (cmsL x)).toArray⟩ ∧ erV (printE (cmsL x)) = .nilIface := fun h => by
    rw [h, if_pos rfl]
    exact ⟨rfl, e0⟩
  obtain ⟨X, hX⟩ : ∃ X, X = sb (if printE (cmsL x) = 0 then printT (cmsL x) else []) := ⟨_, rfl⟩
  obtain ⟨E, hE⟩ : ∃ E, E = erV (printE (cmsL x)) := ⟨_, rfl⟩
  rw [← hX, ← hE] at bad good ⊢
  clear hX hE
  by_cases h1000 : (1000 : Int) < x.l.length
  · obtain ⟨b1, b2⟩ := bad 337 (by decide) (v1 (by omega))
    simp (config := { maxSteps := 1000000 }) only [h1000, b1, b2, push_cast, ↓reduceIte, reduceCtorEq, Nat.reduceEqDiff, Nat.reduceLT]
    done
  have hle : (cmsL x).length ≤ 1000 := by omega
  have gx : ∀ i, i < x.l.length → (cmsL x)[i]? = some (ix x.l i).cm := fun i hi => by unfold cmsL ix; rw [List.getElem?_map, List.getD_eq_getElem?_getD, List.getElem?_eq_getElem hi]; rfl
  simp (config := { maxSteps := 1000000 }) only [h1000, push_cast, ↓reduceIte, reduceCtorEq, Nat.reduceLT]
  refine loop_rule (ι := Nat) (fun i => ⟨[(0, .x (.a (.v (.slice x.A x.l.length x.c)))), (15, .x (.a (.v (.slice x.A x.l.length x.c)))), (16, .x (.a (.v (.int .i64 x.l.length)))), (17, .x (.a (.v (.int .i64 (i : Nat)))))], []⟩) (fun i => i ≤ x.l.length ∧ ((cmsL x).take i).all chkCm = true) (fun i => x.l.length - i) 0 [] ⟨Nat.zero_le _, rfl⟩ ?_ ?_
  · simp (config := { maxSteps := 1000000 }) only [push_cast, ↓Int.cast_ofNat_Int, Int.cast_ofNat_Int, ↓reduceIte, reduceCtorEq, Nat.reduceEqDiff]
  rintro i ⟨hi, hall⟩
  by_cases hlt : (i : Int) < x.l.length
  · have hil : i < x.l.length := by omega
    have i0 : (0 : Int) ≤ i := by omega
    have nx : (i : Int) + 1 ≤ 9223372036854775807 := by omega
    have nm : -9223372036854775808 ≤ (i : Int) + 1 := by omega
    have okx := hx.each _ (ix_mem hil)
    have gi := gx i hil
    obtain ⟨w1, w2⟩ := F.whole i hil
    have a1 := F.some_ (by omega)
    generalize ix x.l i = c at *
    have w1 : rawL w (pAdd x.A (i * 2)) 2 0 = [.v (.string c.word), .v (.slice c.args.A c.args.l.length c.args.c)] := w1
    have tk : (cmsL x).take (i + 1) = (cmsL x).take i ++ [c.cm] := by rw [List.take_add_one, gi]; rfl
    simp (config := { maxSteps := 1000000 }) only [hlt, i0, w1, w2, a1, pAdd_isSome, undef, push_cast, ↓Int.toNat_natCast, ↓reduceIte, reduceCtorEq, Nat.reduceEqDiff, Nat.reduceLT, Nat.reduceAdd]
    (repeat (refine And.intro (by first | omega | decide) ?_))
    refine callG_v rfl cb59 rfl (checkCmK (fun γ w2 hS => ⟨c, rfl, okx.later hS, rfl⟩) (fun γ w2 hS => hv.sat hS)) (dOk_lt rfl) ?_
    cases hck : chkCm c.cm with
    | false =>
      obtain ⟨b1, b2⟩ := bad 337 (by decide) (v2 (by
        rw [← Bool.not_eq_true, List.all_eq_true]
        intro h
        have := h _ (List.mem_of_getElem? gi)
        rw [hck] at this
        cases this))
      simp (config := { maxSteps := 1000000 }) only [Bool.false_eq_true, e337, b1, b2, push_cast, ↓reduceIte, Nat.reduceEqDiff, Nat.reduceLT]
      done
    | true =>
      simp (config := { maxSteps := 1000000 }) only [e0, nx, nm, push_cast, ↓reduceIte, reduceCtorEq, Nat.reduceEqDiff, Nat.reduceLT, Int.reduceNeg]
      (repeat (refine And.intro (by first | omega | decide) ?_))
      refine loopK_normal (i + 1) [] ⟨by omega, by rw [tk, List.all_append, hall]; simp [hck]⟩ (by show x.l.length - (i + 1) < x.l.length - i; omega) ?_
      simp (config := { maxSteps := 1000000 }) only [push_cast, ↓reduceIte, reduceCtorEq, Nat.reduceEqDiff]
  obtain rfl : i = x.l.length := by omega
  rw [← hcl, List.take_length] at hall
  simp (config := { maxSteps := 1000000 }) only [hlt, push_cast, ↓reduceIte, reduceCtorEq, Nat.reduceEqDiff, Nat.reduceLT]
  refine loop_leads (leads_bu 0 6 [(26, .x (.a (.v (.slice x.A x.l.length x.c)))), (27, .x (.a (.v (.int .i64 x.l.length)))), (28, .x (.a (.v (.int .i64 0))))] rfl rfl (by simp (config := { maxSteps := 1000000 }) only [push_cast, ↓reduceIte, Nat.reduceEqDiff]) (by simp (config := { maxSteps := 1000000 }) only [push_cast])) ?_
  refine loop_rule (ι := Nat) (fun i => ⟨[(6, .x (.a (.o 0))), (26, .x (.a (.v (.slice x.A x.l.length x.c)))), (27, .x (.a (.v (.int .i64 x.l.length)))), (28, .x (.a (.v (.int .i64 (i : Nat)))))], [.abs (BuRep w.heap.size (printT ((cmsL x).take i)))]⟩) (fun i => i ≤ x.l.length ∧ (printT ((cmsL x).take i)).length ≤ 65536) (fun i => x.l.length - i) 0 [0] ⟨Nat.zero_le _, by rw [List.take_zero]; unfold printT; exact Nat.zero_le _⟩ ?_ ?_
  · have p0 : printT ((cmsL x).take 0) = [] := by rw [List.take_zero]; unfold printT; rfl
    have p1 : printT [] = [] := by unfold printT; rfl
    simp (config := { maxSteps := 1000000 }) only [p1, push_cast, ↓Int.cast_ofNat_Int, Int.cast_ofNat_Int, ↓reduceIte, Nat.reduceEqDiff, Nat.reduceLT]
  rintro i ⟨hi, hlen⟩
  by_cases hlt : (i : Int) < x.l.length
  case neg =>
    obtain rfl : i = x.l.length := by omega
    rw [← hcl, List.take_length] at hlen
    obtain ⟨b1, b2⟩ := good (v4 hle hall hlen)
    have ht : (cmsL x).take x.l.length = cmsL x := by rw [← hcl, List.take_length]
    simp (config := { maxSteps := 1000000 }) only [hlt, ht, push_cast, ↓reduceIte, Nat.reduceEqDiff, Nat.reduceLT]
    refine callG_string rfl rfl rfl (dOk_lt rfl) (by simp (config := { maxSteps := 1000000 }) only [push_cast, Nat.reduceLT]) ?_
    simp (config := { maxSteps := 1000000 }) only [b1, b2, push_cast, ↓reduceIte, Nat.reduceEqDiff, Nat.reduceLT]
    done
  have hil : i < x.l.length := by omega
  have i0 : (0 : Int) ≤ i := by omega
  have nx : (i : Int) + 1 ≤ 9223372036854775807 := by omega
  have nm : -9223372036854775808 ≤ (i : Int) + 1 := by omega
  have okx := hx.each _ (ix_mem hil)
  have gi := gx i hil
  obtain ⟨w1, w2⟩ := F.whole i hil
  have a1 := F.some_ (by omega)
  generalize ix x.l i = c at *
  have w1 : rawL w (pAdd x.A (i * 2)) 2 0 = [.v (.string c.word), .v (.slice c.args.A c.args.l.length c.args.c)] := w1
  have tk : (cmsL x).take (i + 1) = (cmsL x).take i ++ [c.cm] := by rw [List.take_add_one, gi]; rfl
  have hpt : printT ((cmsL x).take (i + 1)) = printT ((cmsL x).take i) ++ c.word.data.toList ++ (c.args.l.flatMap fun a => 32 :: a.data.toList) ++ [10] := by
    rw [tk, printT_app, printT_one]
    simp only [List.append_assoc]
    rfl
  have hws := size_data c.word
  have hcw := okx.word
  have hcf := okx.few
  have hal := flat_args_len c.args.l okx.size
  simp (config := { maxSteps := 1000000 }) only [hlt, i0, w1, w2, a1, pAdd_isSome, undef, push_cast, ↓Int.toNat_natCast, ↓reduceIte, reduceCtorEq, Nat.reduceEqDiff, Nat.reduceLT, Nat.reduceAdd]
  (repeat (refine And.intro (by first | omega | decide) ?_))
  have side : ∀ {v : Value}, ∀ r ∈ [Res.blk 115 (.c [.v (.string c.word), .v v])], BuSide r := fun {v} r hr => by
    rw [List.mem_singleton.1 hr]
    exact (show (115 : TypeId) ≠ 5 by decide)
  refine callG_write c.word rfl side (by omega) rfl rfl (dOk_lt rfl) (by simp (config := { maxSteps := 1000000 }) only [push_cast, Nat.reduceLT, Nat.reduceAdd]) ?_
  simp (config := { maxSteps := 1000000 }) only [undef, push_cast, ↓reduceIte, reduceCtorEq, Nat.reduceEqDiff, Nat.reduceLT, Nat.reduceAdd]
  have FA := FV.no okx.rd
  obtain ⟨P0, hP0⟩ : ∃ P0, P0 = printT ((cmsL x).take i) := ⟨_, rfl⟩
  rw [← hP0] at hlen hpt ⊢
  refine loop_rule (ι := Nat) (fun k => ⟨[(6, .x (.a (.o 0))), (26, .x (.a (.v (.slice x.A x.l.length x.c)))), (27, .x (.a (.v (.int .i64 x.l.length)))), (28, .x (.a (.v (.int .i64 (i : Nat))))), (36, .x (.a (.v (.slice c.args.A c.args.l.length c.args.c)))), (37, .x (.a (.v (.int .i64 c.args.l.length)))), (38, .x (.a (.v (.int .i64 (k : Nat)))))], [.abs (BuRep w.heap.size (P0 ++ c.word.data.toList ++ ((c.args.l.take k).flatMap fun a => 32 :: a.data.toList)))]⟩)
    (fun k => k ≤ c.args.l.length) (fun k => c.args.l.length - k) 0 [0] (Nat.zero_le _) ?_ ?_
  · have p0 : ((c.args.l.take 0).flatMap fun a => 32 :: a.data.toList) = [] := by rw [List.take_zero]; rfl
    simp (config := { maxSteps := 1000000 }) only [List.take_zero, List.flatMap_nil, List.append_nil, push_cast, ↓Int.cast_ofNat_Int, Int.cast_ofNat_Int, ↓reduceIte, Nat.reduceEqDiff, Nat.reduceLT]
    done
  intro k hk
  have ts : ∀ s ∈ c.args.l.take k, s.size ≤ 1000000 := fun s hs => okx.size s (List.mem_of_mem_take hs)
  have tl := flat_args_len _ ts
  rw [List.length_take] at tl
  have tl2 : ((c.args.l.take k).flatMap fun a => 32 :: a.data.toList).length ≤ 1000000 * 1000001 := Nat.le_trans tl (Nat.mul_le_mul_right _ (by omega))
  by_cases hkl : (k : Int) < c.args.l.length
  · have hkn : k < c.args.l.length := by omega
    obtain ⟨s, hs⟩ : ∃ s, c.args.l[k]? = some s := ⟨_, List.getElem?_eq_getElem hkn⟩
    obtain ⟨c1, o1⟩ := FA.cell (i := k) (u := .string s) (by rw [List.getElem?_map, hs]; rfl)
    have hA := FA.some_ (by rw [List.length_map]; omega)
    have hss := okx.size s (List.mem_of_getElem? hs)
    have k0 : (0 : Int) ≤ k := by omega
    have kx : (k : Int) + 1 ≤ 9223372036854775807 := by omega
    have km : -9223372036854775808 ≤ (k : Int) + 1 := by omega
    have hsz : (⟨#[32]⟩ : ByteArray).size + s.size ≤ 9223372036854775807 := by show 1 + s.size ≤ _; omega
    have h32 : (⟨#[32]⟩ ++ s : ByteArray).data.toList = 32 :: s.data.toList := sb_append _ _
    have h32s : (⟨#[32]⟩ ++ s : ByteArray).size = 1 + s.size := by rw [ByteArray.size_append]; rfl
    have tk2 : ((c.args.l.take (k + 1)).flatMap fun a => 32 :: a.data.toList) = ((c.args.l.take k).flatMap fun a => 32 :: a.data.toList) ++ 32 :: s.data.toList := by
      rw [List.take_add_one, hs, Option.toList_some, List.flatMap_append, List.flatMap_cons, List.flatMap_nil, List.append_nil]
    simp (config := { maxSteps := 1000000 }) only [hkl, k0, c1, o1, hA, hsz, push_cast, ↓Int.toNat_natCast, ↓reduceIte, reduceCtorEq, Nat.reduceEqDiff, Nat.reduceLT]
    (repeat (refine And.intro (by first | omega | decide) ?_))
    refine callG_write (⟨#[32]⟩ ++ s) (R := []) rfl (fun r hr => by cases hr) (by rw [h32s, List.length_append, List.length_append]; omega) rfl rfl (dOk_lt rfl) (by simp (config := { maxSteps := 1000000 }) only [push_cast, Nat.reduceLT]) ?_
    simp (config := { maxSteps := 1000000 }) only [kx, km, push_cast, ↓reduceIte, Nat.reduceEqDiff, Nat.reduceLT, Int.reduceNeg]
    (repeat (refine And.intro (by first | omega | decide) ?_))
    refine loopK_normal (k + 1) [0] (by show k + 1 ≤ _; omega) (by show c.args.l.length - (k + 1) < c.args.l.length - k; omega) ?_
    simp (config := { maxSteps := 1000000 }) only [tk2, h32, List.append_assoc, push_cast, ↓reduceIte, Nat.reduceEqDiff, Nat.reduceLT]
    done
  obtain rfl : k = c.args.l.length := by omega
  rw [List.take_length] at tl2
  simp (config := { maxSteps := 1000000 }) only [hkl, List.take_length, push_cast, ↓reduceIte, Nat.reduceEqDiff, Nat.reduceLT]
  refine callG_write ⟨#[10]⟩ (R := []) rfl (fun r hr => by cases hr) (by rw [List.length_append, List.length_append]; show _ + 1 ≤ _; omega) rfl rfl (dOk_lt rfl) (by simp (config := { maxSteps := 1000000 }) only [push_cast, Nat.reduceLT]) ?_
  have h10 : (⟨#[10]⟩ : ByteArray).data.toList = [10] := rfl
  rw [h10, ← hpt]
  simp (config := { maxSteps := 1000000 }) only [push_cast, ↓reduceIte]
  refine callG_v rfl buLn rfl (buLenK rfl) (dOk_lt rfl) ?_
  by_cases hbig : (65536 : Int) < (printT ((cmsL x).take (i + 1))).length
  · have := printT_le (cmsL x) (i + 1)
    obtain ⟨b1, b2⟩ := bad 5 (by decide) (v3 hle hall (by omega))
    simp (config := { maxSteps := 1000000 }) only [hbig, b1, b2, push_cast, ↓reduceIte, Nat.reduceEqDiff, Nat.reduceLT]
    done
  · simp (config := { maxSteps := 1000000 }) only [hbig, nx, nm, push_cast, ↓reduceIte, Nat.reduceEqDiff, Nat.reduceLT, Int.reduceNeg]
    refine loopK_normal (i + 1) [0] ⟨by show i + 1 ≤ _; omega, by show (printT _).length ≤ _; omega⟩ (by show x.l.length - (i + 1) < x.l.length - i; omega) ?_
    simp (config := { maxSteps := 1000000 }) only [push_cast, ↓reduceIte, Nat.reduceEqDiff, Nat.reduceLT]
theorem printK {w0 : World} {hp : List Res} {sv : Sv} {L : List CmS} (h : ShowsCms w0 No hp sv L) (hv : Vars w0) : CallOK Tryd.prog w0 No 54 [sv] hp (.t [.a (.v (.string (sb (if printE L = 0 then printT L else [])))), .a (.v (erV (printE L)))]) hp := callOK_v fun γ w hS => by
  obtain ⟨x, e, k, rfl⟩ := h γ w hS
  show Calls _ _ #[sv.val γ] w _
  rw [e]
  exact print_any x w k (hv.sat hS)
end Go.Proofs.YtiaeollemmkclaaDoor
