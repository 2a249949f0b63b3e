import Derived.Test.YtiaeollemmkclaaDoorSc1
/- Layer 40 walked: Bytes, Check. -/
namespace Go.Proofs.YtiaeollemmkclaaDoor
open Go.RowKit
set_option linter.unusedSimpArgs false
set_option linter.unusedVariables false
theorem digitF_bd (c : UInt8) : -1 ≤ digitF c ∧ digitF c ≤ 15 := by
  unfold digitF
  split
  · omega
  · split <;> omega
theorem hexF_two (a b : UInt8) (r : List UInt8) : hexF (a :: b :: r) = if digitF a < 0 ∨ digitF b < 0 then none else (hexF r).map fun l => UInt8.ofInt (16 * digitF a + digitF b) :: l := rfl
theorem hexF_nil : hexF [] = some [] := rfl
theorem sAt_drop {s : ByteArray} {i : Nat} {c : UInt8} {t : List UInt8} (h : s.data.toList.drop i = c :: t) : sAt s i = c := by
  have h1 : s.data.toList[i]? = some c := by rw [← List.head?_drop, h]; rfl
  unfold sAt ix
  rw [List.getD_eq_getElem?_getD, h1]
  rfl
theorem form_ascii {w : ByteArray} {f : List UInt8} (h : formF w = some f) : ∀ c ∈ f, c.toNat < 128 := by
  unfold formF at h
  repeat' split at h
  all_goals cases h
  all_goals decide
section
variable {w0 : World} {hp : List Res}
theorem digitK {ow : Nat → Prop} (c : UInt8) : CallOK Tryd.prog w0 ow 139 [.x (.a (.v (vU8 c)))] hp (.x (.a (.v (.int .i64 (digitF c))))) hp := callOK_v fun γ w _ => digit_any c w
theorem cmFormK {ow : Nat → Prop} (s : ByteArray) : CallOK Tryd.prog w0 ow 108 [.x (.a (.v (.string s)))] hp (.t [.a (.v (.string (sb ((formF s).getD [])))), .a (.v (.bool (formF s).isSome))]) hp := callOK_v fun γ w _ => cmForm_any s w
theorem cmIntK (s : ByteArray) (hsz : s.size ≤ 1000000) (hv : Vars w0) : CallOK Tryd.prog w0 No 101 [.x (.a (.v (.string s)))] hp (.t [.a (.v (.int .i64 (((intF s.data.toList).getD 0 : Nat) : Int))), .a (.v (erV (if (intF s.data.toList).isSome then 0 else 3)))]) hp := callOK_v fun γ w hS => cmInt_any s w hsz (hv.sat hS)
end
attribute [local irreducible] Callable CallOK CallG CallM DrawG LoopG symR symM
attribute [local irreducible] digitF formF intF hexF
set_option maxRecDepth 100000 in
theorem cmBytes_any (s : ByteArray) (w : World) (hsz : s.size ≤ 1000000) : Calls Tryd.prog 102 #[.string s] w fun e w' => ∃ x, e = .returned (.tuple #[x, erV (if (bytesF s.data.toList).isSome then 0 else 3)]) ∧ Own w' w.heap.size 5 x (((bytesF s.data.toList).getD []).map vU8) ∧ Below w.heap.size w w' := by
  refine calls_own2 (n := 55) Tryd.func102 rfl Tryd.ntmps102 [.x (.a (.v (.string s)))] (by simp) 5 (.u8 ((bytesF s.data.toList).getD [])) (erV (if (bytesF s.data.toList).isSome then 0 else 3)) (fun _ => rfl) ?_
  obtain ⟨F, hF⟩ : ∃ F, F = bytesF s.data.toList := ⟨_, rfl⟩
  rw [← hF]
  have hsd := size_data s
  have ev : erV 3 = .iface 137 (.int .i64 3) := erV_ne (by decide)
  have none_ : F = none → F.getD [] = [] ∧ erV (if F.isSome = true then 0 else 3) = .iface 137 (.int .i64 3) := fun h => by rw [h]; exact ⟨rfl, ev⟩
  have some_ : ∀ l, F = some l → F.getD [] = l ∧ erV (if F.isSome = true then 0 else 3) = .nilIface := fun l h => by rw [h]; exact ⟨rfl, rfl⟩
  by_cases h1 : s = ⟨#[45]⟩
  · obtain ⟨n1, n2⟩ := some_ [] (by rw [hF, h1]; rfl)
    have q1 := ss_yes h1
    simp (config := { maxSteps := 1000000 }) only [q1, n1, n2, push_cast, ↓reduceIte, reduceCtorEq, Nat.reduceEqDiff, Nat.reduceLT]
    done
  have q1 := ss_no h1
  have c1 : ¬ s.data.toList = [45] := fun e => h1 (by rw [← sb_of s, e]; rfl)
  by_cases h0 : s = ⟨#[]⟩
  · obtain ⟨n1, n2⟩ := none_ (by rw [hF, h0]; rfl)
    have q0 := ss_yes h0
    simp (config := { maxSteps := 1000000 }) only [q1, q0, n1, n2, undef, push_cast, ↓reduceIte, reduceCtorEq, Nat.reduceEqDiff, Nat.reduceLT]
    done
  have q0 := ss_no h0
  have hne : s.data.toList ≠ [] := fun e => h0 (by rw [← sb_of s, e]; rfl)
  have tm : (s.size : Int).tmod 2 = ((s.size % 2 : Nat) : Int) := rfl
  by_cases h2 : s.size % 2 = 0
  case neg =>
    obtain ⟨n1, n2⟩ := none_ (by rw [hF]; unfold bytesF; rw [if_neg c1, if_pos (.inr (.inl (by omega)))])
    have h3 : s.size % 2 = 1 := by omega
    have tm1 : (s.size : Int).tmod 2 = 1 := by rw [tm, h3]; rfl
    simp (config := { maxSteps := 1000000 }) only [q1, q0, tm1, n1, n2, undef, push_cast, ↓reduceIte, reduceCtorEq, Nat.reduceEqDiff, Nat.reduceLT, Int.reduceEq]
    done
  have tm0 : (s.size : Int).tmod 2 = 0 := by rw [tm, h2]; rfl
  by_cases h4 : 4096 < (s.size : Int)
  · obtain ⟨n1, n2⟩ := none_ (by rw [hF]; unfold bytesF; rw [if_neg c1, if_pos (.inr (.inr (by omega)))])
    simp (config := { maxSteps := 1000000 }) only [q1, q0, tm0, h4, n1, n2, push_cast, ↓reduceIte, reduceCtorEq, Nat.reduceEqDiff, Nat.reduceLT, Int.reduceEq]
    done
  have hB : F = hexF s.data.toList := by
    rw [hF]
    unfold bytesF
    rw [if_neg c1, if_neg (fun h => h.elim hne fun h => h.elim (fun h => h (by omega)) (fun h => by omega))]
  simp (config := { maxSteps := 1000000 }) only [q1, q0, tm0, h4, push_cast, ↓reduceIte, reduceCtorEq, Nat.reduceEqDiff, Nat.reduceLT, Int.reduceEq]
  refine loop_ghost 4 5 (.u8 []) rfl rfl trivial (by simp (config := { maxSteps := 1000000 }) only [push_cast]) ?_
  refine loop_rule (ι := Nat × List UInt8) (fun x => ⟨[(0, .x (.a (.v (.string s)))), (4, .x (.a (.o 0))), (5, .x (.a (.v (.int .i64 (x.1 : Int)))))], [.own 5 (.u8 x.2)]⟩) (fun x => x.1 ≤ s.size ∧ x.1 % 2 = 0 ∧ x.2.length ≤ x.1 ∧ F = (hexF (s.data.toList.drop x.1)).map (x.2 ++ ·)) (fun x => s.size - x.1) (0, []) [0] ⟨Nat.zero_le _, rfl, Nat.le_refl _, by rw [hB, List.drop_zero]; cases hexF s.data.toList <;> rfl⟩ ?_ ?_
  · simp (config := { maxSteps := 1000000 }) only [push_cast, ↓Int.cast_ofNat_Int, Int.cast_ofNat_Int, ↓reduceIte, reduceCtorEq, Nat.reduceEqDiff, Nat.reduceLT]
  rintro ⟨i, acc⟩ ⟨hi, he, hl, hf⟩
  dsimp only at hi he hl hf
  by_cases hlt : (i : Int) < s.size
  · obtain ⟨a, b, r, hd⟩ : ∃ a b r, s.data.toList.drop i = a :: b :: r := by
      have : (s.data.toList.drop i).length = s.size - i := by rw [List.length_drop, hsd]
      cases hx : s.data.toList.drop i with
      | nil => rw [hx, List.length_nil] at this; omega
      | cons a t =>
        cases t with
        | nil => rw [hx] at this; simp only [List.length_cons, List.length_nil] at this; omega
        | cons b r => exact ⟨a, b, r, rfl⟩
    have hd1 : s.data.toList.drop (i + 1) = b :: r := by rw [← List.drop_drop, hd]; rfl
    have hd2 : s.data.toList.drop (i + 2) = r := by rw [← List.drop_drop, hd]; rfl
    have sa := sAt_drop hd
    have sb1 := sAt_drop hd1
    have i0 : (0 : Int) ≤ i := by omega
    have i1 : ((i : Int) + 1).toNat = i + 1 := by omega
    have i2 : (0 : Int) ≤ (i : Int) + 1 := by omega
    have lt0 : i < s.size := by omega
    have lt1 : i + 1 < s.size := by omega
    have lt2 : (i : Int) + 1 < s.size := by omega
    have nx : (i : Int) + 1 ≤ 9223372036854775807 := by omega
    have nx2 : (i : Int) + 2 ≤ 9223372036854775807 := by omega
    have nm1 : -9223372036854775808 ≤ (i : Int) + 1 := by omega
    have nm2 : -9223372036854775808 ≤ (i : Int) + 2 := by omega
    have il : i < s.data.toList.length := by omega
    have il1 : i + 1 < s.data.toList.length := by omega
    simp (config := { maxSteps := 1000000 }) only [hlt, push_cast, ↓reduceIte, reduceCtorEq, Nat.reduceEqDiff, Nat.reduceLT]
    refine draw_rule [(0, true), (1, true), (2, true), (4, true), (5, true), (6, true), (7, true), (3, false), (8, false), (9, true), (10, true)] (by kernel_rfl) (by kernel_rfl) rfl (by kernel_rfl) ?_
    simp (config := { maxSteps := 1000000 }) only [i0, sa, push_cast, ↓Int.toNat_natCast, ↓reduceIte, reduceCtorEq, Nat.reduceEqDiff, Nat.reduceLT, Int.reduceNeg]
    (repeat (refine And.intro (by first | omega | decide) ?_))
    refine callM_v rfl cb139 rfl (digitK _) (dOk_lt rfl) ?_
    simp (config := { maxSteps := 1000000 }) only [i1, sb1, push_cast, ↓reduceIte]
    (repeat (refine And.intro (by first | omega | decide) ?_))
    refine callM_v rfl cb139 rfl (digitK _) (dOk_lt rfl) ?_
    have step := hexF_two a b r
    rw [hd, step] at hf
    by_cases ga : digitF a < 0
    · obtain ⟨n1, n2⟩ := none_ (by rw [hf, if_pos (.inl ga)]; rfl)
      simp (config := { maxSteps := 1000000 }) only [ga, n1, n2, undef, push_cast, ↓reduceIte, Nat.reduceEqDiff, Nat.reduceLT]
      done
    by_cases gb : digitF b < 0
    · obtain ⟨n1, n2⟩ := none_ (by rw [hf, if_pos (.inr gb)]; rfl)
      simp (config := { maxSteps := 1000000 }) only [ga, gb, n1, n2, push_cast, ↓reduceIte, Nat.reduceEqDiff, Nat.reduceLT]
      done
    obtain ⟨_, a15⟩ := digitF_bd a
    obtain ⟨_, b15⟩ := digitF_bd b
    have m1 : 16 * digitF a ≤ 9223372036854775807 := by omega
    have m2 : -9223372036854775808 ≤ 16 * digitF a := by omega
    have m3 : 16 * digitF a + digitF b ≤ 9223372036854775807 := by omega
    have m4 : -9223372036854775808 ≤ 16 * digitF a + digitF b := by omega
    have al : acc.length + 1 ≤ 140737488355328 := by omega
    have al2 : acc.length + 1 ≤ 2 ^ 63 - 1 := by omega
    simp (config := { maxSteps := 1000000 }) only [ga, gb, m1, m2, m3, m4, al, al2, nx2, nm2, push_cast, ↓reduceIte, reduceCtorEq, Nat.reduceEqDiff, Nat.reduceLT, Nat.reduceLeDiff, Nat.reduceAdd, Int.reduceNeg]
    (repeat (refine And.intro (by first | omega | decide) ?_))
    refine loopK_normal (i + 2, acc ++ [UInt8.ofInt (16 * digitF a + digitF b)]) [2] ⟨by omega, by omega, by simp only [List.length_append, List.length_cons, List.length_nil]; omega, ?_⟩ (by show s.size - (i + 2) < s.size - i; omega) ?_
    · show F = (hexF (s.data.toList.drop (i + 2))).map _
      rw [hf, if_neg (fun h => h.elim ga gb), hd2, Option.map_map]
      congr 1
      funext l
      simp
    have e12 : (i : Int) + 1 + 1 = i + 2 := by omega
    simp (config := { maxSteps := 1000000 }) only [e12, push_cast, ↓reduceIte, reduceCtorEq, Nat.reduceEqDiff, Nat.reduceLT]
  · obtain rfl : i = s.size := by omega
    have e0 := hexF_nil
    obtain ⟨n1, n2⟩ := some_ acc (by rw [hf, List.drop_of_length_le (by omega), e0, Option.map_some, List.append_nil])
    simp (config := { maxSteps := 1000000 }) only [hlt, n1, n2, push_cast, ↓reduceIte, reduceCtorEq, Nat.reduceEqDiff, Nat.reduceLT]
    done
theorem cmBytesK {w0 : World} {hp : List Res} (s : ByteArray) (hsz : s.size ≤ 1000000) (hbr : ∀ r ∈ hp, Res.bnd hp.length r) : CallOK Tryd.prog w0 No 102 [.x (.a (.v (.string s)))] hp (.t [.a (.o hp.length), .a (.v (erV (if (bytesF s.data.toList).isSome then 0 else 3)))]) (hp ++ [.own 5 (.u8 ((bytesF s.data.toList).getD []))]) := callOK_own2 hbr trivial fun γ w hS => cmBytes_any s w hsz
end Go.Proofs.YtiaeollemmkclaaDoor
