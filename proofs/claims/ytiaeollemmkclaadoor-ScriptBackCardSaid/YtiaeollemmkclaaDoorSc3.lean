import Derived.Test.YtiaeollemmkclaaDoorSc2
/- Layer 40 walked: Check. -/
namespace Go.Proofs.YtiaeollemmkclaaDoor
open Go.RowKit
set_option linter.unusedSimpArgs false
set_option linter.unusedVariables false
/-- A command as it lies there. -/
structure CmR where
  word : ByteArray
  args : SlV ByteArray
instance : Inhabited CmR := ⟨⟨ByteArray.empty, default⟩⟩
def cmV (c : CmR) : List Value := [.string c.word, c.args.val]
def CmR.cm (c : CmR) : CmS := ⟨c.word, c.args.l⟩
theorem cmV_len (c : CmR) : (cmV c).length = 2 := rfl
structure CmR.Ok (c : CmR) (w : World) : Prop where
  len : c.args.l.length ≤ c.args.c
  few : c.args.l.length ≤ 1000000
  rd : RdV w w.heap.size c.args.A (c.args.l.map Value.string)
  word : c.word.size ≤ 1000000
  size : ∀ s ∈ c.args.l, s.size ≤ 1000000
theorem CmR.Ok.later {w0 w : World} {c : CmR} {γ : List Nm} {hp : List Res} (h : c.Ok w0) (hS : Sat w0 No γ hp w) : c.Ok w := ⟨h.len, h.few, rd_later h.rd hS, h.word, h.size⟩
theorem cmGo_nil (l : List ByteArray) : cmGo [] l = l.isEmpty := rfl
theorem cmGo_star (f : List UInt8) (l : List ByteArray) : cmGo (42 :: f) l = (decide (l.length ≤ 64) && (l.all intOk && cmGo f [])) := if_pos rfl
theorem cmGo_none {c : UInt8} (f : List UInt8) (h : ¬ c = 42) : cmGo (c :: f) [] = false := if_neg h
theorem cmGo_one {c : UInt8} (f : List UInt8) (s : ByteArray) (r : List ByteArray) (h : ¬ c = 42) : cmGo (c :: f) (s :: r) = ((if c = 120 then bytesOk s else intOk s) && cmGo f r) := if_neg h
attribute [local irreducible] Callable CallOK CallG CallM DrawG LoopG symR symM
attribute [local irreducible] formF intF bytesF cmGo erV
set_option maxRecDepth 100000 in
set_option maxHeartbeats 1000000 in
theorem checkCm_any (c : CmR) (w : World) (hc : c.Ok w) (hv : Vars w) : Calls Tryd.prog 59 #[.agg (cmV c).toArray] w fun e w' => e = .returned (erV (if chkCm c.cm = true then 0 else 337)) ∧ Below w.heap.size w w' := by
  refine calls_v (n := 79) Tryd.func59 rfl Tryd.ntmps59 [.x (.g [.v (.string c.word), .v (.slice c.args.A c.args.l.length c.args.c)])] (by simp) (.x (.a (.v (erV (if chkCm c.cm = true then 0 else 337))))) (fun _ => rfl) ?_
  obtain ⟨q, hq⟩ : ∃ q, q = chkCm c.cm := ⟨_, rfl⟩
  rw [← hq]
  unfold chkCm at hq
  have ev : erV 337 = .iface 137 (.int .i64 337) := erV_ne (by decide)
  have bad : q = false → erV (if q = true then 0 else 337) = .iface 137 (.int .i64 337) := fun h => by rw [h]; exact ev
  have good : q = true → erV (if q = true then 0 else 337) = .nilIface := fun h => by rw [h]; exact erV_zero
  have eNo : erV 3 = .iface 137 (.int .i64 3) := erV_ne (by decide)
  have eYes := erV_zero
  simp (config := { maxSteps := 1000000 }) only [undef, push_cast, ↓reduceIte, reduceCtorEq, Nat.reduceEqDiff, Nat.reduceLT, Nat.reduceAdd]
  (repeat (refine And.intro (by first | omega | decide) ?_))
  refine callG_v rfl cb108 rfl (cmFormK c.word) (dOk_lt rfl) ?_
  have hcw : c.cm.word = c.word := rfl
  rw [hcw] at hq
  cases hf : formF c.word with
  | none =>
    have hb := bad (by rw [hq, hf])
    simp (config := { maxSteps := 1000000 }) only [hb, Option.isSome_none, push_cast, ↓reduceIte, Nat.reduceEqDiff, Nat.reduceLT]
    done
  | some fl =>
    rw [hf] at hq
    dsimp only at hq
    have hasc := form_ascii hf
    have g1 : sb ((some fl).getD []) = sb fl := rfl
    have hfs := sb_size fl
    simp (config := { maxSteps := 1000000 }) only [g1, Option.isSome_some, undef, push_cast, ↓reduceIte, reduceCtorEq, Nat.reduceEqDiff, Nat.reduceLT, Nat.reduceAdd]
    refine loop_rule (ι := Nat × SlV ByteArray) (fun x => ⟨[(5, .x (.a (.v (.slice x.2.A x.2.l.length x.2.c)))), (25, .x (.a (.p 0 0)))], [.it (sb fl) x.1]⟩) (fun x => x.1 ≤ fl.length ∧ x.2.l.length ≤ x.2.c ∧ x.2.l.length ≤ 1000000 ∧ RdV w w.heap.size x.2.A (x.2.l.map Value.string) ∧ (∀ s ∈ x.2.l, s.size ≤ 1000000) ∧ q = cmGo (fl.drop x.1) x.2.l) (fun x => fl.length - x.1) (0, c.args) [1] ⟨Nat.zero_le _, hc.len, hc.few, hc.rd, hc.size, by rw [hq, List.drop_zero]; rfl⟩ ?_ ?_
    · simp (config := { maxSteps := 1000000 }) only [push_cast, ↓reduceIte, Nat.reduceEqDiff, Nat.reduceLT]
    rintro ⟨j, r⟩ ⟨hj, hl, hfew, hR, hsz, hg⟩
    dsimp only at hj hl hfew hR hsz hg ⊢
    by_cases hlt : j < fl.length
    · obtain ⟨ch, f', hd⟩ : ∃ ch f', fl.drop j = ch :: f' := ⟨_, _, List.drop_eq_getElem_cons hlt⟩
      have hd1 : fl.drop (j + 1) = f' := by rw [← List.drop_drop, hd]; rfl
      have hmem : ch ∈ fl := List.mem_of_mem_drop (by rw [hd]; exact List.mem_cons_self ..)
      obtain ⟨k1, k2, _⟩ := get_drop (s := sb fl) (pos := j) (c := ch) (t := f') (by rw [sb_data]; exact hd)
      have hdec : Utf8.decode (sb fl) j = (ch.toNat, 1) := by
        have := decode_ascii (s := sb fl) (i := j) (by rw [k1]; exact hasc ch hmem)
        rw [this, k1]
      rw [hd] at hg
      have FS := FV.no hR
      by_cases h42 : ch = 42
      · rw [h42, cmGo_star] at hg
        have t42 : (ch.toNat : Int) = 42 := by rw [h42]; rfl
        by_cases h64 : (64 : Int) < r.l.length
        · have hb := bad (by rw [hg, decide_eq_false (by omega)]; rfl)
          simp (config := { maxSteps := 1000000 }) only [k2, hdec, t42, h64, hb, push_cast, ↓reduceIte, Nat.reduceEqDiff, Nat.reduceLT]
          done
        have h64' : r.l.length ≤ 64 := by omega
        rw [decide_eq_true h64', Bool.true_and] at hg
        simp (config := { maxSteps := 1000000 }) only [k2, hdec, t42, h64, push_cast, ↓reduceIte, Nat.reduceEqDiff, Nat.reduceLT]
        refine loop_rule (ι := Nat) (fun i => ⟨[(25, .x (.a (.p 0 0))), (35, .x (.a (.v (.slice r.A r.l.length r.c)))), (36, .x (.a (.v (.int .i64 r.l.length)))), (37, .x (.a (.v (.int .i64 (i : Nat)))))], [.it (sb fl) (j + 1)]⟩) (fun i => i ≤ r.l.length ∧ (r.l.take i).all intOk = true) (fun i => r.l.length - i) 0 [0] ⟨Nat.zero_le _, rfl⟩ ?_ ?_
        · simp (config := { maxSteps := 1000000 }) only [push_cast, ↓Int.cast_ofNat_Int, Int.cast_ofNat_Int, ↓reduceIte, Nat.reduceEqDiff, Nat.reduceLT]
        rintro i ⟨hi, hall⟩
        by_cases hil : (i : Int) < r.l.length
        · have hin : i < r.l.length := by omega
          obtain ⟨s, hs⟩ : ∃ s, r.l[i]? = some s := ⟨_, List.getElem?_eq_getElem hin⟩
          have hmem := List.mem_of_getElem? hs
          obtain ⟨c1, o1⟩ := FS.cell (i := i) (u := .string s) (by rw [List.getElem?_map, hs]; rfl)
          have i0 : (0 : Int) ≤ i := by omega
          have hA := FS.some_ (by rw [List.length_map]; omega)
          have nx : (i : Int) + 1 ≤ 9223372036854775807 := by omega
          have nm : -9223372036854775808 ≤ (i : Int) + 1 := by omega
          simp (config := { maxSteps := 1000000 }) only [hil, i0, hA, c1, o1, push_cast, ↓Int.toNat_natCast, ↓reduceIte, reduceCtorEq, Nat.reduceEqDiff, Nat.reduceLT]
          (repeat (refine And.intro (by first | omega | decide) ?_))
          refine callG_v rfl cb101 rfl (cmIntK s (hsz s hmem) hv) (dOk_lt rfl) ?_
          have htk : r.l.take (i + 1) = r.l.take i ++ [s] := by rw [List.take_add_one, hs]; rfl
          cases hk : (intF s.data.toList).isSome with
          | false =>
            have hb := bad (by
              rw [hg]
              have : r.l.all intOk = false := by
                rw [← Bool.not_eq_true, List.all_eq_true]
                intro h
                have := h s hmem
                unfold intOk at this
                rw [hk] at this
                cases this
              rw [this]
              rfl)
            simp (config := { maxSteps := 1000000 }) only [Bool.false_eq_true, eNo, hb, push_cast, ↓reduceIte, Nat.reduceEqDiff, Nat.reduceLT]
            done
          | true =>
            simp (config := { maxSteps := 1000000 }) only [eYes, nx, nm, push_cast, ↓reduceIte, Nat.reduceEqDiff, Nat.reduceLT, Int.reduceNeg]
            refine loopK_normal (i + 1) [0] ⟨by omega, by rw [htk, List.all_append, hall]; simp [intOk, hk]⟩ (by show r.l.length - (i + 1) < r.l.length - i; omega) ?_
            simp (config := { maxSteps := 1000000 }) only [push_cast, ↓reduceIte, Nat.reduceEqDiff, Nat.reduceLT]
        · obtain rfl : i = r.l.length := by omega
          rw [List.take_length] at hall
          rw [hall, Bool.true_and] at hg
          simp (config := { maxSteps := 1000000 }) only [hil, push_cast, ↓reduceIte, Nat.reduceEqDiff, Nat.reduceLT]
          refine loopK_normal (j + 1, ⟨none, 0, []⟩) [0] ⟨by omega, Nat.le_refl _, Nat.zero_le _, RdV.nil_, fun s h => (by cases h), by show q = cmGo (fl.drop (j + 1)) []; rw [hd1]; exact hg⟩ (by show fl.length - (j + 1) < fl.length - j; omega) ?_
          simp (config := { maxSteps := 1000000 }) only [push_cast, ↓reduceIte, Nat.reduceEqDiff, Nat.reduceLT]
      have t42 : ¬ (ch.toNat : Int) = 42 := fun h => h42 (by
        have : ch.toNat = 42 := by omega
        exact UInt8.toNat_inj.1 this)
      by_cases hr0 : (0 : Int) < r.l.length
      case neg =>
        have hn : r.l = [] := List.length_eq_zero_iff.1 (by omega)
        have hz : (r.l.length : Int) = 0 := by omega
        have hb := bad (by rw [hg, hn]; exact cmGo_none _ h42)
        simp (config := { maxSteps := 1000000 }) only [k2, hdec, t42, hz, hb, push_cast, ↓reduceIte, Nat.reduceEqDiff, Nat.reduceLT]
        done
      obtain ⟨s, r', hrl⟩ : ∃ s r', r.l = s :: r' := by
        cases hx : r.l with
        | nil => rw [hx] at hr0; exact absurd hr0 (by decide)
        | cons s r' => exact ⟨s, r', rfl⟩
      have hz : ¬ (r.l.length : Int) = 0 := by omega
      have h63 : (r.l.length : Int) ≤ 9223372036854775807 := by omega
      obtain ⟨c1, o1⟩ := FS.cell (i := 0) (u := .string s) (by rw [hrl]; rfl)
      rw [pAdd_zero] at c1 o1
      have hA := FS.some_ (by rw [List.length_map]; omega)
      have hsm := hsz s (by rw [hrl]; exact List.mem_cons_self ..)
      rw [hrl, cmGo_one _ _ _ h42] at hg
      have hcut := hR.cut (k := 1) (c := r.c) (by rw [List.length_map]; exact hl)
      have hr1 : (1 : Int) ≤ r.l.length := by omega
      have hlc : (r.l.length : Int) ≤ r.c := by omega
      have hc1 : (1 : Int) ≤ r.c := by omega
      have hn1 : r.l.length - 1 = r'.length := by rw [hrl]; simp
      have nextOk : q = cmGo f' r' → (j + 1 ≤ fl.length ∧ r'.length ≤ r.c - 1 ∧ r'.length ≤ 1000000 ∧ RdV w w.heap.size (pCut r.A 1 r.c) (r'.map Value.string) ∧ (∀ s ∈ r', s.size ≤ 1000000) ∧ q = cmGo (fl.drop (j + 1)) r') := fun h => by
        refine ⟨hlt, by omega, by omega, ?_, fun s hs => hsz s (by rw [hrl]; exact List.mem_cons_of_mem _ hs), by rw [hd1]; exact h⟩
        rw [← List.map_drop, hrl] at hcut
        exact hcut
      by_cases hx : ch = 120
      · have tx : (ch.toNat : Int) = 120 := by rw [hx]; rfl
        rw [if_pos hx] at hg
        simp (config := { maxSteps := 1000000 }) only [k2, hdec, hz, tx, hr0, hA, c1, o1, pAdd_zero, push_cast, ↓reduceIte, reduceCtorEq, Nat.reduceEqDiff, Nat.reduceLT, Int.reduceLE, Int.reduceEq]
        (repeat (refine And.intro (by first | omega | decide) ?_))
        refine callG_x rfl cb102 rfl (cmBytesK s hsm (by simp (config := { maxSteps := 1000000 }) only [push_cast])) (dOk_lt rfl) (by simp (config := { maxSteps := 1000000 }) only [push_cast, Nat.reduceLT]) ?_
        cases hk : (bytesF s.data.toList).isSome with
        | false =>
          have hb := bad (by rw [hg, bytesOk, hk]; rfl)
          simp (config := { maxSteps := 1000000 }) only [Bool.false_eq_true, eNo, hb, push_cast, ↓reduceIte, Nat.reduceEqDiff, Nat.reduceLT, Nat.reduceAdd]
          done
        | true =>
          rw [bytesOk, hk, Bool.true_and] at hg
          simp (config := { maxSteps := 1000000 }) only [eYes, hr1, hlc, hn1, push_cast, ↓Int.toNat_natCast, ↓reduceIte, Nat.reduceEqDiff, Nat.reduceLT, Nat.reduceAdd, Int.reduceLE, Int.reduceToNat]
          (repeat (refine And.intro (by first | omega | decide) ?_))
          refine loopK_normal (j + 1, ⟨pCut r.A 1 r.c, r.c - 1, r'⟩) [0] (nextOk hg) (by show fl.length - (j + 1) < fl.length - j; omega) ?_
          simp (config := { maxSteps := 1000000 }) only [push_cast, ↓reduceIte, Nat.reduceEqDiff, Nat.reduceLT]
      · have tx : ¬ (ch.toNat : Int) = 120 := fun h => hx (by
          have : ch.toNat = 120 := by omega
          exact UInt8.toNat_inj.1 this)
        rw [if_neg hx] at hg
        simp (config := { maxSteps := 1000000 }) only [k2, hdec, t42, hz, tx, hr0, hA, c1, o1, pAdd_zero, push_cast, ↓reduceIte, reduceCtorEq, Nat.reduceEqDiff, Nat.reduceLT, Int.reduceLE]
        (repeat (refine And.intro (by first | omega | decide) ?_))
        refine callG_v rfl cb101 rfl (cmIntK s hsm hv) (dOk_lt rfl) ?_
        cases hk : (intF s.data.toList).isSome with
        | false =>
          have hb := bad (by rw [hg, intOk, hk]; rfl)
          simp (config := { maxSteps := 1000000 }) only [Bool.false_eq_true, eNo, hb, push_cast, ↓reduceIte, Nat.reduceEqDiff, Nat.reduceLT]
          done
        | true =>
          rw [intOk, hk, Bool.true_and] at hg
          simp (config := { maxSteps := 1000000 }) only [eYes, hr1, hlc, hn1, push_cast, ↓Int.toNat_natCast, ↓reduceIte, Nat.reduceEqDiff, Nat.reduceLT, Int.reduceLE, Int.reduceToNat]
          (repeat (refine And.intro (by first | omega | decide) ?_))
          refine loopK_normal (j + 1, ⟨pCut r.A 1 r.c, r.c - 1, r'⟩) [0] (nextOk hg) (by show fl.length - (j + 1) < fl.length - j; omega) ?_
          simp (config := { maxSteps := 1000000 }) only [push_cast, ↓reduceIte, Nat.reduceEqDiff, Nat.reduceLT]
    · have hsz2 : ¬ j < (sb fl).size := by omega
      rw [List.drop_of_length_le (by omega), cmGo_nil] at hg
      by_cases hr0 : (0 : Int) < r.l.length
      · have hb := bad (by rw [hg, List.isEmpty_eq_false_iff]; exact fun e => by rw [e] at hr0; exact absurd hr0 (by decide))
        simp (config := { maxSteps := 1000000 }) only [hsz2, hr0, hb, push_cast, ↓reduceIte, Nat.reduceEqDiff, Nat.reduceLT]
        done
      · have hb := good (by rw [hg, List.isEmpty_iff]; exact List.length_eq_zero_iff.1 (by omega))
        simp (config := { maxSteps := 1000000 }) only [hsz2, hr0, hb, push_cast, ↓reduceIte, Nat.reduceEqDiff, Nat.reduceLT]
        done
end Go.Proofs.YtiaeollemmkclaaDoor
