import Derived.Test.YtiaeollemmkclaaDoorMg8
import Derived.Test.YtiaeollemmkclaaDoorPkI
import Derived.Test.YtiaeollemmkclaaDoorDrT
/- Layer 16: msg.read, in its own world. -/
namespace Go.Proofs.YtiaeollemmkclaaDoor
open Go.RowKit
set_option linter.unusedSimpArgs false
set_option linter.unusedVariables false
/-! ### What is read is not too great -/
theorem numR_le (most : UInt64) (st : Rs) : (numR most st).1.toNat ≤ most.toNat := by
  unfold numR
  split
  · split
    · rename_i h
      exact UInt64.le_iff_toNat_le.1 h
    · exact Nat.zero_le _
  · exact Nat.zero_le _
theorem numsR_facts (most : UInt64) : ∀ (n : Nat) (acc : List UInt64) (st : Rs), (∀ v ∈ acc, v.toNat ≤ most.toNat) → (numsR most n acc st).1.length ≤ acc.length + n ∧ ∀ v ∈ (numsR most n acc st).1, v.toNat ≤ most.toNat
  | 0, acc, st, h => ⟨Nat.le_refl _, h⟩
  | n + 1, acc, st, h => by
    rw [numsR]
    split
    · have := numsR_facts most n (acc ++ [(numR most st).1]) (numR most st).2.2 fun v hv => by
        rcases List.mem_append.1 hv with hv | hv
        · exact h v hv
        · rw [List.mem_singleton.1 hv]; exact numR_le _ _
      refine ⟨?_, this.2⟩
      have h1 := this.1
      rw [List.length_append] at h1
      have : [(numR most st).1].length = 1 := rfl
      omega
    · exact ⟨Nat.zero_le _, fun v hv => by cases hv⟩
theorem cntR_le (many : Nat) (hm : many ≤ 300) (each : Nat) (st : Rs) : (cntR many each st).1 ≤ many := by
  have e : (manyU (many : Int)).toNat = many := by
    unfold manyU
    rw [show (max (many : Int) 0).toNat = many by omega]
    exact ofNat_toNat hm
  have h := numR_le (manyU many) st
  rw [e] at h
  unfold cntR
  split
  · split
    · exact h
    · exact Nat.zero_le _
  · exact Nat.zero_le _
theorem numsOf_facts (many : Nat) (hm : many ≤ 300) (most : UInt64) (st : Rs) : (numsOf many most st).1.length ≤ many ∧ ∀ v ∈ (numsOf many most st).1, v.toNat ≤ most.toNat := by
  have h := cntR_le many hm 1 st
  unfold numsOf
  split
  · have := numsR_facts most (cntR many 1 st).1 [] (cntR many 1 st).2.2 fun v hv => by cases hv
    refine ⟨?_, this.2⟩
    have h1 := this.1
    have : ([] : List UInt64).length = 0 := rfl
    omega
  · exact ⟨Nat.zero_le _, fun v hv => by cases hv⟩
theorem rowOf_len (many : Nat) (hm : many ≤ 300) (st : Rs) : (rowOf many st).1.length ≤ many := by
  have h := cntR_le many hm 4 st
  unfold rowOf
  split
  · show (fours _).length ≤ many
    rw [fours_len, List.length_take]
    omega
  · exact Nat.zero_le _
/-! ### A field off a reader -/
def idsQ (s : RS) : List UInt64 × RS := numsOfS 64 63 s
def pubQ (s : RS) : List UInt64 × RS := numsOfS 64 pm1 (idsQ s).2
def zipQ (s : RS) : List Pr := (intsU (idsQ s).1).zip (pubQ s).1
/-- A field off, as the reader and the message stand. -/
def stepS (c : UInt8) (s : RS) (m : MgS) : MgS × RS :=
  if c = 97 then ({ m with pl := n64 (numS 15 s).1 }, (numS 15 s).2.2) else
  if c = 111 then ({ m with ot := n64 (numS 15 s).1 }, (numS 15 s).2.2) else
  if c = 99 then ({ m with cl := n64 (numS 63 s).1 }, (numS 63 s).2.2) else
  if c = 103 then ({ m with ge := n64 (numS 1073741824 s).1 }, (numS 1073741824 s).2.2) else
  if c = 110 then ({ m with nu := (numS pm1 s).1 }, (numS pm1 s).2.2) else
  if c = 115 then ({ m with sm := (sumOfS s).1 }, (sumOfS s).2) else
  if c = 105 then ({ m with ids := intsU (idsQ s).1 }, (idsQ s).2) else
  if c = 118 then ({ m with ns := (numsOfS 128 pm1 s).1 }, (numsOfS 128 pm1 s).2) else
  if c = 112 then ({ m with ps := m.ps ++ zipQ s }, (pubQ s).2) else
  if c = 120 then ({ m with xs := (rowOfS 32 s).1 }, (rowOfS 32 s).2) else
  if c = 114 then ({ m with re := n64 (numS 255 s).1 }, (numS 255 s).2.2) else
  (m, s)
theorem stepS_rs (c : UInt8) (s : RS) (m : MgS) : stepM c s.rs m = if c = 112 ∧ ¬ (idsQ s).1.length = (pubQ s).1.length then none else some ((stepS c s m).1, (stepS c s m).2.rs) := by
  have e1 := fun most => numS_rs most s
  have e2 := fun many most => numsOfS_rs many most s
  have e3 := sumOfS_rs s
  have e4 := fun many => rowOfS_rs many s
  have e5 := numsOfS_rs 64 pm1 (idsQ s).2
  have a1 : (idsQ s).1 = (numsOf 64 63 s.rs).1 := congrArg Prod.fst (e2 64 63)
  have a2 : (idsQ s).2.rs = (numsOf 64 63 s.rs).2 := congrArg Prod.snd (e2 64 63)
  rw [a2] at e5
  have a3 : (pubQ s).1 = (numsOf 64 pm1 (numsOf 64 63 s.rs).2).1 := congrArg Prod.fst e5
  have a4 : (pubQ s).2.rs = (numsOf 64 pm1 (numsOf 64 63 s.rs).2).2 := congrArg Prod.snd e5
  unfold stepM stepS
  by_cases h : c = 97
  · have hn : ¬ (c = 112 ∧ ¬ (idsQ s).1.length = (pubQ s).1.length) := fun e => by rw [h] at e; exact absurd e.1 (by decide)
    simp only [if_pos h, if_neg hn]
    rw [← e1]; rfl
  have n97 := h
  simp only [if_neg h]
  clear h
  by_cases h : c = 111
  · have hn : ¬ (c = 112 ∧ ¬ (idsQ s).1.length = (pubQ s).1.length) := fun e => by rw [h] at e; exact absurd e.1 (by decide)
    simp only [if_pos h, if_neg hn]
    rw [← e1]; rfl
  have n111 := h
  simp only [if_neg h]
  clear h
  by_cases h : c = 99
  · have hn : ¬ (c = 112 ∧ ¬ (idsQ s).1.length = (pubQ s).1.length) := fun e => by rw [h] at e; exact absurd e.1 (by decide)
    simp only [if_pos h, if_neg hn]
    rw [← e1]; rfl
  have n99 := h
  simp only [if_neg h]
  clear h
  by_cases h : c = 103
  · have hn : ¬ (c = 112 ∧ ¬ (idsQ s).1.length = (pubQ s).1.length) := fun e => by rw [h] at e; exact absurd e.1 (by decide)
    simp only [if_pos h, if_neg hn]
    rw [← e1]; rfl
  have n103 := h
  simp only [if_neg h]
  clear h
  by_cases h : c = 110
  · have hn : ¬ (c = 112 ∧ ¬ (idsQ s).1.length = (pubQ s).1.length) := fun e => by rw [h] at e; exact absurd e.1 (by decide)
    simp only [if_pos h, if_neg hn]
    rw [← e1]
  have n110 := h
  simp only [if_neg h]
  clear h
  by_cases h : c = 115
  · have hn : ¬ (c = 112 ∧ ¬ (idsQ s).1.length = (pubQ s).1.length) := fun e => by rw [h] at e; exact absurd e.1 (by decide)
    simp only [if_pos h, if_neg hn]
    rw [← e3]
  have n115 := h
  simp only [if_neg h]
  clear h
  by_cases h : c = 105
  · have hn : ¬ (c = 112 ∧ ¬ (idsQ s).1.length = (pubQ s).1.length) := fun e => by rw [h] at e; exact absurd e.1 (by decide)
    simp only [if_pos h, if_neg hn]
    rw [← a1, ← a2]
  have n105 := h
  simp only [if_neg h]
  clear h
  by_cases h : c = 118
  · have hn : ¬ (c = 112 ∧ ¬ (idsQ s).1.length = (pubQ s).1.length) := fun e => by rw [h] at e; exact absurd e.1 (by decide)
    simp only [if_pos h, if_neg hn]
    rw [← e2]
  have n118 := h
  simp only [if_neg h]
  clear h
  by_cases h : c = 112
  · simp only [if_pos h]
    rw [← a1, ← a3, ← a4]
    by_cases hl : (idsQ s).1.length = (pubQ s).1.length
    · have hn : ¬ (c = 112 ∧ ¬ (idsQ s).1.length = (pubQ s).1.length) := fun e => e.2 hl
      rw [if_neg hn, if_pos hl]
      rfl
    · have hn : c = 112 ∧ ¬ (idsQ s).1.length = (pubQ s).1.length := ⟨h, hl⟩
      rw [if_pos hn, if_neg hl]
  have n112 := h
  simp only [if_neg h]
  clear h
  by_cases h : c = 120
  · have hn : ¬ (c = 112 ∧ ¬ (idsQ s).1.length = (pubQ s).1.length) := fun e => by rw [h] at e; exact absurd e.1 (by decide)
    simp only [if_pos h, if_neg hn]
    rw [← e4]
  have n120 := h
  simp only [if_neg h]
  clear h
  by_cases h : c = 114
  · have hn : ¬ (c = 112 ∧ ¬ (idsQ s).1.length = (pubQ s).1.length) := fun e => by rw [h] at e; exact absurd e.1 (by decide)
    simp only [if_pos h, if_neg hn]
    rw [← e1]; rfl
  have n114 := h
  simp only [if_neg h]
  clear h
  rw [if_neg (fun e => n112 e.1)]
theorem idsQ_facts (s : RS) : (idsQ s).1.length ≤ 64 ∧ ∀ v ∈ (idsQ s).1, v.toNat ≤ 63 := by
  have a1 : (idsQ s).1 = (numsOf 64 63 s.rs).1 := congrArg Prod.fst (numsOfS_rs 64 63 s)
  rw [a1]
  exact numsOf_facts 64 (by decide) 63 s.rs
theorem pubQ_facts (s : RS) : (pubQ s).1.length ≤ 64 := by
  have a1 : (pubQ s).1 = (numsOf 64 pm1 (idsQ s).2.rs).1 := congrArg Prod.fst (numsOfS_rs 64 pm1 (idsQ s).2)
  rw [a1]
  exact (numsOf_facts 64 (by decide) pm1 _).1
theorem numS_le (most : UInt64) (s : RS) : (numS most s).1.toNat ≤ most.toNat := by
  have : (numS most s).1 = (numR most s.rs).1 := congrArg Prod.fst (numS_rs most s)
  rw [this]
  exact numR_le _ _
/-- A message that is not too great, so far. -/
structure MgS.In (m : MgS) (p : Nat) : Prop where
  sm : m.sm.length = 32
  ids : m.ids.length ≤ 64
  ns : m.ns.length ≤ 128
  ps : m.ps.length ≤ p
  xs : m.xs.length ≤ 32
theorem MgS.In.few {m : MgS} {p : Nat} (h : m.In p) (hp : p ≤ 1000) : m.Few := by
  have := h.ids
  have := h.ns
  have := h.ps
  have := h.xs
  exact ⟨h.sm, by omega, by omega, by omega, by omega⟩
theorem zipQ_len (s : RS) : (zipQ s).length ≤ 64 := by
  have h := (idsQ_facts s).1
  unfold zipQ
  rw [List.length_zip, intsU_len]
  omega
theorem stepS_in {c : UInt8} {s : RS} {m : MgS} {p : Nat} (h : m.In p) : (stepS c s m).1.In (p + 64) := by
  have h0 : m.In (p + 64) := ⟨h.sm, h.ids, h.ns, by have := h.ps; omega, h.xs⟩
  have h1 := (idsQ_facts s).1
  have h2 := zipQ_len s
  have h3 : (numsOfS 128 pm1 s).1.length ≤ 128 := by
    rw [show (numsOfS 128 pm1 s).1 = (numsOf 128 pm1 s.rs).1 from congrArg Prod.fst (numsOfS_rs 128 pm1 s)]
    exact (numsOf_facts 128 (by decide) pm1 _).1
  have h4 : (rowOfS 32 s).1.length ≤ 32 := by
    rw [show (rowOfS 32 s).1 = (rowOf 32 s.rs).1 from congrArg Prod.fst (rowOfS_rs 32 s)]
    exact rowOf_len 32 (by decide) _
  unfold stepS
  by_cases hc : c = 97
  · simp only [if_pos hc]; exact ⟨h0.sm, h0.ids, h0.ns, h0.ps, h0.xs⟩
  simp only [if_neg hc]
  clear hc
  by_cases hc : c = 111
  · simp only [if_pos hc]; exact ⟨h0.sm, h0.ids, h0.ns, h0.ps, h0.xs⟩
  simp only [if_neg hc]
  clear hc
  by_cases hc : c = 99
  · simp only [if_pos hc]; exact ⟨h0.sm, h0.ids, h0.ns, h0.ps, h0.xs⟩
  simp only [if_neg hc]
  clear hc
  by_cases hc : c = 103
  · simp only [if_pos hc]; exact ⟨h0.sm, h0.ids, h0.ns, h0.ps, h0.xs⟩
  simp only [if_neg hc]
  clear hc
  by_cases hc : c = 110
  · simp only [if_pos hc]; exact ⟨h0.sm, h0.ids, h0.ns, h0.ps, h0.xs⟩
  simp only [if_neg hc]
  clear hc
  by_cases hc : c = 115
  · simp only [if_pos hc]; exact ⟨sumOfS_len s, h0.ids, h0.ns, h0.ps, h0.xs⟩
  simp only [if_neg hc]
  clear hc
  by_cases hc : c = 105
  · simp only [if_pos hc]; exact ⟨h0.sm, by show (intsU _).length ≤ 64; rw [intsU_len]; exact h1, h0.ns, h0.ps, h0.xs⟩
  simp only [if_neg hc]
  clear hc
  by_cases hc : c = 118
  · simp only [if_pos hc]; exact ⟨h0.sm, h0.ids, h3, h0.ps, h0.xs⟩
  simp only [if_neg hc]
  clear hc
  by_cases hc : c = 112
  · simp only [if_pos hc]; exact ⟨h0.sm, h0.ids, h0.ns, by show (m.ps ++ zipQ s).length ≤ p + 64; have := h.ps; rw [List.length_append]; omega, h0.xs⟩
  simp only [if_neg hc]
  clear hc
  by_cases hc : c = 120
  · simp only [if_pos hc]; exact ⟨h0.sm, h0.ids, h0.ns, h0.ps, h4⟩
  simp only [if_neg hc]
  clear hc
  by_cases hc : c = 114
  · simp only [if_pos hc]; exact ⟨h0.sm, h0.ids, h0.ns, h0.ps, h0.xs⟩
  simp only [if_neg hc]
  clear hc
  exact h0
theorem stepS_ok {c : UInt8} {s : RS} {m : MgS} {X : Nat → Prop} {w : World} (h : s.Ok X w) : (stepS c s m).2.Ok X w := by
  unfold stepS idsQ pubQ idsQ
  by_cases hc : c = 97
  · simp only [if_pos hc]; exact numS_ok h
  simp only [if_neg hc]
  clear hc
  by_cases hc : c = 111
  · simp only [if_pos hc]; exact numS_ok h
  simp only [if_neg hc]
  clear hc
  by_cases hc : c = 99
  · simp only [if_pos hc]; exact numS_ok h
  simp only [if_neg hc]
  clear hc
  by_cases hc : c = 103
  · simp only [if_pos hc]; exact numS_ok h
  simp only [if_neg hc]
  clear hc
  by_cases hc : c = 110
  · simp only [if_pos hc]; exact numS_ok h
  simp only [if_neg hc]
  clear hc
  by_cases hc : c = 115
  · simp only [if_pos hc]; exact sumOfS_ok h
  simp only [if_neg hc]
  clear hc
  by_cases hc : c = 105
  · simp only [if_pos hc]; exact numsOfS_ok h
  simp only [if_neg hc]
  clear hc
  by_cases hc : c = 118
  · simp only [if_pos hc]; exact numsOfS_ok h
  simp only [if_neg hc]
  clear hc
  by_cases hc : c = 112
  · simp only [if_pos hc]; exact numsOfS_ok (numsOfS_ok h)
  simp only [if_neg hc]
  clear hc
  by_cases hc : c = 120
  · simp only [if_pos hc]; exact rowOfS_ok h
  simp only [if_neg hc]
  clear hc
  by_cases hc : c = 114
  · simp only [if_pos hc]; exact numS_ok h
  simp only [if_neg hc]
  clear hc
  exact h
theorem stepS_pl (s : RS) (m : MgS) : stepS 97 s m = ({ m with pl := n64 (numS 15 s).1 }, (numS 15 s).2.2) := rfl
theorem stepS_ot (s : RS) (m : MgS) : stepS 111 s m = ({ m with ot := n64 (numS 15 s).1 }, (numS 15 s).2.2) := rfl
theorem stepS_cl (s : RS) (m : MgS) : stepS 99 s m = ({ m with cl := n64 (numS 63 s).1 }, (numS 63 s).2.2) := rfl
theorem stepS_ge (s : RS) (m : MgS) : stepS 103 s m = ({ m with ge := n64 (numS 1073741824 s).1 }, (numS 1073741824 s).2.2) := rfl
theorem stepS_nu (s : RS) (m : MgS) : stepS 110 s m = ({ m with nu := (numS pm1 s).1 }, (numS pm1 s).2.2) := rfl
theorem stepS_sm (s : RS) (m : MgS) : stepS 115 s m = ({ m with sm := (sumOfS s).1 }, (sumOfS s).2) := rfl
theorem stepS_ids (s : RS) (m : MgS) : stepS 105 s m = ({ m with ids := intsU (idsQ s).1 }, (idsQ s).2) := rfl
theorem stepS_ns (s : RS) (m : MgS) : stepS 118 s m = ({ m with ns := (numsOfS 128 pm1 s).1 }, (numsOfS 128 pm1 s).2) := rfl
theorem stepS_ps (s : RS) (m : MgS) : stepS 112 s m = ({ m with ps := m.ps ++ zipQ s }, (pubQ s).2) := rfl
theorem stepS_xs (s : RS) (m : MgS) : stepS 120 s m = ({ m with xs := (rowOfS 32 s).1 }, (rowOfS 32 s).2) := rfl
theorem stepS_re (s : RS) (m : MgS) : stepS 114 s m = ({ m with re := n64 (numS 255 s).1 }, (numS 255 s).2.2) := rfl
theorem zip_next (a : List UInt64) (b : List UInt64) (i : Nat) (h : i < a.length) (h2 : i < b.length) : ((intsU a).zip b).take (i + 1) = ((intsU a).zip b).take i ++ [(n64 (ix a i), ix b i)] := by
  have hl : i < ((intsU a).zip b).length := by rw [List.length_zip, intsU_len]; omega
  rw [take_ix hl]
  have e1 : ix ((intsU a).zip b) i = ((intsU a).zip b)[i] := by rw [ix, List.getD_eq_getElem?_getD, List.getElem?_eq_getElem hl]; rfl
  have e2 : ix a i = a[i] := by rw [ix, List.getD_eq_getElem?_getD, List.getElem?_eq_getElem h]; rfl
  have e3 : ix b i = b[i] := by rw [ix, List.getD_eq_getElem?_getD, List.getElem?_eq_getElem h2]; rfl
  have hl2 : i < (intsU a).length := by rw [intsU_len]; exact h
  have e4 : (intsU a)[i] = n64 a[i] := List.getElem_map (fun v : UInt64 => ((v.toNat : Nat) : Int))
  rw [e1, e2, e3, List.getElem_zip, e4]
attribute [local irreducible] Callable CallOK CallG CallM DrawG LoopG symR symM
attribute [local irreducible] mgO wiM chkS may chI okV mayErr intsU numS numsOfS rowOfS sumOfS idsQ pubQ zipQ
/-- What reading a field does, in the callee's own world. -/
def RdM (c : UInt8) (s t : RS) (m m' : MgS) (b : Bool) (X : Nat → Prop) (w : World) : Prop := ∀ (g g2 : Nat) (γ : List Nm), Sat w X γ [.pin g 132 (.c [.v (.slice s.A s.l.length s.c), .v (.bool s.bad)]), .pin g2 89 (.c (mgO m 2 3 4 5)), .own 3 (.i64 m.ids), .own 27 (.u64 m.ns), .onn 160 2 (.c (pcs m.ps)), .own 136 (.u32 m.xs)] w →
  Calls Tryd.prog 93 (List.map (Sv.val γ) [.x (.a (.p 0 0)), .x (.a (.p 1 0)), .x (.a (.v (.int .i32 (chI c))))]).toArray w fun e w' => ∃ γ1, e = .returned (.bool b) ∧ Sat w X γ1
    [.pin g 132 (.c [.v (.slice t.A t.l.length t.c), .v (.bool t.bad)]), .pin g2 89 (.c (mgO m' 2 3 4 5)), .own 3 (.i64 m'.ids), .own 27 (.u64 m'.ns), .onn 160 2 (.c (pcs m'.ps)), .own 136 (.u32 m'.xs)] w'
section
variable {X : Nat → Prop} {w : World} {s : RS} {m : MgS} {p : Nat}
set_option maxRecDepth 100000 in
set_option maxHeartbeats 2000000 in
theorem read16_pl (hs : s.Ok X w) (hm : m.In p) : RdM 97 s (stepS 97 s m).2 m (stepS 97 s m).1 true X w := fun g g2 γ hS => by
  obtain ⟨f0, f1, f2, f3, f4, f5, f38, f39, f40, f41, f42⟩ := mgO_get hm.sm 2 3 4 5
  obtain ⟨s0, s1, s2, s3, s4, s5, s38, s39, s40, s41, s42⟩ := mgO_set hm.sm 2 3 4 5
  have ssum := mgO_sum hm.sm 2 3 4 5
  have fl : ∀ a b c d, (mgO m a b c d).length = 43 := fun a b c d => mgO_len hm.sm
  have hXg := pin_own hS rfl
  have ob := fun (m : MgS) a b c d n => mgO_bnd m a b c d n
  simp only [At.bnd] at ob
  have g97 := chI_yes (c := 97) (n := 97) rfl chI_97
  rw [stepS_pl]
  refine calls_fun (n := 123) Tryd.func93 rfl Tryd.ntmps93 _ hS (by simp) (.x (.a (.v (.bool true)))) _ ?_
  have hq := numS_le 15 s
  obtain ⟨q, hqe⟩ : ∃ q, q = numS 15 s := ⟨_, rfl⟩
  have hR : ∀ X w, s.Ok X w → RdG 11 [.x (.a (.v (.int .u64 15)))] (.x (.a (.v (vU64 q.1)))) s q.2.2 [] X w := fun X w h => by rw [hqe]; exact rnum_any 15 h
  rw [← hqe] at hq ⊢
  have hq : q.1.toNat ≤ 15 := hq
  have hn : n64 q.1 = ((q.1.toNat : Nat) : Int) := rfl
  have hx : -9223372036854775808 ≤ n64 q.1 := by omega
  have hx2 : n64 q.1 ≤ 9223372036854775807 := by omega
  simp (config := { maxSteps := 1000000 }) only [g97, push_cast, ↓reduceIte, reduceCtorEq, Nat.reduceEqDiff, Nat.reduceLT, Nat.reduceAdd]
  (repeat (refine And.intro (by first | omega | decide) ?_))
  refine callG_rule rfl cb11 rfl (rmethK (k0 := 0) (s := s) (args := [.x (.a (.v (.int .u64 15)))]) (by simp (config := { maxSteps := 1000000 }) only [ob, pcs_forall, push_cast, Nat.reduceLT, Nat.reduceAdd]) rfl (by simp only [push_cast]) (by simp only [push_cast]) (fun _ _ => rfl) (far_here hs rfl hXg) hR) (dOk_lt rfl) (fun _ => by simp (config := { maxSteps := 1000000 }) only [ob, pcs_forall, push_cast, Nat.reduceLT, Nat.reduceAdd]) ?_
  simp (config := { maxSteps := 1000000 }) only [fl, s1, pcs_ren, ↓mgO_cren, hx, hx2, undef, push_cast, ↓reduceIte, reduceCtorEq, Nat.reduceEqDiff, Nat.reduceLT, Nat.reduceAdd, Int.reduceNeg]
  refine endsAs [0, 1, 2, 3, 4, 5] ?_
  simp (config := { maxSteps := 1000000 }) only [ob, pcs_ren, pcs_forall, ↓mgO_cren, push_cast, ↓reduceIte, reduceCtorEq, Nat.reduceEqDiff, Nat.reduceLT, Nat.reduceAdd]
set_option maxRecDepth 100000 in
set_option maxHeartbeats 2000000 in
theorem read16_ot (hs : s.Ok X w) (hm : m.In p) : RdM 111 s (stepS 111 s m).2 m (stepS 111 s m).1 true X w := fun g g2 γ hS => by
  obtain ⟨f0, f1, f2, f3, f4, f5, f38, f39, f40, f41, f42⟩ := mgO_get hm.sm 2 3 4 5
  obtain ⟨s0, s1, s2, s3, s4, s5, s38, s39, s40, s41, s42⟩ := mgO_set hm.sm 2 3 4 5
  have ssum := mgO_sum hm.sm 2 3 4 5
  have fl : ∀ a b c d, (mgO m a b c d).length = 43 := fun a b c d => mgO_len hm.sm
  have hXg := pin_own hS rfl
  have ob := fun (m : MgS) a b c d n => mgO_bnd m a b c d n
  simp only [At.bnd] at ob
  have g97 := chI_no (c := 111) (n := 97) (by decide) chI_97
  have g111 := chI_yes (c := 111) (n := 111) rfl chI_111
  rw [stepS_ot]
  refine calls_fun (n := 123) Tryd.func93 rfl Tryd.ntmps93 _ hS (by simp) (.x (.a (.v (.bool true)))) _ ?_
  have hq := numS_le 15 s
  obtain ⟨q, hqe⟩ : ∃ q, q = numS 15 s := ⟨_, rfl⟩
  have hR : ∀ X w, s.Ok X w → RdG 11 [.x (.a (.v (.int .u64 15)))] (.x (.a (.v (vU64 q.1)))) s q.2.2 [] X w := fun X w h => by rw [hqe]; exact rnum_any 15 h
  rw [← hqe] at hq ⊢
  have hq : q.1.toNat ≤ 15 := hq
  have hn : n64 q.1 = ((q.1.toNat : Nat) : Int) := rfl
  have hx : -9223372036854775808 ≤ n64 q.1 := by omega
  have hx2 : n64 q.1 ≤ 9223372036854775807 := by omega
  simp (config := { maxSteps := 1000000 }) only [g97, g111, push_cast, ↓reduceIte, reduceCtorEq, Nat.reduceEqDiff, Nat.reduceLT, Nat.reduceAdd]
  (repeat (refine And.intro (by first | omega | decide) ?_))
  refine callG_rule rfl cb11 rfl (rmethK (k0 := 0) (s := s) (args := [.x (.a (.v (.int .u64 15)))]) (by simp (config := { maxSteps := 1000000 }) only [ob, pcs_forall, push_cast, Nat.reduceLT, Nat.reduceAdd]) rfl (by simp only [push_cast]) (by simp only [push_cast]) (fun _ _ => rfl) (far_here hs rfl hXg) hR) (dOk_lt rfl) (fun _ => by simp (config := { maxSteps := 1000000 }) only [ob, pcs_forall, push_cast, Nat.reduceLT, Nat.reduceAdd]) ?_
  simp (config := { maxSteps := 1000000 }) only [fl, s2, pcs_ren, ↓mgO_cren, hx, hx2, undef, push_cast, ↓reduceIte, reduceCtorEq, Nat.reduceEqDiff, Nat.reduceLT, Nat.reduceAdd, Int.reduceNeg]
  refine endsAs [0, 1, 2, 3, 4, 5] ?_
  simp (config := { maxSteps := 1000000 }) only [ob, pcs_ren, pcs_forall, ↓mgO_cren, push_cast, ↓reduceIte, reduceCtorEq, Nat.reduceEqDiff, Nat.reduceLT, Nat.reduceAdd]
set_option maxRecDepth 100000 in
set_option maxHeartbeats 2000000 in
theorem read16_cl (hs : s.Ok X w) (hm : m.In p) : RdM 99 s (stepS 99 s m).2 m (stepS 99 s m).1 true X w := fun g g2 γ hS => by
  obtain ⟨f0, f1, f2, f3, f4, f5, f38, f39, f40, f41, f42⟩ := mgO_get hm.sm 2 3 4 5
  obtain ⟨s0, s1, s2, s3, s4, s5, s38, s39, s40, s41, s42⟩ := mgO_set hm.sm 2 3 4 5
  have ssum := mgO_sum hm.sm 2 3 4 5
  have fl : ∀ a b c d, (mgO m a b c d).length = 43 := fun a b c d => mgO_len hm.sm
  have hXg := pin_own hS rfl
  have ob := fun (m : MgS) a b c d n => mgO_bnd m a b c d n
  simp only [At.bnd] at ob
  have g97 := chI_no (c := 99) (n := 97) (by decide) chI_97
  have g111 := chI_no (c := 99) (n := 111) (by decide) chI_111
  have g99 := chI_yes (c := 99) (n := 99) rfl chI_99
  rw [stepS_cl]
  refine calls_fun (n := 123) Tryd.func93 rfl Tryd.ntmps93 _ hS (by simp) (.x (.a (.v (.bool true)))) _ ?_
  have hq := numS_le 63 s
  obtain ⟨q, hqe⟩ : ∃ q, q = numS 63 s := ⟨_, rfl⟩
  have hR : ∀ X w, s.Ok X w → RdG 11 [.x (.a (.v (.int .u64 63)))] (.x (.a (.v (vU64 q.1)))) s q.2.2 [] X w := fun X w h => by rw [hqe]; exact rnum_any 63 h
  rw [← hqe] at hq ⊢
  have hq : q.1.toNat ≤ 63 := hq
  have hn : n64 q.1 = ((q.1.toNat : Nat) : Int) := rfl
  have hx : -9223372036854775808 ≤ n64 q.1 := by omega
  have hx2 : n64 q.1 ≤ 9223372036854775807 := by omega
  simp (config := { maxSteps := 1000000 }) only [g97, g111, g99, push_cast, ↓reduceIte, reduceCtorEq, Nat.reduceEqDiff, Nat.reduceLT, Nat.reduceAdd]
  (repeat (refine And.intro (by first | omega | decide) ?_))
  refine callG_rule rfl cb11 rfl (rmethK (k0 := 0) (s := s) (args := [.x (.a (.v (.int .u64 63)))]) (by simp (config := { maxSteps := 1000000 }) only [ob, pcs_forall, push_cast, Nat.reduceLT, Nat.reduceAdd]) rfl (by simp only [push_cast]) (by simp only [push_cast]) (fun _ _ => rfl) (far_here hs rfl hXg) hR) (dOk_lt rfl) (fun _ => by simp (config := { maxSteps := 1000000 }) only [ob, pcs_forall, push_cast, Nat.reduceLT, Nat.reduceAdd]) ?_
  simp (config := { maxSteps := 1000000 }) only [fl, s3, pcs_ren, ↓mgO_cren, hx, hx2, undef, push_cast, ↓reduceIte, reduceCtorEq, Nat.reduceEqDiff, Nat.reduceLT, Nat.reduceAdd, Int.reduceNeg]
  refine endsAs [0, 1, 2, 3, 4, 5] ?_
  simp (config := { maxSteps := 1000000 }) only [ob, pcs_ren, pcs_forall, ↓mgO_cren, push_cast, ↓reduceIte, reduceCtorEq, Nat.reduceEqDiff, Nat.reduceLT, Nat.reduceAdd]
set_option maxRecDepth 100000 in
set_option maxHeartbeats 2000000 in
theorem read16_ge (hs : s.Ok X w) (hm : m.In p) : RdM 103 s (stepS 103 s m).2 m (stepS 103 s m).1 true X w := fun g g2 γ hS => by
  obtain ⟨f0, f1, f2, f3, f4, f5, f38, f39, f40, f41, f42⟩ := mgO_get hm.sm 2 3 4 5
  obtain ⟨s0, s1, s2, s3, s4, s5, s38, s39, s40, s41, s42⟩ := mgO_set hm.sm 2 3 4 5
  have ssum := mgO_sum hm.sm 2 3 4 5
  have fl : ∀ a b c d, (mgO m a b c d).length = 43 := fun a b c d => mgO_len hm.sm
  have hXg := pin_own hS rfl
  have ob := fun (m : MgS) a b c d n => mgO_bnd m a b c d n
  simp only [At.bnd] at ob
  have g97 := chI_no (c := 103) (n := 97) (by decide) chI_97
  have g111 := chI_no (c := 103) (n := 111) (by decide) chI_111
  have g99 := chI_no (c := 103) (n := 99) (by decide) chI_99
  have g103 := chI_yes (c := 103) (n := 103) rfl chI_103
  rw [stepS_ge]
  refine calls_fun (n := 123) Tryd.func93 rfl Tryd.ntmps93 _ hS (by simp) (.x (.a (.v (.bool true)))) _ ?_
  have hq := numS_le 1073741824 s
  obtain ⟨q, hqe⟩ : ∃ q, q = numS 1073741824 s := ⟨_, rfl⟩
  have hR : ∀ X w, s.Ok X w → RdG 11 [.x (.a (.v (.int .u64 1073741824)))] (.x (.a (.v (vU64 q.1)))) s q.2.2 [] X w := fun X w h => by rw [hqe]; exact rnum_any 1073741824 h
  rw [← hqe] at hq ⊢
  have hq : q.1.toNat ≤ 1073741824 := hq
  have hn : n64 q.1 = ((q.1.toNat : Nat) : Int) := rfl
  have hx : -9223372036854775808 ≤ n64 q.1 := by omega
  have hx2 : n64 q.1 ≤ 9223372036854775807 := by omega
  simp (config := { maxSteps := 1000000 }) only [g97, g111, g99, g103, push_cast, ↓reduceIte, reduceCtorEq, Nat.reduceEqDiff, Nat.reduceLT, Nat.reduceAdd]
  (repeat (refine And.intro (by first | omega | decide) ?_))
  refine callG_rule rfl cb11 rfl (rmethK (k0 := 0) (s := s) (args := [.x (.a (.v (.int .u64 1073741824)))]) (by simp (config := { maxSteps := 1000000 }) only [ob, pcs_forall, push_cast, Nat.reduceLT, Nat.reduceAdd]) rfl (by simp only [push_cast]) (by simp only [push_cast]) (fun _ _ => rfl) (far_here hs rfl hXg) hR) (dOk_lt rfl) (fun _ => by simp (config := { maxSteps := 1000000 }) only [ob, pcs_forall, push_cast, Nat.reduceLT, Nat.reduceAdd]) ?_
  simp (config := { maxSteps := 1000000 }) only [fl, s4, pcs_ren, ↓mgO_cren, hx, hx2, undef, push_cast, ↓reduceIte, reduceCtorEq, Nat.reduceEqDiff, Nat.reduceLT, Nat.reduceAdd, Int.reduceNeg]
  refine endsAs [0, 1, 2, 3, 4, 5] ?_
  simp (config := { maxSteps := 1000000 }) only [ob, pcs_ren, pcs_forall, ↓mgO_cren, push_cast, ↓reduceIte, reduceCtorEq, Nat.reduceEqDiff, Nat.reduceLT, Nat.reduceAdd]
set_option maxRecDepth 100000 in
set_option maxHeartbeats 2000000 in
theorem read16_nu (hs : s.Ok X w) (hm : m.In p) : RdM 110 s (stepS 110 s m).2 m (stepS 110 s m).1 true X w := fun g g2 γ hS => by
  obtain ⟨f0, f1, f2, f3, f4, f5, f38, f39, f40, f41, f42⟩ := mgO_get hm.sm 2 3 4 5
  obtain ⟨s0, s1, s2, s3, s4, s5, s38, s39, s40, s41, s42⟩ := mgO_set hm.sm 2 3 4 5
  have ssum := mgO_sum hm.sm 2 3 4 5
  have fl : ∀ a b c d, (mgO m a b c d).length = 43 := fun a b c d => mgO_len hm.sm
  have hXg := pin_own hS rfl
  have ob := fun (m : MgS) a b c d n => mgO_bnd m a b c d n
  simp only [At.bnd] at ob
  have g97 := chI_no (c := 110) (n := 97) (by decide) chI_97
  have g111 := chI_no (c := 110) (n := 111) (by decide) chI_111
  have g99 := chI_no (c := 110) (n := 99) (by decide) chI_99
  have g103 := chI_no (c := 110) (n := 103) (by decide) chI_103
  have g110 := chI_yes (c := 110) (n := 110) rfl chI_110
  rw [stepS_nu]
  refine calls_fun (n := 123) Tryd.func93 rfl Tryd.ntmps93 _ hS (by simp) (.x (.a (.v (.bool true)))) _ ?_
  have hq := numS_le 2305843009213693950 s
  obtain ⟨q, hqe⟩ : ∃ q, q = numS 2305843009213693950 s := ⟨_, rfl⟩
  have hR : ∀ X w, s.Ok X w → RdG 11 [.x (.a (.v (.int .u64 2305843009213693950)))] (.x (.a (.v (vU64 q.1)))) s q.2.2 [] X w := fun X w h => by rw [hqe]; exact rnum_any 2305843009213693950 h
  rw [show pm1 = 2305843009213693950 from rfl, ← hqe]
  rw [← hqe] at hq
  have hq : q.1.toNat ≤ 2305843009213693950 := hq
  have hn : n64 q.1 = ((q.1.toNat : Nat) : Int) := rfl
  have hx : -9223372036854775808 ≤ n64 q.1 := by omega
  have hx2 : n64 q.1 ≤ 9223372036854775807 := by omega
  simp (config := { maxSteps := 1000000 }) only [g97, g111, g99, g103, g110, push_cast, ↓reduceIte, reduceCtorEq, Nat.reduceEqDiff, Nat.reduceLT, Nat.reduceAdd]
  (repeat (refine And.intro (by first | omega | decide) ?_))
  refine callG_rule rfl cb11 rfl (rmethK (k0 := 0) (s := s) (args := [.x (.a (.v (.int .u64 2305843009213693950)))]) (by simp (config := { maxSteps := 1000000 }) only [ob, pcs_forall, push_cast, Nat.reduceLT, Nat.reduceAdd]) rfl (by simp only [push_cast]) (by simp only [push_cast]) (fun _ _ => rfl) (far_here hs rfl hXg) hR) (dOk_lt rfl) (fun _ => by simp (config := { maxSteps := 1000000 }) only [ob, pcs_forall, push_cast, Nat.reduceLT, Nat.reduceAdd]) ?_
  simp (config := { maxSteps := 1000000 }) only [fl, s5, pcs_ren, ↓mgO_cren, undef, push_cast, ↓reduceIte, reduceCtorEq, Nat.reduceEqDiff, Nat.reduceLT, Nat.reduceAdd]
  refine endsAs [0, 1, 2, 3, 4, 5] ?_
  simp (config := { maxSteps := 1000000 }) only [ob, pcs_ren, pcs_forall, ↓mgO_cren, push_cast, ↓reduceIte, reduceCtorEq, Nat.reduceEqDiff, Nat.reduceLT, Nat.reduceAdd]
set_option maxRecDepth 100000 in
set_option maxHeartbeats 2000000 in
theorem read16_sm (hs : s.Ok X w) (hm : m.In p) : RdM 115 s (stepS 115 s m).2 m (stepS 115 s m).1 true X w := fun g g2 γ hS => by
  obtain ⟨f0, f1, f2, f3, f4, f5, f38, f39, f40, f41, f42⟩ := mgO_get hm.sm 2 3 4 5
  obtain ⟨s0, s1, s2, s3, s4, s5, s38, s39, s40, s41, s42⟩ := mgO_set hm.sm 2 3 4 5
  have ssum := mgO_sum hm.sm 2 3 4 5
  have fl : ∀ a b c d, (mgO m a b c d).length = 43 := fun a b c d => mgO_len hm.sm
  have hXg := pin_own hS rfl
  have ob := fun (m : MgS) a b c d n => mgO_bnd m a b c d n
  simp only [At.bnd] at ob
  have g97 := chI_no (c := 115) (n := 97) (by decide) chI_97
  have g111 := chI_no (c := 115) (n := 111) (by decide) chI_111
  have g99 := chI_no (c := 115) (n := 99) (by decide) chI_99
  have g103 := chI_no (c := 115) (n := 103) (by decide) chI_103
  have g110 := chI_no (c := 115) (n := 110) (by decide) chI_110
  have g115 := chI_yes (c := 115) (n := 115) rfl chI_115
  rw [stepS_sm]
  refine calls_fun (n := 123) Tryd.func93 rfl Tryd.ntmps93 _ hS (by simp) (.x (.a (.v (.bool true)))) _ ?_
  have hs32 := sumOfS_len s
  obtain ⟨q, hqe⟩ : ∃ q, q = sumOfS s := ⟨_, rfl⟩
  have hR : ∀ X w, s.Ok X w → RdG 15 [] (.x (.a8 q.1)) s q.2 [] X w := fun X w h => by rw [hqe]; exact rsum_any h
  rw [← hqe] at hs32 ⊢
  have hd38 : ∀ a b c d, (List.drop 38 (mgO m a b c d)).length = 5 := fun a b c d => by rw [List.length_drop, fl]
  have ht6 : ∀ a b c d, (List.take 6 (mgO m a b c d)).length = 6 := fun a b c d => by rw [List.length_take, fl]; rfl
  simp (config := { maxSteps := 1000000 }) only [g97, g111, g99, g103, g110, g115, push_cast, ↓reduceIte, reduceCtorEq, Nat.reduceEqDiff, Nat.reduceLT, Nat.reduceAdd]
  (repeat (refine And.intro (by first | omega | decide) ?_))
  refine callG_rule rfl cb15 rfl (rmethK (k0 := 0) (s := s) (args := []) (by simp (config := { maxSteps := 1000000 }) only [ob, pcs_forall, push_cast, Nat.reduceLT, Nat.reduceAdd]) rfl (by simp only [push_cast]) (by simp only [push_cast]) (fun _ _ => rfl) (far_here hs rfl hXg) hR) (dOk_lt rfl) (fun _ => by simp (config := { maxSteps := 1000000 }) only [ob, pcs_forall, push_cast, Nat.reduceLT, Nat.reduceAdd]) ?_
  simp (config := { maxSteps := 1000000 }) only [fl, ssum, pcs_ren, ↓mgO_cren, hs32, undef, push_cast, ↓reduceIte, reduceCtorEq, Nat.reduceEqDiff, Nat.reduceLT, Nat.reduceLeDiff, Nat.reduceAdd]
  refine endsAs [0, 1, 2, 3, 4, 5] ?_
  simp (config := { maxSteps := 1000000 }) only [ob, pcs_ren, pcs_forall, ↓mgO_cren, push_cast, ↓reduceIte, reduceCtorEq, Nat.reduceEqDiff, Nat.reduceLT, Nat.reduceAdd]
set_option maxRecDepth 100000 in
set_option maxHeartbeats 2000000 in
theorem read16_ids (hs : s.Ok X w) (hm : m.In p) : RdM 105 s (stepS 105 s m).2 m (stepS 105 s m).1 true X w := fun g g2 γ hS => by
  obtain ⟨f0, f1, f2, f3, f4, f5, f38, f39, f40, f41, f42⟩ := mgO_get hm.sm 2 3 4 5
  obtain ⟨s0, s1, s2, s3, s4, s5, s38, s39, s40, s41, s42⟩ := mgO_set hm.sm 2 3 4 5
  have ssum := mgO_sum hm.sm 2 3 4 5
  have fl : ∀ a b c d, (mgO m a b c d).length = 43 := fun a b c d => mgO_len hm.sm
  have hXg := pin_own hS rfl
  have ob := fun (m : MgS) a b c d n => mgO_bnd m a b c d n
  simp only [At.bnd] at ob
  have g97 := chI_no (c := 105) (n := 97) (by decide) chI_97
  have g111 := chI_no (c := 105) (n := 111) (by decide) chI_111
  have g99 := chI_no (c := 105) (n := 99) (by decide) chI_99
  have g103 := chI_no (c := 105) (n := 103) (by decide) chI_103
  have g110 := chI_no (c := 105) (n := 110) (by decide) chI_110
  have g115 := chI_no (c := 105) (n := 115) (by decide) chI_115
  have g105 := chI_yes (c := 105) (n := 105) rfl chI_105
  rw [stepS_ids]
  refine calls_fun (n := 123) Tryd.func93 rfl Tryd.ntmps93 _ hS (by simp) (.x (.a (.v (.bool true)))) _ ?_
  obtain ⟨hq1, hq2⟩ := idsQ_facts s
  obtain ⟨q, hqe⟩ : ∃ q, q = idsQ s := ⟨_, rfl⟩
  have hR : ∀ X w, s.Ok X w → RdG 12 [.x (.a (.v (.int .i64 64))), .x (.a (.v (.int .u64 63)))] (.x (.a (.o 1))) s q.2 [.own 27 (.u64 q.1)] X w := fun X w h => by rw [hqe]; unfold idsQ; exact rnums_any 64 63 (by decide) h
  rw [← hqe] at hq1 hq2 ⊢
  rw [mgO_ids m 2 3 4 5 (intsU q.1)]
  simp (config := { maxSteps := 1000000 }) only [g97, g111, g99, g103, g110, g115, g105, push_cast, ↓reduceIte, reduceCtorEq, Nat.reduceEqDiff, Nat.reduceLT, Nat.reduceAdd]
  (repeat (refine And.intro (by first | omega | decide) ?_))
  refine callG_rule rfl cb12 rfl (rmethK (k0 := 0) (s := s) (args := [.x (.a (.v (.int .i64 64))), .x (.a (.v (.int .u64 63)))]) (by simp (config := { maxSteps := 1000000 }) only [ob, pcs_forall, push_cast, Nat.reduceLT, Nat.reduceAdd]) rfl (by simp only [push_cast, Nat.reduceAdd]) (by simp only [push_cast, Nat.reduceLT, Nat.reduceAdd]) (fun _ _ => rfl) (far_here hs rfl hXg) hR) (dOk_lt rfl) (fun _ => by simp (config := { maxSteps := 1000000 }) only [ob, pcs_forall, push_cast, Nat.reduceLT, Nat.reduceAdd]) ?_
  simp (config := { maxSteps := 1000000 }) only [pcs_ren, ↓mgO_cren, push_cast, ↓reduceIte, Nat.reduceEqDiff, Nat.reduceLT, Nat.reduceAdd]
  (repeat (refine And.intro (by first | omega | decide) ?_))
  refine callG_x rfl cb133 rfl (ints16K (l := q.1) (by omega) (fun i hi => by
    have hmem : ix q.1 i ∈ q.1 := by
      rw [ix, List.getD_eq_getElem?_getD, List.getElem?_eq_getElem hi]
      exact List.getElem_mem hi
    have := hq2 _ hmem
    omega) (shows_own rfl (fun _ => rfl)) (by simp (config := { maxSteps := 1000000 }) only [ob, pcs_forall, push_cast, Nat.reduceLT, Nat.reduceAdd])) (dOk_lt rfl) (by simp (config := { maxSteps := 1000000 }) only [ob, pcs_forall, push_cast, Nat.reduceLT, Nat.reduceAdd]) ?_
  simp (config := { maxSteps := 1000000 }) only [fl, s38, undef, push_cast, ↓reduceIte, reduceCtorEq, Nat.reduceEqDiff, Nat.reduceLT, Nat.reduceAdd]
  refine endsAs [0, 1, 8, 3, 4, 5] ?_
  simp (config := { maxSteps := 1000000 }) only [ob, pcs_ren, pcs_forall, ↓mgO_cren, push_cast, ↓reduceIte, reduceCtorEq, Nat.reduceEqDiff, Nat.reduceLT, Nat.reduceAdd]
set_option maxRecDepth 100000 in
set_option maxHeartbeats 2000000 in
theorem read16_ns (hs : s.Ok X w) (hm : m.In p) : RdM 118 s (stepS 118 s m).2 m (stepS 118 s m).1 true X w := fun g g2 γ hS => by
  obtain ⟨f0, f1, f2, f3, f4, f5, f38, f39, f40, f41, f42⟩ := mgO_get hm.sm 2 3 4 5
  obtain ⟨s0, s1, s2, s3, s4, s5, s38, s39, s40, s41, s42⟩ := mgO_set hm.sm 2 3 4 5
  have ssum := mgO_sum hm.sm 2 3 4 5
  have fl : ∀ a b c d, (mgO m a b c d).length = 43 := fun a b c d => mgO_len hm.sm
  have hXg := pin_own hS rfl
  have ob := fun (m : MgS) a b c d n => mgO_bnd m a b c d n
  simp only [At.bnd] at ob
  have g97 := chI_no (c := 118) (n := 97) (by decide) chI_97
  have g111 := chI_no (c := 118) (n := 111) (by decide) chI_111
  have g99 := chI_no (c := 118) (n := 99) (by decide) chI_99
  have g103 := chI_no (c := 118) (n := 103) (by decide) chI_103
  have g110 := chI_no (c := 118) (n := 110) (by decide) chI_110
  have g115 := chI_no (c := 118) (n := 115) (by decide) chI_115
  have g105 := chI_no (c := 118) (n := 105) (by decide) chI_105
  have g118 := chI_yes (c := 118) (n := 118) rfl chI_118
  rw [stepS_ns]
  refine calls_fun (n := 123) Tryd.func93 rfl Tryd.ntmps93 _ hS (by simp) (.x (.a (.v (.bool true)))) _ ?_
  obtain ⟨q, hqe⟩ : ∃ q, q = numsOfS 128 pm1 s := ⟨_, rfl⟩
  have hR : ∀ X w, s.Ok X w → RdG 12 [.x (.a (.v (.int .i64 128))), .x (.a (.v (.int .u64 2305843009213693950)))] (.x (.a (.o 1))) s q.2 [.own 27 (.u64 q.1)] X w := fun X w h => by rw [hqe]; exact rnums_any 128 pm1 (by decide) h
  rw [← hqe]
  rw [mgO_ns m 2 3 4 5 q.1]
  simp (config := { maxSteps := 1000000 }) only [g97, g111, g99, g103, g110, g115, g105, g118, push_cast, ↓reduceIte, reduceCtorEq, Nat.reduceEqDiff, Nat.reduceLT, Nat.reduceAdd]
  (repeat (refine And.intro (by first | omega | decide) ?_))
  refine callG_rule rfl cb12 rfl (rmethK (k0 := 0) (s := s) (args := [.x (.a (.v (.int .i64 128))), .x (.a (.v (.int .u64 2305843009213693950)))]) (by simp (config := { maxSteps := 1000000 }) only [ob, pcs_forall, push_cast, Nat.reduceLT, Nat.reduceAdd]) rfl (by simp only [push_cast, Nat.reduceAdd]) (by simp only [push_cast, Nat.reduceLT, Nat.reduceAdd]) (fun _ _ => rfl) (far_here hs rfl hXg) hR) (dOk_lt rfl) (fun _ => by simp (config := { maxSteps := 1000000 }) only [ob, pcs_forall, push_cast, Nat.reduceLT, Nat.reduceAdd]) ?_
  simp (config := { maxSteps := 1000000 }) only [fl, s39, pcs_ren, ↓mgO_cren, undef, push_cast, ↓reduceIte, reduceCtorEq, Nat.reduceEqDiff, Nat.reduceLT, Nat.reduceAdd]
  refine endsAs [0, 1, 2, 7, 4, 5] ?_
  simp (config := { maxSteps := 1000000 }) only [ob, pcs_ren, pcs_forall, ↓mgO_cren, push_cast, ↓reduceIte, reduceCtorEq, Nat.reduceEqDiff, Nat.reduceLT, Nat.reduceAdd]
set_option maxRecDepth 100000 in
set_option maxHeartbeats 2000000 in
theorem read16_xs (hs : s.Ok X w) (hm : m.In p) : RdM 120 s (stepS 120 s m).2 m (stepS 120 s m).1 true X w := fun g g2 γ hS => by
  obtain ⟨f0, f1, f2, f3, f4, f5, f38, f39, f40, f41, f42⟩ := mgO_get hm.sm 2 3 4 5
  obtain ⟨s0, s1, s2, s3, s4, s5, s38, s39, s40, s41, s42⟩ := mgO_set hm.sm 2 3 4 5
  have ssum := mgO_sum hm.sm 2 3 4 5
  have fl : ∀ a b c d, (mgO m a b c d).length = 43 := fun a b c d => mgO_len hm.sm
  have hXg := pin_own hS rfl
  have ob := fun (m : MgS) a b c d n => mgO_bnd m a b c d n
  simp only [At.bnd] at ob
  have g97 := chI_no (c := 120) (n := 97) (by decide) chI_97
  have g111 := chI_no (c := 120) (n := 111) (by decide) chI_111
  have g99 := chI_no (c := 120) (n := 99) (by decide) chI_99
  have g103 := chI_no (c := 120) (n := 103) (by decide) chI_103
  have g110 := chI_no (c := 120) (n := 110) (by decide) chI_110
  have g115 := chI_no (c := 120) (n := 115) (by decide) chI_115
  have g105 := chI_no (c := 120) (n := 105) (by decide) chI_105
  have g118 := chI_no (c := 120) (n := 118) (by decide) chI_118
  have g112 := chI_no (c := 120) (n := 112) (by decide) chI_112
  have g120 := chI_yes (c := 120) (n := 120) rfl chI_120
  rw [stepS_xs]
  refine calls_fun (n := 123) Tryd.func93 rfl Tryd.ntmps93 _ hS (by simp) (.x (.a (.v (.bool true)))) _ ?_
  obtain ⟨q, hqe⟩ : ∃ q, q = rowOfS 32 s := ⟨_, rfl⟩
  have hR : ∀ X w, s.Ok X w → RdG 14 [.x (.a (.v (.int .i64 32)))] (.x (.a (.o 1))) s q.2 [.own 136 (.u32 q.1)] X w := fun X w h => by rw [hqe]; exact rrow_any 32 (by decide) h
  rw [← hqe]
  rw [mgO_xs m 2 3 4 5 q.1]
  simp (config := { maxSteps := 1000000 }) only [g97, g111, g99, g103, g110, g115, g105, g118, g112, g120, push_cast, ↓reduceIte, reduceCtorEq, Nat.reduceEqDiff, Nat.reduceLT, Nat.reduceAdd]
  (repeat (refine And.intro (by first | omega | decide) ?_))
  refine callG_rule rfl cb14 rfl (rmethK (k0 := 0) (s := s) (args := [.x (.a (.v (.int .i64 32)))]) (by simp (config := { maxSteps := 1000000 }) only [ob, pcs_forall, push_cast, Nat.reduceLT, Nat.reduceAdd]) rfl (by simp only [push_cast, Nat.reduceAdd]) (by simp only [push_cast, Nat.reduceLT, Nat.reduceAdd]) (fun _ _ => rfl) (far_here hs rfl hXg) hR) (dOk_lt rfl) (fun _ => by simp (config := { maxSteps := 1000000 }) only [ob, pcs_forall, push_cast, Nat.reduceLT, Nat.reduceAdd]) ?_
  simp (config := { maxSteps := 1000000 }) only [fl, s41, pcs_ren, ↓mgO_cren, undef, push_cast, ↓reduceIte, reduceCtorEq, Nat.reduceEqDiff, Nat.reduceLT, Nat.reduceAdd]
  refine endsAs [0, 1, 2, 3, 4, 7] ?_
  simp (config := { maxSteps := 1000000 }) only [ob, pcs_ren, pcs_forall, ↓mgO_cren, push_cast, ↓reduceIte, reduceCtorEq, Nat.reduceEqDiff, Nat.reduceLT, Nat.reduceAdd]
set_option maxRecDepth 100000 in
set_option maxHeartbeats 2000000 in
theorem read16_re (hs : s.Ok X w) (hm : m.In p) : RdM 114 s (stepS 114 s m).2 m (stepS 114 s m).1 true X w := fun g g2 γ hS => by
  obtain ⟨f0, f1, f2, f3, f4, f5, f38, f39, f40, f41, f42⟩ := mgO_get hm.sm 2 3 4 5
  obtain ⟨s0, s1, s2, s3, s4, s5, s38, s39, s40, s41, s42⟩ := mgO_set hm.sm 2 3 4 5
  have ssum := mgO_sum hm.sm 2 3 4 5
  have fl : ∀ a b c d, (mgO m a b c d).length = 43 := fun a b c d => mgO_len hm.sm
  have hXg := pin_own hS rfl
  have ob := fun (m : MgS) a b c d n => mgO_bnd m a b c d n
  simp only [At.bnd] at ob
  have g97 := chI_no (c := 114) (n := 97) (by decide) chI_97
  have g111 := chI_no (c := 114) (n := 111) (by decide) chI_111
  have g99 := chI_no (c := 114) (n := 99) (by decide) chI_99
  have g103 := chI_no (c := 114) (n := 103) (by decide) chI_103
  have g110 := chI_no (c := 114) (n := 110) (by decide) chI_110
  have g115 := chI_no (c := 114) (n := 115) (by decide) chI_115
  have g105 := chI_no (c := 114) (n := 105) (by decide) chI_105
  have g118 := chI_no (c := 114) (n := 118) (by decide) chI_118
  have g112 := chI_no (c := 114) (n := 112) (by decide) chI_112
  have g120 := chI_no (c := 114) (n := 120) (by decide) chI_120
  have g114 := chI_yes (c := 114) (n := 114) rfl chI_114
  rw [stepS_re]
  refine calls_fun (n := 123) Tryd.func93 rfl Tryd.ntmps93 _ hS (by simp) (.x (.a (.v (.bool true)))) _ ?_
  have hq := numS_le 255 s
  obtain ⟨q, hqe⟩ : ∃ q, q = numS 255 s := ⟨_, rfl⟩
  have hR : ∀ X w, s.Ok X w → RdG 11 [.x (.a (.v (.int .u64 255)))] (.x (.a (.v (vU64 q.1)))) s q.2.2 [] X w := fun X w h => by rw [hqe]; exact rnum_any 255 h
  rw [← hqe] at hq ⊢
  have hq : q.1.toNat ≤ 255 := hq
  have hn : n64 q.1 = ((q.1.toNat : Nat) : Int) := rfl
  have hx : -9223372036854775808 ≤ n64 q.1 := by omega
  have hx2 : n64 q.1 ≤ 9223372036854775807 := by omega
  simp (config := { maxSteps := 1000000 }) only [g97, g111, g99, g103, g110, g115, g105, g118, g112, g120, g114, push_cast, ↓reduceIte, reduceCtorEq, Nat.reduceEqDiff, Nat.reduceLT, Nat.reduceAdd]
  (repeat (refine And.intro (by first | omega | decide) ?_))
  refine callG_rule rfl cb11 rfl (rmethK (k0 := 0) (s := s) (args := [.x (.a (.v (.int .u64 255)))]) (by simp (config := { maxSteps := 1000000 }) only [ob, pcs_forall, push_cast, Nat.reduceLT, Nat.reduceAdd]) rfl (by simp only [push_cast]) (by simp only [push_cast]) (fun _ _ => rfl) (far_here hs rfl hXg) hR) (dOk_lt rfl) (fun _ => by simp (config := { maxSteps := 1000000 }) only [ob, pcs_forall, push_cast, Nat.reduceLT, Nat.reduceAdd]) ?_
  simp (config := { maxSteps := 1000000 }) only [fl, s42, pcs_ren, ↓mgO_cren, hx, hx2, undef, push_cast, ↓reduceIte, reduceCtorEq, Nat.reduceEqDiff, Nat.reduceLT, Nat.reduceAdd, Int.reduceNeg]
  refine endsAs [0, 1, 2, 3, 4, 5] ?_
  simp (config := { maxSteps := 1000000 }) only [ob, pcs_ren, pcs_forall, ↓mgO_cren, push_cast, ↓reduceIte, reduceCtorEq, Nat.reduceEqDiff, Nat.reduceLT, Nat.reduceAdd]
end
end Go.Proofs.YtiaeollemmkclaaDoor
