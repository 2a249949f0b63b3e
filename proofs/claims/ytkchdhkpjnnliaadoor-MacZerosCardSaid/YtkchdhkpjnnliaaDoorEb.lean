/- The engine: slice literals and append. No program in sight. -/
import Derived.Test.YtkchdhkpjnnliaaDoorEa
namespace Go.Proofs.YtkchdhkpjnnliaaDoor
open Go.RowKit
set_option linter.unusedSimpArgs false
section
variable {P : Program} {w0 w : World} {ow : Nat → Prop} {γ : List Nm} {hp hp' : List Res} {c : Prop} {v : Sv} {t : TypeId}
theorem fill_all : ∀ (vs : List Value), (∀ u ∈ vs, u.cells = #[u]) → ∀ (k : Nat) (cells : Array Value), k + vs.length = cells.size →
    Instr.fill (fun i => some (i * 1, 1)) cells ((vs.zipIdx k).map (fun p => (p.2, p.1))) = some (cells.toList.take k ++ vs).toArray
  | [], _, k, cells, hk => by
    simp only [List.length_nil, Nat.add_zero] at hk
    subst hk
    simp only [Instr.fill, List.zipIdx_nil, List.map_nil, List.append_nil]
    rw [show cells.size = cells.toList.length from Array.length_toList.symm, List.take_length]
  | u :: vs, h, k, cells, hk => by
    simp only [List.length_cons] at hk
    have hu := h u (by simp)
    have hlt : k < cells.size := by omega
    have ih := fill_all vs (fun z hz => h z (by simp [hz])) (k + 1) (cells.setIfInBounds k u) (by simp; omega)
    simp only [List.zipIdx_cons, List.map_cons, Instr.fill, hu]
    have e1 : ¬ ((#[u] : Array Value).size ≠ 1 ∨ k * 1 + (#[u] : Array Value).size > cells.size) := by simp; omega
    have e2 : (#[u] : Array Value).zipIdx.foldl (fun cs (p : Value × Nat) => cs.setIfInBounds (k * 1 + p.2) p.1) cells = cells.setIfInBounds k u := by simp
    simp only [Bool.or_eq_true, decide_eq_true_eq, e1, if_false]
    rw [e2, ih]
    have e3 : (cells.setIfInBounds k u).toList.take (k + 1) = cells.toList.take k ++ [u] := by
      rw [Array.toList_setIfInBounds, List.take_add_one, List.getElem?_set_self (by simpa using hlt), List.take_set_of_le (Nat.le_refl _)]
      rfl
    rw [e3, List.append_assoc]
    rfl
theorem run_buildSlice {e : TypeId} {vs : List Value} {z : Cont} (hu : P.underlying t = some (.slice e)) (hs : sz P e = 1) (hz : ZOk P e z) (h1 : ∀ u ∈ vs, u.cells = #[u]) (hn : vs.length ≤ 1000) :
    (Instr.buildSlice t vs.length ((vs.zipIdx 0).map (fun p => (p.2, p.1))).toArray).run P w = .ok (.slice (some ⟨w.heap.size, 0, none⟩) vs.length vs.length) (w.alloc (.cells vs.toArray e)) := by
  obtain ⟨z', hz1, _⟩ := run_zero (w := w) hz
  unfold Instr.buildSlice
  have hle : ¬ vs.length * 1 > 2 ^ 24 := by omega
  have hf : ∀ cells : Array Value, cells.size = vs.length → Instr.fill (fun i => some (i * 1, 1)) cells ((vs.zipIdx 0).map (fun p => (p.2, p.1))) = some vs.toArray := fun cells hc => by
    have := fill_all vs h1 0 cells (by omega)
    simpa using this
  simp only [Sem.run_bind, run_underlying hu, Result.andThen_ok, run_sizeOf hs (by omega), hle, if_false]
  by_cases h0 : vs.length * 1 = 0
  · simp only [h0, if_true, Sem.run_bind, Sem.run_pure, Result.andThen_ok]
    have := hf ((Array.range 0).map (fun x => (#[] : Array Value)[x % (#[] : Array Value).size]!)) (by simp; omega)
    rw [Nat.mul_one] at h0
    rw [this]
    rfl
  · simp only [h0, if_false, Sem.run_bind, hz1, Result.andThen_ok, Sem.run_pure]
    have := hf ((Array.range (vs.length * 1)).map (fun x => z'.cells[x % z'.cells.size]!)) (by simp)
    rw [this]
    rfl
theorem bsS_sound {ev : Operand → Option Sv} {ρ : Operand → Value} {len : Nat} {ps : List (Nat × Operand)} (hS : Sat w0 ow γ hp w) (hev : ∀ x sv, ev x = some sv → ρ x = sv.val γ)
    (hbe : ∀ x sv, ev x = some sv → sv.bnd hp.length) (hbr : ∀ r ∈ hp, Res.bnd hp.length r) (h : bsS P t len hp (parts ev 0 ps) = some (c, v, hp')) (hc : c) :
    ∃ γ' w', (Instr.buildSlice t len (ps.map (fun p => (p.1, ρ p.2))).toArray).run P w = .ok (v.val γ') w' ∧ Sat w0 ow γ' hp' w' ∧ hp.length < hp'.length ∧ ∃ nm, γ' = γ ++ [nm] := by
  unfold bsS at h
  split at h
  · rename_i l hl
    split at h
    · rename_i e hu
      split at h
      · rename_i d k hk
        simp only [Option.some.injEq, Prod.mk.injEq] at h
        obtain ⟨rfl, rfl, rfl⟩ := h
        obtain ⟨h1, h2, h3, h4, h5⟩ := hc
        obtain ⟨e1, e2⟩ := contOf_vals (γ := γ) hS hk h1
        obtain ⟨p1, p2⟩ := parts_spec (γ := γ) (n := hp.length) hev hbe ps 0 l hl
        have hlen : (k.vals γ).length = len := by rw [Cont.len_vals, h3]
        have hrun := run_buildSlice (P := P) (w := w) (t := t) (vs := k.vals γ) hu h2 h5 e2 (by omega)
        rw [hlen] at hrun
        have hsat := hS.made hbr (contOf_bnd hk p2) (cs := (k.vals γ).toArray) (e := e) (by simp)
        refine ⟨_, _, ?_, hsat, by simp, _, rfl⟩
        rw [p1, ← e1, hrun]
        simp [Sv.val, Sc.val, At.val, nmB_last hS.len]
      · cases h
    · cases h
  · cases h

/-! ### append -/
theorem Cont.app_vals {a b k : Cont} (h : a.app b = some k) : k.vals γ = a.vals γ ++ b.vals γ := by
  unfold Cont.app at h
  split at h <;> simp only [Option.some.injEq, reduceCtorEq] at h <;> subst h <;> simp [Cont.vals]
theorem Cont.app_bnd {a b k : Cont} {n : Nat} (h : a.app b = some k) (ha : a.bnd n) (hb : b.bnd n) : k.bnd n := by
  unfold Cont.app at h
  split at h <;> simp only [Option.some.injEq, reduceCtorEq] at h <;> subst h <;> simp_all [Cont.bnd]
  intro x hx
  rcases hx with hx | hx
  · exact ha x hx
  · exact hb x hx
def optVals (γ : List Nm) (c : Option Cont) : List Value := match c with | none => [] | some c => c.vals γ
theorem join_vals {a : Option Cont} {b k : Cont} (h : joinC a b = some k) : k.vals γ = optVals γ a ++ b.vals γ := by
  cases a with
  | none => simp only [joinC, Option.some.injEq] at h; subst h; rfl
  | some a => exact Cont.app_vals h
theorem clen_vals (c : Option Cont) : clen c = (optVals γ c).length := by cases c <;> simp [clen, optVals, Cont.len_vals]
theorem plain_vals {m : Cont} (hS : Sat w0 ow γ hp w) (h : m.plain hp) : ∀ u ∈ m.vals γ, u.oneCell' = true := by
  cases m with
  | c l =>
    intro u hu
    simp only [Cont.vals, List.mem_map] at hu
    obtain ⟨x, hx, rfl⟩ := hu
    exact At.one_val hS (h x hx)
  | vs l => exact h
  | u8 l => simp [Cont.vals, Value.oneCell']
  | u32 l => simp [Cont.vals, Value.oneCell']
  | u64 l => simp [Cont.vals, Value.oneCell']
  | i64 l => simp [Cont.vals, Value.oneCell']
/-- What is appended to: a slice of the call's own. -/
theorem baseS_spec {e : TypeId} {b : Sv} {k : Option Nat} {ct : Option Cont} (hS : Sat w0 ow γ hp w) (h : baseS hp e b = some (k, ct)) (hml : clen ct ≤ maxLen) :
    Own w 0 e (b.val γ) (optVals γ ct) ∧ (∀ n, (b.val γ).ownBlock = some n → ∃ j r, k = some j ∧ hp[j]? = some r ∧ r.block γ j = some n) ∧ (∀ c0, ct = some c0 → ∃ j r, k = some j ∧ hp[j]? = some r ∧ (r = .own e c0 ∨ r = .blk e c0)) := by
  unfold baseS at h
  split at h
  · split at h
    · rename_i hn
      obtain ⟨rfl, rfl⟩ := hn
      simp only [Option.some.injEq, Prod.mk.injEq] at h
      obtain ⟨rfl, rfl⟩ := h
      exact ⟨Own.nil_ _ _ _, fun n hn => by simp [Sv.val, Sc.val, At.val, Value.ownBlock] at hn, fun c0 h0 => by cases h0⟩
    · cases h
  · rename_i j
    split at h
    · rename_i e' c' hr
      split at h
      · rename_i he
        subst he
        simp only [Option.some.injEq, Prod.mk.injEq] at h
        obtain ⟨rfl, rfl⟩ := h
        exact ⟨(hS.own hr).2, fun n hn => ⟨j, _, rfl, hr, hn⟩, fun c0 h0 => by cases h0; exact ⟨j, _, rfl, hr, .inl rfl⟩⟩
      · cases h
    · cases h
  · rename_i j off len cap
    split at h
    · rename_i e' c' hr
      split at h
      · rename_i he
        obtain ⟨rfl, rfl, rfl, rfl⟩ := he
        simp only [Option.some.injEq, Prod.mk.injEq] at h
        obtain ⟨rfl, rfl⟩ := h
        refine ⟨?_, fun n hn => ⟨j, _, rfl, hr, by simpa [Sv.val, Sc.val, At.val, Value.ownBlock, Res.block] using hn⟩, fun c0 h0 => by cases h0; exact ⟨j, _, rfl, hr, .inr rfl⟩⟩
        obtain ⟨_, hb⟩ := hS.blk hr
        refine ⟨?_, .inr ⟨nmB γ j, c'.len, (c'.vals γ).toArray, ?_, Nat.zero_le _, hb, ?_, hml, ?_, ?_⟩⟩
        · simp [optVals]
        · simp [Sv.val, Sc.val, At.val, optVals, Cont.len_vals]
        · simp [optVals, Cont.len_vals]
        · simp [Cont.len_vals]
        · simp [optVals]
      · cases h
    · cases h
  · cases h
theorem Cont.cut_bnd {ct c' : Cont} {off len n : Nat} (hcut : ct.cut off len = some c') (hbb : ct.bnd n) : c'.bnd n := by
  unfold Cont.cut at hcut
  split at hcut
  · simp only [Option.some.injEq] at hcut; subst hcut; exact hbb
  · cases ct <;> simp only [Cont.part, Option.some.injEq] at hcut <;> subst hcut <;> simp_all [Cont.bnd]
    exact fun y hy => hbb y (List.mem_of_mem_drop (List.mem_of_mem_take hy))
theorem RdV.take' {B : Nat} {A : Option Addr} {vs : List Value} (h : RdV w B A vs) (n : Nat) : RdV w B A (vs.take n) := fun hp => by
  obtain ⟨b, off, h1, h2, h3⟩ := h (by rw [List.length_take] at hp; omega)
  refine ⟨b, off, h1, h2, fun j u hu => h3 j u ?_⟩
  rw [List.getElem?_take] at hu
  split at hu
  · exact hu
  · cases hu
theorem srcS_spec {d : Option TypeDesc} {x : Sv} {m : Cont} (hS : Sat w0 ow γ hp w) (hbr : ∀ r ∈ hp, Res.bnd hp.length r) (h : srcS w0 ow hp d x = some (c, m)) (hc : c) :
    ∃ A cap B, x.val γ = .slice A m.len cap ∧ RdV w B A (m.vals γ) ∧ m.bnd hp.length := by
  unfold srcS at h
  split at h
  · rename_i k off len cap
    split at h
    · rename_i e' ct hr
      split at h
      · rename_i c' hcut
        simp only [Option.some.injEq, Prod.mk.injEq] at h
        obtain ⟨rfl, rfl⟩ := h
        have hv := Cont.cut_vals (γ := γ) hcut
        have hl : c'.len = len := by rw [← Cont.len_vals (γ := γ), hv, List.length_take, List.length_drop, Cont.len_vals]; omega
        have hbb : ct.bnd hp.length := hbr _ (List.mem_of_getElem? hr)
        refine ⟨some ⟨nmB γ k, off, none⟩, cap, w.heap.size, by rw [hl]; rfl, fun _ => ⟨nmB γ k, off, rfl, (hS.blk hr).2.lt, fun j u hu => ?_⟩, ?_⟩
        · rw [(hS.blk hr).2.cell (off + j), List.getElem?_toArray]
          rw [hv, List.getElem?_take] at hu
          split at hu
          · rw [List.getElem?_drop] at hu; exact hu
          · cases hu
        · exact Cont.cut_bnd hcut hbb
      · cases h
    · cases h
  · rename_i k
    split at h
    · rename_i e' ct hr
      simp only [Option.some.injEq, Prod.mk.injEq] at h
      obtain ⟨rfl, rfl⟩ := h
      obtain ⟨A, m, h1, _, _, h4, _⟩ := own_rd hS hr
      exact ⟨A, m, _, h1, h4, hbr _ (List.mem_of_getElem? hr)⟩
    · cases h
  · rename_i k l m'
    split at h
    · rename_i e' ct hr
      split at h
      · rename_i c' hcut
        simp only [Option.some.injEq, Prod.mk.injEq] at h
        obtain ⟨rfl, rfl⟩ := h
        have hv := Cont.cut_vals (γ := γ) hcut
        have hl : c'.len = m' := by rw [← Cont.len_vals (γ := γ), hv, List.length_take, List.length_drop, Cont.len_vals]; omega
        have hbb : ct.bnd hp.length := hbr _ (List.mem_of_getElem? hr)
        obtain ⟨A, cap, h1, h2, _, h4, _⟩ := own_rd hS hr
        refine ⟨pCut A l cap, cap - l, w.heap.size, by rw [hl]; simp [Sv.val, Sc.val, At.val, h1], ?_, Cont.cut_bnd hcut hbb⟩
        rw [hv]
        exact RdV.take' (h4.cut (k := l) (c := cap) (by rw [Cont.len_vals]; exact h2)) m'
      · cases h
    · cases h
  · rename_i A n cap
    split at h
    · simp only [Option.some.injEq, Prod.mk.injEq] at h
      obtain ⟨rfl, rfl⟩ := h
      exact ⟨A, cap, _, by simp [Sv.val, Sc.val, At.val, Cont.len, rd8_length], hS.rdv hc, trivial⟩
    · cases h
  · cases h
theorem ownBlock_gone {k : Option Nat} {γ : List Nm} (hS : Sat w0 ow γ hp w) {n : Nat} (hn : ∃ j r, k = some j ∧ hp[j]? = some r ∧ r.block γ j = some n) : Owned w0 ow n ∧ ∀ (i : Nat) (r : Res), (setGone hp k)[i]? = some r → r.block γ i ≠ some n := by
  obtain ⟨j, r, rfl, hr, hb⟩ := hn
  refine ⟨(hS.mine j r n hr hb).1, fun i q hq hcon => ?_⟩
  unfold setGone at hq
  by_cases hij : i = j
  · subst hij
    rw [List.getElem?_set_self (lt_of_get hr)] at hq
    cases hq
    cases hcon
  · rw [List.getElem?_set_ne (fun e => hij e.symm)] at hq
    exact hS.apart i j q r n hq hr hij hcon hb
theorem appS_sound {t' ty : TypeId} {b x : Sv} (hS : Sat w0 ow γ hp w) (hbr : ∀ r ∈ hp, Res.bnd hp.length r) (h : appS P w0 ow t t' hp b x = some (c, v, hp')) (hc : c) :
    ∃ γ' w', (Builtin.append_ #[t, t'] ty #[b.val γ, x.val γ]).run P w = .ok (v.val γ') w' ∧ Sat w0 ow γ' hp' w' ∧ hp.length < hp'.length ∧ ∃ nm, γ' = γ ++ [nm] := by
  unfold appS at h
  split at h
  · rename_i e hu
    split at h
    · rename_i ht
      subst ht
      split at h
      · rename_i k ct d m hb hx
        split at h
        · rename_i c' hj
          simp only [Option.some.injEq, Prod.mk.injEq] at h
          obtain ⟨rfl, rfl, rfl⟩ := h
          obtain ⟨h1, h2, h3, h4, h5, h6⟩ := hc
          obtain ⟨b1, b2, b3⟩ := baseS_spec hS hb (by omega)
          obtain ⟨A, cap, B, e1, e2, e3⟩ := srcS_spec hS hbr hx h1
          obtain ⟨z, hz1, hz2⟩ := h5
          obtain ⟨i, hi, hsz⟩ := sz_info h6 (by omega)
          have hzero : i.zero = some z := by simpa [hi] using hz1
          have hbz : i.bytes = bz P e := by simp [bz, hi]
          have hz3 : z.cells.size = 1 := by rw [← Array.length_toList, hz2 []]; rfl
          have hlm : (m.vals γ).length = m.len := Cont.len_vals m
          rw [clen_vals (γ := γ)] at h3 h4
          obtain ⟨v', w', hrun, ho, hk, hob⟩ := run_appendR (P := P) w 0 t e (bz P e) hu z hz3 (by rw [hi]; simp [hzero, hsz, hbz]) (b.val γ) (optVals γ ct) b1 A m.len cap B (m.vals γ) e2 hlm (plain_vals hS h2) h4 h3 (Nat.zero_le _)
          have hgl : (setGone hp k).length = hp.length := by cases k <;> simp [setGone]
          have hS' : Sat w0 ow γ (setGone hp k) w := by
            cases k with
            | none => exact hS
            | some k => exact hS.drop k
          have hbr' : ∀ r ∈ setGone hp k, Res.bnd (setGone hp k).length r := by
            rw [hgl]
            intro r hr
            cases k with
            | none => exact hbr r hr
            | some k =>
              rcases List.mem_or_eq_of_mem_set hr with hr | rfl
              · exact hbr r hr
              · trivial
          have hl' : γ.length = (setGone hp k).length := hS'.len
          have hcb : c'.bnd hp.length := by
            cases ct with
            | none => simp only [joinC, Option.some.injEq] at hj; subst hj; exact e3
            | some c0 =>
              refine Cont.app_bnd hj ?_ e3
              obtain ⟨j, r, _, hr, hr2⟩ := b3 c0 rfl
              have := hbr r (List.mem_of_getElem? hr)
              rcases hr2 with rfl | rfl <;> exact this
          refine ⟨γ ++ [.s v'], w', ?_, ?_, by simp [hgl], _, rfl⟩
          · rw [e1, hrun]
            simp [Sv.val, Sc.val, At.val, nmS_last hS.len]
          · refine hS'.push (X := fun n => (b.val γ).ownBlock = some n) hk (fun n hn => ownBlock_gone hS (b2 n hn)) hbr' ?_ ?_
            · refine ⟨by rw [get_last hl', nmS_last hl'], ?_⟩
              rw [nmS_last hl', Cont.ext (by rw [hl', hgl]; exact hcb), join_vals hj]
              exact ho
            · intro n hn
              simp only [Res.block, nmS_last hl'] at hn
              have := ho.lt n hn
              refine ⟨?_, this.2⟩
              rcases hob with h7 | h7
              · rw [h7] at hn; exact .inl hn
              · rw [h7] at hn; cases hn; exact .inr (Nat.le_refl _)
        · cases h
      · cases h
    · split at h
      · rename_i kk m hti
        split at h
        · rename_i k ct z hb hzn
          split at h
          · rename_i c' hj
            simp only [Option.some.injEq, Prod.mk.injEq] at h
            obtain ⟨rfl, rfl, rfl⟩ := h
            obtain ⟨h1, h3, h4, h5, h6⟩ := hc
            obtain ⟨hue, rfl⟩ : P.underlying e = some (.int .u8) ∧ z = .u8 (List.replicate m.toNat 0) := by
              unfold appS.zeroN at hzn
              split at hzn
              · rename_i h7
                exact ⟨h7, (Option.some.inj hzn).symm⟩
              · cases hzn
            obtain ⟨b1, b2, b3⟩ := baseS_spec hS hb (by omega)
            obtain ⟨z, hz1, hz2⟩ := h5
            obtain ⟨i, hi, hsz⟩ := sz_info h6 (by omega)
            have hzero : i.zero = some z := by simpa [hi] using hz1
            have hbz : i.bytes = bz P e := by simp [bz, hi]
            have hz3 : z.cells = #[.int .u8 0] := by
              have := hz2 []
              rw [hue] at this
              exact Array.ext' this
            rw [clen_vals (γ := γ)] at h3 h4
            obtain ⟨v', w', hrun, ho, hk, hob⟩ := run_appendZ (P := P) w 0 t t' e kk z (.int .u8 0) hz3 rfl (bz P e) hu hti (by rw [hi]; simp [hzero, hsz, hbz]) (b.val γ) (optVals γ ct) b1 m.toNat h4 h3 (Nat.zero_le _)
            have hgl : (setGone hp k).length = hp.length := by cases k <;> simp [setGone]
            have hS' : Sat w0 ow γ (setGone hp k) w := by
              cases k with
              | none => exact hS
              | some k => exact hS.drop k
            have hbr' : ∀ r ∈ setGone hp k, Res.bnd (setGone hp k).length r := by
              rw [hgl]
              intro r hr
              cases k with
              | none => exact hbr r hr
              | some k =>
                rcases List.mem_or_eq_of_mem_set hr with hr | rfl
                · exact hbr r hr
                · trivial
            have hl' : γ.length = (setGone hp k).length := hS'.len
            have hcb : c'.bnd hp.length := by
              cases ct with
              | none => simp only [joinC, Option.some.injEq] at hj; subst hj; trivial
              | some c0 =>
                refine Cont.app_bnd hj ?_ trivial
                obtain ⟨j, r, _, hr, hr2⟩ := b3 c0 rfl
                have := hbr r (List.mem_of_getElem? hr)
                rcases hr2 with rfl | rfl <;> exact this
            have hzv : (Cont.u8 (List.replicate m.toNat 0)).vals γ = List.replicate m.toNat (.int .u8 0) := by
              show (List.replicate m.toNat (0 : UInt8)).map vU8 = _
              rw [List.map_replicate]
              rfl
            refine ⟨γ ++ [.s v'], w', ?_, ?_, by simp [hgl], _, rfl⟩
            · have hm : ((m.toNat : Nat) : Int) = m := by omega
              have := hrun ty
              rw [hm] at this
              show (Builtin.append_ #[t, t'] ty #[b.val γ, .int .i64 m]).run P w = _
              rw [this]
              simp [Sv.val, Sc.val, At.val, nmS_last hS.len]
            · refine hS'.push (X := fun n => (b.val γ).ownBlock = some n) hk (fun n hn => ownBlock_gone hS (b2 n hn)) hbr' ?_ ?_
              · refine ⟨by rw [get_last hl', nmS_last hl'], ?_⟩
                rw [nmS_last hl', Cont.ext (by rw [hl', hgl]; exact hcb), join_vals hj, hzv]
                exact ho
              · intro n hn
                simp only [Res.block, nmS_last hl'] at hn
                have := ho.lt n hn
                refine ⟨?_, this.2⟩
                rcases hob with h7 | h7
                · rw [h7] at hn; exact .inl hn
                · rw [h7] at hn; cases hn; exact .inr (Nat.le_refl _)
          · cases h
        · cases h
      · cases h
  · cases h
theorem setGone_len {k : Option Nat} : (setGone hp k).length = hp.length := by cases k <;> simp [setGone]
theorem appS_lt {t' : TypeId} {b x : Sv} (h : appS P w0 ow t t' hp b x = some (c, v, hp')) : hp.length < hp'.length := by
  unfold appS at h
  split at h
  · split at h
    · split at h
      · split at h
        · simp only [Option.some.injEq, Prod.mk.injEq] at h
          rw [← h.2.2]
          simp [setGone_len]
        · cases h
      · cases h
    · split at h
      · split at h
        · split at h
          · simp only [Option.some.injEq, Prod.mk.injEq] at h
            rw [← h.2.2]
            simp [setGone_len]
          · cases h
        · cases h
      · cases h
  · cases h
end
end Go.Proofs.YtkchdhkpjnnliaaDoor
