import Derived.Test.YtiaeollemmkclaaDoorKn
import Derived.Test.YtiaeollemmkclaaDoorLib
import Derived.Shelf.Strings.Builder1
import Derived.Shelf.Strings.BuilderF
/- strings.Builder: WriteString, Len, String: turned from the shelf's proofs, for the shelf's own do not lie at this program (its copyCheck ends in a refusal). -/
namespace Go.Proofs.YtiaeollemmkclaaDoor
open Go.RowKit
set_option linter.unusedSimpArgs false
set_option linter.unusedVariables false
theorem buSize : (Tryd.prog.info? 177).map (·.size) = some 2 := by kernel_rfl
theorem buLies : liesAt Tryd.prog Tryd.prog.depth 177 (2 / Tryd.prog.cellsOf 177) 0 177 1 = true := by kernel_rfl
theorem byInfo : (Tryd.prog.info? 5).map (fun i => (i.zero, i.size, i.bytes)) = some (some (.int .u8 0), 1, 1) := by kernel_rfl
theorem buPtr : Tryd.prog.underlying 175 = some (.pointer 177) := Tryd.underlying175
theorem buUns : Tryd.prog.underlying 190 = some .unsafePointer := by kernel_rfl
theorem buWs : Callable Tryd.prog 104 := callable_of Tryd.func104 (by kernel_rfl) rfl
theorem buLn : Callable Tryd.prog 105 := callable_of Tryd.func105 (by kernel_rfl) rfl
theorem buSt : Callable Tryd.prog 106 := callable_of Tryd.func106 (by kernel_rfl) rfl
set_option maxHeartbeats 1000000 in
set_option maxRecDepth 100000 in
theorem copyCheck_used (b : Nat) (w : World) (h0 : w.cell? ⟨b, 0, none⟩ = some (.pointer (some ⟨b, 0, none⟩))) :
    Calls Tryd.prog 140 #[.pointer (some ⟨b, 0, none⟩)] w fun e w' => e = .returned (.tuple #[]) ∧ w' = w := by
  obtain ⟨j, hj, _⟩ := Option.map_eq_some_iff.1 buSize
  go_enter Tryd.func140, Tryd.ntmps140
  go_wp2
  rw [Lib.run_neq_ptr_same w _ buPtr hj]
  go_wp2
  go_end0
  exact ⟨rfl, rfl⟩
set_option maxHeartbeats 1000000 in
set_option maxRecDepth 100000 in
theorem copyCheck_fresh (b : Nat) (w : World) (h0 : w.cell? ⟨b, 0, none⟩ = some (.pointer none)) (hsh : w.shape? b = some (177, 2)) (hfz : w.frozen? ⟨b, 0, none⟩ = false) :
    Calls Tryd.prog 140 #[.pointer (some ⟨b, 0, none⟩)] w fun e w' => e = .returned (.tuple #[]) ∧ w' = w.setCell ⟨b, 0, none⟩ (.pointer (some ⟨b, 0, none⟩)) := by
  obtain ⟨j, hj, hjs⟩ := Option.map_eq_some_iff.1 buSize
  go_enter Tryd.func140, Tryd.ntmps140
  go_wp2
  rw [Lib.run_to_unsafe w ⟨b, 0, none⟩ buPtr buUns hj (by rw [hjs]; decide) hsh (Nat.zero_lt_succ 1)]
  simp only [Result.andThen]
  rw [Oper.upon_value]
  go_wp2
  rw [run_callFunc_extern Tryd.func153 (by kernel_rfl) (by kernel_rfl) (by kernel_rfl) (e := Extern.AbiNoEscape.same) (by kernel_rfl)]
  rw [Lib.run_noEscape]
  simp only [Result.andThen]
  rw [Oper.upon_value]
  go_wp2
  rw [Lib.run_from_unsafe w ⟨b, 0, none⟩ buUns buPtr hj hsh buLies]
  simp only [Result.andThen]
  rw [Oper.upon_value]
  go_wp2
  go_end0
  exact ⟨rfl, rfl⟩
theorem copyCheck_any (B b : Nat) (bs : List Value) (w : World) (h : Lib.IsBuilderF 177 5 B b bs w) :
    Calls Tryd.prog 140 #[.pointer (some ⟨b, 0, none⟩)] w fun e w' => e = .returned (.tuple #[]) ∧ Lib.BuilderAtF 177 5 B b (.pointer (some ⟨b, 0, none⟩)) bs w' ∧ Below B w w' ∧ Lib.OthersKept 5 (some b) w w' := by
  rcases h with h | h
  · refine (copyCheck_fresh b w h.cell0 h.shape h.frozen0).mono ?_
    rintro e w' ⟨rfl, rfl⟩
    exact ⟨rfl, h.used _, (Below.refl B w).setCell (p := ⟨b, 0, none⟩) h.1 _, (Lib.OthersKept.refl _ _ w).setCell ⟨b, 0, none⟩ rfl _⟩
  · refine (copyCheck_used b w h.cell0).mono ?_
    rintro e w' ⟨rfl, rfl⟩
    exact ⟨rfl, h, Below.refl B _, Lib.OthersKept.refl _ _ _⟩
set_option maxHeartbeats 2000000 in
set_option maxRecDepth 100000 in
theorem writeString_any (B b : Nat) (bs : List Value) (s : ByteArray) (w : World) (h : Lib.IsBuilderF 177 5 B b bs w) (hlen : bs.length + s.size ≤ 140737488355328) (hBw : B ≤ w.heap.size) :
    Calls Tryd.prog 104 #[.pointer (some ⟨b, 0, none⟩), .string s] w fun e w' => e = .returned (.tuple #[.int .i64 s.size, .nilIface]) ∧ Lib.BuilderAtF 177 5 B b (.pointer (some ⟨b, 0, none⟩)) (bs ++ Lib.strCells s) w' ∧ Below B w w' ∧ Lib.OthersKept 5 (some b) w w' := by
  obtain ⟨i0, hi, hz0, hz1, hz2⟩ := info_parts byInfo
  go_enter Tryd.func104, Tryd.ntmps104
  go_wp2_with (go_at_call 140; refine (copyCheck_any B b bs _ h).mono ?_)
  rintro e w1 ⟨rfl, h1, hb1, hk1⟩
  obtain ⟨hB, v, hbk, hown, hne⟩ := h1
  have c0 : w1.cell? ⟨b, 0, none⟩ = some (.pointer (some ⟨b, 0, none⟩)) := by rw [Lib.cell_of_heap hbk]; rfl
  have c1 : w1.cell? ⟨b, 1, none⟩ = some v := by rw [Lib.cell_of_heap hbk]; rfl
  go_wp2_with (at_builtin; refine Lib.wpList_append_own_stringF _ rfl _ _ 23 9 rfl B 5 i0 Tryd.underlying23 Tryd.underlying9 hi hz0 hz1 hz2 _ _ _ rfl hown s rfl ?c3 ?c4 ?c5 ?_)
  case c3 => unfold maxLen; omega
  case c4 => omega
  case c5 => have := hb1.size; omega
  intro v' w2 hown' hgrow _
  have hlt : b < w1.heap.size := by
    rcases Nat.lt_or_ge b w1.heap.size with h' | h'
    · exact h'
    · simp [Array.getElem?_eq_none h'] at hbk
  have hb2 : w2.heap[b]? = some (.cells #[.pointer (some ⟨b, 0, none⟩), v] 177 (0, 0)) := by
    rw [hgrow.block b hlt (fun e => hne e.symm)]
    exact hbk
  have d0 : w2.cell? ⟨b, 0, none⟩ = some (.pointer (some ⟨b, 0, none⟩)) := by rw [Lib.cell_of_heap hb2]; rfl
  have d1 : w2.cell? ⟨b, 1, none⟩ = some v := by rw [Lib.cell_of_heap hb2]; rfl
  have f1 : w2.frozen? ⟨b, 1, none⟩ = false := Lib.frozen_of_heap hb2 1
  obtain ⟨ao, n', cap, rfl⟩ : ∃ ao n' cap, v' = .slice ao n' cap := by
    rcases hown'.2 with ⟨hv, _⟩ | ⟨g, cap, cur, fz, hv, _⟩
    · exact ⟨_, _, _, hv⟩
    · exact ⟨_, _, _, hv⟩
  go_wp2
  go_ret2
  refine ⟨rfl, ?_, ?_, (hk1.grown hgrow (Lib.ownsRowF_kind hown)).setCell ⟨b, 1, none⟩ rfl _⟩
  · exact Lib.BuilderAtF.put (T := 177) (e := 5) hB hb2 (bs' := bs ++ Lib.strCells s) (by simpa [Lib.strCells_length] using hown') (by decide)
  · exact (hb1.grown hgrow (by have := hb1.size; omega) (fun k hk => (hown.lt k hk).1)).setCell (p := ⟨b, 1, none⟩) hB _
/-! ### A builder, as a thing of its own -/
def BuH (B0 : Nat) (l : List UInt8) (x : Value) (B : Nat → Prop) (w : World) : Prop := ∃ (b : Nat) (p v : Value), x = .pointer (some ⟨b, 0, none⟩) ∧ (p = .pointer none ∨ p = .pointer (some ⟨b, 0, none⟩)) ∧ B0 ≤ b ∧ w.heap[b]? = some (.cells #[p, v] 177 (0, 0)) ∧ w.ownsRowF B0 5 1 v (Lib.byteCells l).length (Lib.byteCells l) ∧ v.ownBlock ≠ some b ∧ B b ∧ ∀ g, v.ownBlock = some g → B g
def BuRep (B0 : Nat) (l : List UInt8) : Rep where
  H x B w := BuH B0 l x B w
  one := fun {v B w} h => by obtain ⟨b, p, v, rfl, _⟩ := h; exact ⟨rfl, trivial⟩
  keep := fun {v B own w w'} h hlt hk hn => by
    obtain ⟨b, p, v, h1, h2, h3, h4, h5, h6, h7, h8⟩ := h
    refine ⟨b, p, v, h1, h2, h3, (hk.block b (hlt b h7) (hn b h7)).trans h4, ⟨h5.1, ?_⟩, h6, h7, h8⟩
    rcases h5.2 with h | ⟨g, cap, cur, fz, e1, e2, e3, e4⟩
    · exact .inl h
    · have hg := h8 g (by rw [e1]; rfl)
      exact .inr ⟨g, cap, cur, fz, e1, e2, (hk.block g (hlt g hg) (hn g hg)).trans e3, e4⟩
theorem BuH.is {B0 : Nat} {l : List UInt8} {x : Value} {B : Nat → Prop} {w : World} (h : BuH B0 l x B w) : ∃ b, x = .pointer (some ⟨b, 0, none⟩) ∧ Lib.IsBuilderF 177 5 B0 b (Lib.byteCells l) w ∧ B b := by
  obtain ⟨b, p, v, h1, h2, h3, h4, h5, h6, h7, h8⟩ := h
  refine ⟨b, h1, ?_, h7⟩
  rcases h2 with rfl | rfl
  · exact .inl ⟨h3, v, h4, h5, h6⟩
  · exact .inr ⟨h3, v, h4, h5, h6⟩
theorem strCells_eq (s : ByteArray) : Lib.strCells s = Lib.byteCells s.data.toList := rfl
theorem byteCells_app (a b : List UInt8) : Lib.byteCells (a ++ b) = Lib.byteCells a ++ Lib.byteCells b := List.map_append
section
variable {w0 w : World} {γ : List Nm} {hp : List Res} {n : Nat}
/-- A variable that is a builder. -/
theorem leads_bu {s : S} (k t : Nat) (fr' : Fr) (hk : s.hp[k]? = some (.blk 177 (.c [.v (.pointer none), .v (.slice none 0 0)]))) (ht : Fr.get s.fr t = some (.x (.a (.p k 0)))) (hf : Le [] s ⟨fr', []⟩) (hb : ∀ x ∈ fr', Sv.bnd 0 x.2) :
    Leads w0 No n s ⟨(t, .x (.a (.o 0))) :: fr', [.abs (BuRep w0.heap.size [])]⟩ := fun a w ⟨γ, h⟩ => by
  obtain ⟨h1, h2⟩ := h.sat.holds k _ hk
  have hm := h.sat.mine k _ (nmB γ k) hk rfl
  refine ⟨[.m (.pointer (some ⟨nmB γ k, 0, none⟩)) (fun b => b = nmB γ k)], ⟨h.sat.keeps, rfl, ?_, ?_, ?_⟩, h.defers, h.size, ?_⟩
  · intro i r hr
    cases i with
    | succ i => cases hr
    | zero =>
      cases hr
      refine ⟨rfl, fun b hb => by have hb : b = nmB γ k := hb; rw [hb]; exact hm.2, nmB γ k, .pointer none, .slice none 0 0, rfl, .inl rfl, hm.1.elim (fun h => h.elim) id, h2, ⟨rfl, .inl ⟨rfl, rfl⟩⟩, by simp [Value.ownBlock], rfl, fun g hg => by cases hg⟩
  · intro i r b hr hb
    cases i with
    | succ i => cases hr
    | zero =>
      cases hr
      have hb : b = nmB γ k := hb
      rw [hb]
      exact hm
  · intro i j r r' b hr hr' hij
    cases i with
    | succ i => cases hr
    | zero =>
      cases j with
      | zero => exact absurd rfl hij
      | succ j => cases hr'
  · intro u sv hu
    show _ = sv.val _
    by_cases e : t = u
    · subst e
      simp only [Fr.get, if_true, Option.some.injEq] at hu
      subst hu
      exact h.at_ t _ ht
    · simp only [Fr.get, if_neg e] at hu
      obtain ⟨γ2, h2⟩ := hf.fits ⟨γ, h⟩
      obtain rfl := List.eq_nil_of_length_eq_zero h2.sat.len
      rw [h2.at_ u sv hu]
      exact (Sv.ext (γ := []) (hb _ (Fr.get_mem hu))).symm
theorem Cont.eqv {γ γ' : List Nm} {n : Nat} (h : ∀ i, i < n → nmB γ' i = nmB γ i ∧ nmS γ' i = nmS γ i) {c : Cont} (hb : c.bnd n) : c.vals γ' = c.vals γ := by
  cases c <;> simp only [Cont.vals]
  exact List.map_congr_left fun x hx => At.eqv h (hb x hx)
/-- What may stand beside a builder that is written. -/
def BuSide (r : Res) : Prop := match r with | .blk t _ => t ≠ 5 | .gone => True | _ => False
theorem sat_bu {R : List Res} {l l' : List UInt8} {w' : World} {b : Nat} {p : Value} (hS : Sat w0 No γ (.abs (BuRep w0.heap.size l) :: R) w) (hbr : ∀ r ∈ R, Res.bnd (R.length + 1) r) (hR : ∀ r ∈ R, BuSide r) (hx : nmS γ 0 = .pointer (some ⟨b, 0, none⟩)) (hbm : nmM γ 0 b)
    (hp : p = .pointer none ∨ p = .pointer (some ⟨b, 0, none⟩)) (hw : Lib.BuilderAtF 177 5 w0.heap.size b p (Lib.byteCells l') w') (hB : Below w0.heap.size w w') (hO : Lib.OthersKept 5 (some b) w w') :
    ∃ γ', Sat w0 No γ' (.abs (BuRep w0.heap.size l') :: R) w' ∧ ∀ i, i < R.length + 1 → nmB γ' i = nmB γ i ∧ nmS γ' i = nmS γ i := by
  obtain ⟨h0, v, h1, h2, h3⟩ := hw
  have hl : γ.length = R.length + 1 := hS.len
  obtain ⟨a0, _, _⟩ := hS.holds 0 _ rfl
  have hlt : b < w'.heap.size := (Array.getElem?_eq_some_iff.1 h1).1
  have hrow : ∀ g, v.ownBlock = some g → w0.heap.size ≤ g ∧ ∃ cur fz, w'.heap[g]? = some (.cells cur 5 fz) := fun g hg => by
    rcases h2.2 with ⟨rfl, _⟩ | ⟨g', cap, cur, fz, rfl, e2, e3, _⟩
    · cases hg
    · cases hg
      exact ⟨e2, cur, fz, e3⟩
  obtain ⟨γ', hγ⟩ : ∃ γ', γ' = γ.set 0 (.m (nmS γ 0) (fun k => k = b ∨ v.ownBlock = some k)) := ⟨_, rfl⟩
  have g0 : γ'[0]? = some (.m (nmS γ 0) (fun k => k = b ∨ v.ownBlock = some k)) := by rw [hγ, List.getElem?_set_self (by omega)]
  have gi : ∀ i, γ'[i + 1]? = γ[i + 1]? := fun i => by rw [hγ, List.getElem?_set_ne (by omega)]
  have eB : ∀ i, nmB γ' i = nmB γ i := fun i => by
    cases i with
    | zero => unfold nmB; rw [g0, a0]
    | succ i => unfold nmB; rw [gi]
  have eS : ∀ i, nmS γ' i = nmS γ i := fun i => by
    cases i with
    | zero => show (match γ'[0]? with | some (.s x) => x | some (.m x _) => x | _ => undef) = _; rw [g0]
    | succ i => unfold nmS; rw [gi]
  have eM : nmM γ' 0 = fun k => k = b ∨ v.ownBlock = some k := by unfold nmM; rw [g0]
  have keepB : ∀ (i : Nat) (t : TypeId) (c : Cont), R[i]? = some (.blk t c) → t ≠ 5 ∧ w'.heap[nmB γ (i + 1)]? = some (.cells (c.vals γ).toArray t (0, 0)) ∧ nmB γ (i + 1) ≠ b := fun i t c hi => by
    have hm := List.mem_of_getElem? hi
    have ht : t ≠ 5 := hR _ hm
    obtain ⟨_, h5⟩ := hS.holds (i + 1) (.blk t c) hi
    have hne : nmB γ (i + 1) ≠ b := fun e => hS.apart 0 (i + 1) _ (.blk t c) b rfl hi (by omega) hbm (by show some _ = some b; rw [e])
    refine ⟨ht, ?_, hne⟩
    refine hO _ _ h5 (fun e => hne (Option.some.inj e)) fun c' fz e => ?_
    injection e with _ e _
    exact ht e
  refine ⟨γ', ⟨Keeps.of_below ((keeps_below hS.keeps).trans hB), by rw [hγ, List.length_set]; exact hS.len, ?_, ?_, ?_⟩, fun i _ => ⟨eB i, eS i⟩⟩
  · intro i r hr
    cases i with
    | zero =>
      cases hr
      refine ⟨by rw [g0, eS 0, eM], fun k hk => ?_, ?_⟩
      · rw [eM] at hk
        rcases hk with rfl | hk
        · exact hlt
        · obtain ⟨_, cur, fz, h⟩ := hrow k hk
          exact (Array.getElem?_eq_some_iff.1 h).1
      · rw [eS 0, eM]
        exact ⟨b, p, v, hx, hp, h0, h1, h2, h3, .inl rfl, fun g hg => .inr hg⟩
    | succ i =>
      have hr : R[i]? = some r := hr
      have hm := List.mem_of_getElem? hr
      have hs := hR r hm
      have hbb := hbr r hm
      cases r <;> first | exact hs.elim | skip
      · rename_i t c _
        obtain ⟨_, h5, _⟩ := keepB i t c hr
        obtain ⟨h6, _⟩ := hS.holds (i + 1) (.blk t c) hr
        refine ⟨by rw [gi, h6, eB], ?_⟩
        show w'.heap[nmB γ' (i + 1)]? = _
        rw [eB, Cont.eqv (γ := γ) (γ' := γ') (fun i _ => ⟨eB i, eS i⟩) hbb]
        exact h5
      · trivial
  · intro i r k hr hk
    cases i with
    | zero =>
      cases hr
      have hk : nmM γ' 0 k := hk
      rw [eM] at hk
      rcases hk with rfl | hk
      · exact ⟨.inr h0, hlt⟩
      · obtain ⟨h6, cur, fz, h⟩ := hrow k hk
        exact ⟨.inr h6, (Array.getElem?_eq_some_iff.1 h).1⟩
    | succ i =>
      have hr : R[i]? = some r := hr
      have hs := hR r (List.mem_of_getElem? hr)
      cases r <;> first | exact hs.elim | skip
      · rename_i t c _
        have hk : some (nmB γ' (i + 1)) = some k := hk
        rw [eB] at hk
        have := hS.mine (i + 1) (.blk t c) k hr hk
        exact ⟨this.1, Nat.lt_of_lt_of_le this.2 hB.size⟩
      · exact hk.elim
  · intro i j r r' k hr hr' hij hk hk'
    have key : ∀ (j : Nat) (r' : Res), R[j]? = some r' → r'.has γ' (j + 1) k → (k = b ∨ v.ownBlock = some k) → False := fun j r' hr' hk' hk => by
      have hs := hR r' (List.mem_of_getElem? hr')
      cases r' <;> first | exact hs.elim | skip
      · rename_i t c
        obtain ⟨h5, h6, h7⟩ := keepB j t c hr'
        have hk' : some (nmB γ' (j + 1)) = some k := hk'
        rw [eB] at hk'
        have hk' := Option.some.inj hk'
        rcases hk with hk | hk
        · exact h7 (hk'.trans hk)
        · obtain ⟨_, cur, fz, h8⟩ := hrow k hk
          rw [hk', h8] at h6
          injection h6 with h6
          injection h6 with _ h6 _
          exact h5 h6.symm
      · exact hk'
    cases i with
    | zero =>
      cases hr
      have hk : nmM γ' 0 k := hk
      rw [eM] at hk
      cases j with
      | zero => exact hij rfl
      | succ j => exact key j r' hr' hk' hk
    | succ i =>
      cases j with
      | zero =>
        cases hr'
        have hk' : nmM γ' 0 k := hk'
        rw [eM] at hk'
        exact key i r hr hk hk'
      | succ j =>
        have hs := hR r (List.mem_of_getElem? (show R[i]? = some r from hr))
        have hs' := hR r' (List.mem_of_getElem? (show R[j]? = some r' from hr'))
        refine hS.apart (i + 1) (j + 1) r r' k hr hr' hij ?_ ?_
        · cases r <;> first | exact hs.elim | skip
          · have hk : some (nmB γ' (i + 1)) = some k := hk
            rw [eB] at hk
            exact hk
          · exact hk.elim
        · cases r' <;> first | exact hs'.elim | skip
          · have hk' : some (nmB γ' (j + 1)) = some k := hk'
            rw [eB] at hk'
            exact hk'
          · exact hk'.elim
end
section
variable {P : Program} {w0 : World} {ow : Nat → Prop} {n : Nat}
/-- A call that turns what is there, its names' values kept. -/
theorem callG_re (sv : Sv) (hp' : List Res) {ops : List Oper} {o : Oper} {rest : List Oper} {f : FuncId} {xs : List Operand} {tys : Array TypeId} {s : S} {svs : List Sv} {K : S → Prop} (ho : o.op = .call { callee := .value (.func f), args := xs.toArray, argTypes := tys }) (hcb : Callable P f) (hev : evs s.fr xs = some svs)
    (hc : ∀ γ w, Sat w0 ow γ s.hp w → Calls P f (svs.map (Sv.val γ)).toArray w fun e w' => ∃ γ', e = .returned (sv.val γ') ∧ Sat w0 ow γ' hp' w' ∧ ∀ i, i < s.hp.length → nmB γ' i = nmB γ i ∧ nmS γ' i = nmS γ i) (hd : dOk n o.dst) (hb : s.bnd)
    (h : symR P w0 ow n ops rest (S.put ⟨s.fr, hp'⟩ o.dst sv) K) : CallG P w0 ow n ops o rest s K := by
  rintro a w ⟨γ, hfit⟩ hw
  unfold wpList
  rw [if_pos hw]
  refine .inl ?_
  unfold Oper.wp
  rw [run_call ho rfl hcb (args := (svs.map (Sv.val γ)).toArray) (by rw [List.map_toArray, evs_val hfit hev])]
  simp only [Oper.upon]
  refine (hc γ w hfit.sat).mono ?_
  rintro e w' ⟨γ', rfl, h1, h2⟩
  exact symR_sound rest _ _ _ h ⟨γ', hfit.put h1 (fun t sv' ht => Sv.eqv h2 (hb.1 _ (Fr.get_mem ht))) hd rfl⟩
end
section
variable {w0 : World} {n : Nat}
theorem callG_write (x : ByteArray) {R : List Res} {l : List UInt8} {ops : List Oper} {o : Oper} {rest : List Oper} {xs : List Operand} {tys : Array TypeId} {s : S} {K : S → Prop} (hs : s.hp = .abs (BuRep w0.heap.size l) :: R) (hR : ∀ r ∈ R, BuSide r) (hlen : l.length + x.size ≤ 140737488355328)
    (ho : o.op = .call { callee := .value (.func 104), args := xs.toArray, argTypes := tys }) (hev : evs s.fr xs = some [.x (.a (.o 0)), .x (.a (.v (.string x)))]) (hd : dOk n o.dst) (hb : s.bnd)
    (h : symR Tryd.prog w0 No n ops rest (S.put ⟨s.fr, .abs (BuRep w0.heap.size (l ++ x.data.toList)) :: R⟩ o.dst (.t [.a (.v (.int .i64 x.size)), .a (.v .nilIface)])) K) : CallG Tryd.prog w0 No n ops o rest s K :=
  callG_re (.t [.a (.v (.int .i64 x.size)), .a (.v .nilIface)]) (.abs (BuRep w0.heap.size (l ++ x.data.toList)) :: R) ho buWs hev (fun γ w hS => by
    rw [hs] at hS
    obtain ⟨_, _, h3⟩ := hS.holds 0 _ rfl
    obtain ⟨b, e1, e2, e3⟩ := BuH.is h3
    have hsz := (keeps_below hS.keeps).size
    show Calls _ _ #[nmS γ 0, .string x] w _
    rw [e1]
    refine (writeString_any w0.heap.size b (Lib.byteCells l) x w e2 (by rw [Lib.byteCells_length]; exact hlen) hsz).mono fun e w' ⟨q1, q2, q3, q4⟩ => ?_
    rw [strCells_eq, ← byteCells_app] at q2
    obtain ⟨γ', k1, k2⟩ := sat_bu hS (fun r hr => by have := hb.2 r (by rw [hs]; exact List.mem_cons_of_mem _ hr); rw [hs] at this; exact this) hR e1 e3 (.inr rfl) q2 q3 q4
    refine ⟨γ', q1, k1, fun i hi => k2 i ?_⟩
    rw [hs] at hi
    exact hi) hd hb h
theorem buLenK {hp : List Res} {l : List UInt8} (h0 : hp[0]? = some (.abs (BuRep w0.heap.size l))) : CallOK Tryd.prog w0 No 105 [.x (.a (.o 0))] hp (.x (.a (.v (.int .i64 l.length)))) hp := callOK_eq fun γ w hS => by
  obtain ⟨_, _, h3⟩ := hS.holds 0 _ h0
  obtain ⟨b, e1, e2, e3⟩ := BuH.is h3
  show Calls _ _ #[nmS γ 0] w _
  rw [e1]
  refine (Tryd.Builder_Len_f w0.heap.size b (Lib.byteCells l) w e2).mono fun e w' ⟨q1, q2⟩ => ⟨?_, q2.symm⟩
  rw [Lib.byteCells_length] at q1
  exact q1
theorem callG_string {l : List UInt8} {ops : List Oper} {o : Oper} {rest : List Oper} {xs : List Operand} {tys : Array TypeId} {s : S} {K : S → Prop} (h0 : s.hp[0]? = some (.abs (BuRep w0.heap.size l)))
    (ho : o.op = .call { callee := .value (.func 106), args := xs.toArray, argTypes := tys }) (hev : evs s.fr xs = some [.x (.a (.o 0))]) (hd : dOk n o.dst) (hb : s.bnd)
    (h : symR Tryd.prog w0 No n ops rest (S.put ⟨s.fr, List.replicate s.hp.length .gone⟩ o.dst (.x (.a (.v (.string ⟨l.toArray⟩))))) K) : CallG Tryd.prog w0 No n ops o rest s K :=
  callG_re (.x (.a (.v (.string ⟨l.toArray⟩)))) (List.replicate s.hp.length .gone) ho buSt hev (fun γ w hS => by
    obtain ⟨_, _, h3⟩ := hS.holds 0 _ h0
    obtain ⟨b, e1, e2, e3⟩ := BuH.is h3
    have hsz := (keeps_below hS.keeps).size
    show Calls _ _ #[nmS γ 0] w _
    rw [e1]
    refine (Tryd.Builder_String_any_f w0.heap.size b l w e2 hsz).mono fun e w' ⟨q1, _, q3⟩ => ⟨γ, q1, ⟨Keeps.of_below ((keeps_below hS.keeps).trans q3), by rw [List.length_replicate]; exact hS.len, ?_, ?_, ?_⟩, fun i _ => ⟨rfl, rfl⟩⟩
    · intro i r hr
      rw [List.getElem?_replicate] at hr
      split at hr <;> cases hr
      trivial
    · intro i r k hr hk
      rw [List.getElem?_replicate] at hr
      split at hr <;> cases hr
      exact hk.elim
    · intro i j r r' k hr hr' _ hk
      rw [List.getElem?_replicate] at hr
      split at hr <;> cases hr
      exact hk.elim) hd hb h
end
end Go.Proofs.YtiaeollemmkclaaDoor
