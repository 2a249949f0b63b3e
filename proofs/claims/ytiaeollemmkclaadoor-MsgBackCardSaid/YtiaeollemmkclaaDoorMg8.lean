import Derived.Test.YtiaeollemmkclaaDoorMg7
/- Calls that turn two variables of their caller's; messages whose slices are the call's own. -/
namespace Go.Proofs.YtiaeollemmkclaaDoor
open Go.RowKit
set_option linter.unusedSimpArgs false
set_option linter.unusedVariables false
section
variable {P : Program} {w0 w w' : World} {ow : Nat → Prop} {f : FuncId} {svs : List Sv} {hp hp' : List Res} {γ γ1 : List Nm}
/-- A variable that was handed over comes back, turned. -/
theorem Sat.pinned {k m : Nat} {t : TypeId} {c c1 : Cont} (hS : Sat w0 ow γ hp w) (hpk : bview hp[k]? = some (t, c)) (h' : Sat w0 ow (γ ++ γ1) hp' w') (hm : hp'[m]? = some (.pin (nmB γ k) t c1)) (hgone : hp'[k]? = some .gone)
    (hbr : ∀ r ∈ hp', Res.bnd hp'.length r) (hbr' : (bput hp[k]? t c1).bnd hp'.length) : Sat w0 ow (γ ++ γ1) (moveR m k (bput hp[k]? t c1) hp') w' := by
  have hl := hS.len
  obtain ⟨hn, _, r0, hr0, _, _, _⟩ := hS.bv hpk
  have hkl := lt_of_get hr0
  have hnn : (γ ++ γ1)[k]? = some (.b (nmB γ k)) := by rw [List.getElem?_append_left (by omega)]; exact hn
  obtain ⟨hp1', hp2', hp3'⟩ := h'.holds _ _ hm
  rw [hp2'] at hp3'
  have hr' : (bput hp[k]? t c1).holds (γ ++ γ1) k w' ∧ (∀ d, (bput hp[k]? t c1).has (γ ++ γ1) k d → d = nmB γ k) := by
    have e1 : nmB (γ ++ γ1) k = nmB γ k := nmB_ext (by omega)
    cases hq : hp[k]? with
    | none => rw [hq] at hpk; cases hpk
    | some r =>
      have hh := hS.holds k r hq
      rw [hq] at hpk
      cases r with
      | blk t' c' => exact ⟨⟨by rw [e1]; exact hnn, by rw [e1]; exact hp3'⟩, fun d hd => by
        have hd : some (nmB (γ ++ γ1) k) = some d := hd
        rw [e1] at hd
        exact (Option.some.inj hd).symm⟩
      | pin g t' c' =>
        obtain ⟨_, h2, _⟩ := hh
        exact ⟨⟨by rw [e1]; exact hnn, by rw [e1]; exact h2, by rw [e1]; exact hp3'⟩, fun d hd => by
        have hd : some (nmB (γ ++ γ1) k) = some d := hd
        rw [e1] at hd
        exact (Option.some.inj hd).symm⟩
      | own e c' => cases hpk
      | lit e c' => cases hpk
      | str e c' => cases hpk
      | it s pos => cases hpk
      | onn e m c' => cases hpk
      | abs R => cases hpk
      | mp q l => cases hpk
      | gone => cases hpk
  exact (h'.move hm hgone hnn hr'.1 hr'.2 hbr hbr').1
def p2A (hp : List Res) (ks : List Nat) (t t2 : TypeId) (d d2 : Cont) (new : List Res) (g g2 : Nat) : List Res := goneAll ks hp ++ (Res.pin g t d :: .pin g2 t2 d2 :: new).map (Res.ren (shiftL hp.length (new.length + 2)))
def p2B (hp : List Res) (ks : List Nat) (k : Nat) (t t2 : TypeId) (d d2 : Cont) (new : List Res) (g g2 : Nat) : List Res := moveR (hp.length + 0) k (bput hp[k]? t (d.ren (shiftL hp.length (new.length + 2)))) (p2A hp ks t t2 d d2 new g g2)
def p2S (hp : List Res) (ks : List Nat) (k k2 : Nat) (t t2 : TypeId) (d d2 : Cont) (new : List Res) (g g2 : Nat) : List Res :=
  moveR (hp.length + 1) k2 (bput hp[k2]? t2 ((d2.ren (shiftL hp.length (new.length + 2))).ren (mvL (hp.length + 0) k (hp.length + (new.length + 2))))) (p2B hp ks k t t2 d d2 new g g2)
theorem p2A_len (hp : List Res) (ks : List Nat) (t t2 : TypeId) (d d2 : Cont) (new : List Res) (g g2 : Nat) : (p2A hp ks t t2 d d2 new g g2).length = hp.length + (new.length + 2) := by
  unfold p2A
  rw [List.length_append, List.length_map, goneAll_length]
  rfl
theorem p2B_len (hp : List Res) (ks : List Nat) (k : Nat) (t t2 : TypeId) (d d2 : Cont) (new : List Res) (g g2 : Nat) : (p2B hp ks k t t2 d d2 new g g2).length = hp.length + (new.length + 2) := by
  unfold p2B moveR
  rw [List.length_map, List.length_set, List.length_set, p2A_len]
/-- A call that turns two variables of its caller's, and hands back a value. -/
theorem callOK_pin2 (ks : List Nat) (k k2 : Nat) {t t2 : TypeId} {c c2 : Cont} (d d2 : Cont) (new : List Res) (v : Value) (hpk : bview hp[k]? = some (t, c)) (hpk2 : bview hp[k2]? = some (t2, c2))
    (hbr : ∀ r ∈ hp, Res.bnd hp.length r) (hb1 : ∀ g g2, ∀ r ∈ (Res.pin g t d :: .pin g2 t2 d2 :: new), Res.bnd (new.length + 2) r)
    (hbA : ∀ g g2, ∀ r ∈ p2A hp ks t t2 d d2 new g g2, Res.bnd (hp.length + (new.length + 2)) r) (hbB : ∀ g g2, ∀ r ∈ p2B hp ks k t t2 d d2 new g g2, Res.bnd (hp.length + (new.length + 2)) r)
    (hbp : (bput hp[k]? t (d.ren (shiftL hp.length (new.length + 2)))).bnd (hp.length + (new.length + 2))) (hbp2 : (bput hp[k2]? t2 ((d2.ren (shiftL hp.length (new.length + 2))).ren (mvL (hp.length + 0) k (hp.length + (new.length + 2))))).bnd (hp.length + (new.length + 2)))
    (hm1 : ∀ g g2, (p2A hp ks t t2 d d2 new g g2)[hp.length + 0]? = some (.pin g t (d.ren (shiftL hp.length (new.length + 2))))) (hg1 : ∀ g g2, (p2A hp ks t t2 d d2 new g g2)[k]? = some .gone)
    (hm2 : ∀ g g2, (p2B hp ks k t t2 d d2 new g g2)[hp.length + 1]? = some (.pin g2 t2 ((d2.ren (shiftL hp.length (new.length + 2))).ren (mvL (hp.length + 0) k (hp.length + (new.length + 2)))))) (hg2 : ∀ g g2, (p2B hp ks k t t2 d d2 new g g2)[k2]? = some .gone)
    (hgg : ∀ g g2, p2S hp ks k k2 t t2 d d2 new g g2 = p2S hp ks k k2 t t2 d d2 new 0 0)
    (h : ∀ γ w, Sat w0 ow γ hp w → ∃ X : Nat → Prop, (∀ b, X b → ∃ (k : Nat) (r : Res), k ∈ ks ∧ hp[k]? = some r ∧ r.has γ k b) ∧ Calls P f (svs.map (Sv.val γ)).toArray w fun e w' => ∃ γ1, e = .returned v ∧ Sat w X γ1 (.pin (nmB γ k) t d :: .pin (nmB γ k2) t2 d2 :: new) w') :
    CallOK P w0 ow f svs hp (.x (.a (.v v))) (p2S hp ks k k2 t t2 d d2 new 0 0) := fun γ w hS => by
  obtain ⟨X, hX, hc⟩ := h γ w hS
  refine hc.mono fun e w' ⟨γ1, he, h1⟩ => ⟨γ1, he, ?_⟩
  have hbk := hS.back ks hX h1 hbr (hb1 _ _)
  have hbk : Sat w0 ow (γ ++ γ1) (p2A hp ks t t2 d d2 new (nmB γ k) (nmB γ k2)) w' := hbk
  have h2 := hS.pinned hpk hbk (hm1 _ _) (hg1 _ _) (by rw [p2A_len]; exact hbA _ _) (by rw [p2A_len]; exact hbp)
  have h2 : Sat w0 ow (γ ++ γ1) (p2B hp ks k t t2 d d2 new (nmB γ k) (nmB γ k2)) w' := h2
  have h3 := hS.pinned hpk2 h2 (hm2 _ _) (hg2 _ _) (by rw [p2B_len]; exact hbB _ _) (by rw [p2B_len]; exact hbp2)
  rw [← hgg (nmB γ k) (nmB γ k2)]
  exact h3
end
attribute [push_cast] p2A p2B p2S
/-! ### Messages whose slices are the call's own -/
def mgO (m : MgS) (a b c d : Nat) : List At := mgL (.v (vU8 m.k)) (.v (.int .i64 m.pl)) (.v (.int .i64 m.ot)) (.v (.int .i64 m.cl)) (.v (.int .i64 m.ge)) (.v (vU64 m.nu)) m.sm (.o a) (.o b) (.o c) (.o d) (.v (.int .i64 m.re))
section
variable {m : MgS} {a b c d : Nat}
theorem mgO_len (h : m.sm.length = 32) : (mgO m a b c d).length = 43 := mgL_len h
theorem mgO_get (h : m.sm.length = 32) (a b c d : Nat) : (∀ x, (mgO m a b c d).getD 0 x = .v (vU8 m.k)) ∧ (∀ x, (mgO m a b c d).getD 1 x = .v (.int .i64 m.pl)) ∧ (∀ x, (mgO m a b c d).getD 2 x = .v (.int .i64 m.ot)) ∧ (∀ x, (mgO m a b c d).getD 3 x = .v (.int .i64 m.cl)) ∧ (∀ x, (mgO m a b c d).getD 4 x = .v (.int .i64 m.ge)) ∧ (∀ x, (mgO m a b c d).getD 5 x = .v (vU64 m.nu)) ∧
    (∀ x, (mgO m a b c d).getD 38 x = .o a) ∧ (∀ x, (mgO m a b c d).getD 39 x = .o b) ∧ (∀ x, (mgO m a b c d).getD 40 x = .o c) ∧ (∀ x, (mgO m a b c d).getD 41 x = .o d) ∧ (∀ x, (mgO m a b c d).getD 42 x = .v (.int .i64 m.re)) := mgL_get h
theorem mgL_mem {k pl ot cl ge nu : At} {sm : List UInt8} {i n p x r : At} : i ∈ mgL k pl ot cl ge nu sm i n p x r ∧ n ∈ mgL k pl ot cl ge nu sm i n p x r ∧ p ∈ mgL k pl ot cl ge nu sm i n p x r ∧ x ∈ mgL k pl ot cl ge nu sm i n p x r := by
  unfold mgL
  simp
theorem mgO_all {q : At → Prop} (h : ∀ v : Value, v.oneCell' = true → scalar v → q (.v v)) (m : MgS) (a b c d : Nat) : (∀ x ∈ mgO m a b c d, q x) = (q (.o a) ∧ q (.o b) ∧ q (.o c) ∧ q (.o d)) := propext ⟨fun e => ⟨e _ mgL_mem.1, e _ mgL_mem.2.1, e _ mgL_mem.2.2.1, e _ mgL_mem.2.2.2⟩, fun ⟨e1, e2, e3, e4⟩ => mgL_all (fun _ => h _ rfl trivial) (h _ rfl trivial) (h _ rfl trivial) (h _ rfl trivial) (h _ rfl trivial) (h _ rfl trivial) (h _ rfl trivial) e1 e2 e3 e4 (h _ rfl trivial)⟩
theorem mgO_one (m : MgS) (a b c d : Nat) (hp : List Res) : (∀ x ∈ mgO m a b c d, x.one hp) = ((At.o a).one hp ∧ (At.o b).one hp ∧ (At.o c).one hp ∧ (At.o d).one hp) := mgO_all (fun v h _ => h) m a b c d
theorem mgO_bnd (m : MgS) (a b c d n : Nat) : (∀ x ∈ mgO m a b c d, x.bnd n) = (a < n ∧ b < n ∧ c < n ∧ d < n) := mgO_all (fun v _ _ => trivial) m a b c d
theorem mgO_cbnd (m : MgS) (a b c d n : Nat) : Cont.bnd n (.c (mgO m a b c d)) = (a < n ∧ b < n ∧ c < n ∧ d < n) := mgO_bnd m a b c d n
theorem mgO_sbnd (m : MgS) (a b c d n : Nat) : Sc.bnd n (.g (mgO m a b c d)) = (a < n ∧ b < n ∧ c < n ∧ d < n) := mgO_bnd m a b c d n
theorem mgO_vbnd (m : MgS) (a b c d n : Nat) : Sv.bnd n (.x (.g (mgO m a b c d))) = (a < n ∧ b < n ∧ c < n ∧ d < n) := mgO_bnd m a b c d n
theorem mgO_ren (m : MgS) (a b c d : Nat) (ρ : List Nat) : (mgO m a b c d).map (At.ren ρ) = mgO m (rn ρ a) (rn ρ b) (rn ρ c) (rn ρ d) := mgL_ren ..
theorem mgO_cren (m : MgS) (a b c d : Nat) (ρ : List Nat) : Cont.ren ρ (.c (mgO m a b c d)) = .c (mgO m (rn ρ a) (rn ρ b) (rn ρ c) (rn ρ d)) := by
  show Cont.c _ = _
  rw [mgO_ren]
theorem mgO_sren (m : MgS) (a b c d : Nat) (ρ : List Nat) : Sc.ren ρ (.g (mgO m a b c d)) = .g (mgO m (rn ρ a) (rn ρ b) (rn ρ c) (rn ρ d)) := by
  show Sc.g _ = _
  rw [mgO_ren]
theorem mgO_vren (m : MgS) (a b c d : Nat) (ρ : List Nat) : Sv.ren ρ (.x (.g (mgO m a b c d))) = .x (.g (mgO m (rn ρ a) (rn ρ b) (rn ρ c) (rn ρ d))) := by
  show Sv.x (Sc.g _) = _
  rw [mgO_ren]
theorem mgL_set (k pl ot cl ge nu : At) (sm : List UInt8) (i n p x r y : At) (h : sm.length = 32) :
    (mgL k pl ot cl ge nu sm i n p x r).set 0 y = mgL y pl ot cl ge nu sm i n p x r ∧ (mgL k pl ot cl ge nu sm i n p x r).set 1 y = mgL k y ot cl ge nu sm i n p x r ∧ (mgL k pl ot cl ge nu sm i n p x r).set 2 y = mgL k pl y cl ge nu sm i n p x r ∧ (mgL k pl ot cl ge nu sm i n p x r).set 3 y = mgL k pl ot y ge nu sm i n p x r ∧ (mgL k pl ot cl ge nu sm i n p x r).set 4 y = mgL k pl ot cl y nu sm i n p x r ∧ (mgL k pl ot cl ge nu sm i n p x r).set 5 y = mgL k pl ot cl ge y sm i n p x r ∧
    (mgL k pl ot cl ge nu sm i n p x r).set 38 y = mgL k pl ot cl ge nu sm y n p x r ∧ (mgL k pl ot cl ge nu sm i n p x r).set 39 y = mgL k pl ot cl ge nu sm i y p x r ∧ (mgL k pl ot cl ge nu sm i n p x r).set 40 y = mgL k pl ot cl ge nu sm i n y x r ∧ (mgL k pl ot cl ge nu sm i n p x r).set 41 y = mgL k pl ot cl ge nu sm i n p y r ∧ (mgL k pl ot cl ge nu sm i n p x r).set 42 y = mgL k pl ot cl ge nu sm i n p x y := by
  have e : (sm.map f8).length = 32 := by rw [List.length_map, h]
  have g : ∀ j z, j < 5 → (mgL k pl ot cl ge nu sm i n p x r).set (38 + j) z = [k, pl, ot, cl, ge, nu] ++ (sm.map f8 ++ [i, n, p, x, r].set j z) := fun j z hj => by
    unfold mgL
    rw [List.set_append_right _ _ (by show 6 ≤ 38 + j; omega), List.set_append_right _ _ (by rw [e]; show 32 ≤ 38 + j - 6; omega), e, show 38 + j - [k, pl, ot, cl, ge, nu].length - 32 = j from by show 38 + j - 6 - 32 = j; omega]
  exact ⟨rfl, rfl, rfl, rfl, rfl, rfl, g 0 y (by omega), g 1 y (by omega), g 2 y (by omega), g 3 y (by omega), g 4 y (by omega)⟩
theorem mgO_set (h : m.sm.length = 32) (a b c d : Nat) : (∀ y : UInt8, (mgO m a b c d).set 0 (.v (vU8 y)) = mgO { m with k := y } a b c d) ∧ (∀ y, (mgO m a b c d).set 1 (.v (.int .i64 y)) = mgO { m with pl := y } a b c d) ∧ (∀ y, (mgO m a b c d).set 2 (.v (.int .i64 y)) = mgO { m with ot := y } a b c d) ∧ (∀ y, (mgO m a b c d).set 3 (.v (.int .i64 y)) = mgO { m with cl := y } a b c d) ∧
    (∀ y, (mgO m a b c d).set 4 (.v (.int .i64 y)) = mgO { m with ge := y } a b c d) ∧ (∀ y : UInt64, (mgO m a b c d).set 5 (.v (vU64 y)) = mgO { m with nu := y } a b c d) ∧ (∀ y, (mgO m a b c d).set 38 (.o y) = mgO m y b c d) ∧ (∀ y, (mgO m a b c d).set 39 (.o y) = mgO m a y c d) ∧ (∀ y, (mgO m a b c d).set 40 (.o y) = mgO m a b y d) ∧ (∀ y, (mgO m a b c d).set 41 (.o y) = mgO m a b c y) ∧ (∀ y, (mgO m a b c d).set 42 (.v (.int .i64 y)) = mgO { m with re := y } a b c d) := by
  have := fun y => mgL_set (.v (vU8 m.k)) (.v (.int .i64 m.pl)) (.v (.int .i64 m.ot)) (.v (.int .i64 m.cl)) (.v (.int .i64 m.ge)) (.v (vU64 m.nu)) m.sm (.o a) (.o b) (.o c) (.o d) (.v (.int .i64 m.re)) y h
  exact ⟨fun y => (this _).1, fun y => (this _).2.1, fun y => (this _).2.2.1, fun y => (this _).2.2.2.1, fun y => (this _).2.2.2.2.1, fun y => (this _).2.2.2.2.2.1, fun y => (this _).2.2.2.2.2.2.1, fun y => (this _).2.2.2.2.2.2.2.1, fun y => (this _).2.2.2.2.2.2.2.2.1, fun y => (this _).2.2.2.2.2.2.2.2.2.1, fun y => (this _).2.2.2.2.2.2.2.2.2.2⟩
theorem mgO_sum (h : m.sm.length = 32) (a b c d : Nat) (s : List UInt8) : List.take 6 (mgO m a b c d) ++ (List.map f8 s ++ List.drop 38 (mgO m a b c d)) = mgO { m with sm := s } a b c d := by
  unfold mgO mgL
  have e : (m.sm.map f8).length = 32 := by rw [List.length_map, h]
  show _ ++ (_ ++ List.drop 32 (m.sm.map f8 ++ _)) = _
  rw [List.drop_left' e]
  rfl
theorem mgO_ids (m : MgS) (a b c d : Nat) (l : List Int) : mgO { m with ids := l } a b c d = mgO m a b c d := rfl
theorem mgO_ns (m : MgS) (a b c d : Nat) (l : List UInt64) : mgO { m with ns := l } a b c d = mgO m a b c d := rfl
theorem mgO_ps (m : MgS) (a b c d : Nat) (l : List Pr) : mgO { m with ps := l } a b c d = mgO m a b c d := rfl
theorem mgO_xs (m : MgS) (a b c d : Nat) (l : List UInt32) : mgO { m with xs := l } a b c d = mgO m a b c d := rfl
end
end Go.Proofs.YtiaeollemmkclaaDoor
