/- fate's methods, as a caller sees them who has the fate. -/
import Derived.Test.YtohnlajccfnecaaDoorFta
namespace Go.Proofs.YtohnlajccfnecaaDoor
open Go.RowKit
set_option linter.unusedSimpArgs false
set_option linter.unusedSectionVars false
set_option linter.unusedVariables false
theorem moveR_pin {m k : Nat} {r' a b : Res} {h l : List Res} (hm : h.length = m) : moveR m k r' (h ++ a :: l) = moveR m k r' (h ++ b :: l) := by
  subst hm
  unfold moveR
  simp
theorem getD_range (f : Nat → Nat) (n i d : Nat) : ((List.range n).map f).getD i d = if i < n then f i else d := by
  by_cases h : i < n
  · simp [List.getD_eq_getElem?_getD, h]
  · simp [List.getD_eq_getElem?_getD, h]
attribute [push_cast] getD_range beq_self_eq_true
/-- A slice that lies apart from what these name. -/
def ShowsF (w0 : World) (ow : Nat → Prop) (hp : List Res) (ks : List Nat) (sv : Sv) (vs : List Value) : Prop :=
  ∀ γ w, Sat w0 ow γ hp w → ∃ A c, sv.val γ = .slice A vs.length c ∧ vs.length ≤ c ∧ ∀ X : Nat → Prop, (∀ b, X b → ∃ (k : Nat) (r : Res), k ∈ ks ∧ hp[k]? = some r ∧ r.has γ k b) → FW w X A vs
theorem far_raw {w0 : World} {hp : List Res} {A : Option Addr} {vs : List Value} (ks : List Nat) (hR : RdV w0 w0.heap.size A vs) (n cap : Nat) (h : vs.length = n) (hc : n ≤ cap) : ShowsF w0 No hp ks (.x (.a (.v (.slice A n cap)))) vs := fun γ w hS => by
  refine ⟨A, cap, by rw [h]; rfl, by omega, fun X hX => ⟨(hR.below (keeps_below hS.keeps)).more (keeps_below hS.keeps).size, fun hp a ha hx => ?_⟩⟩
  obtain ⟨b, off, h1, h2, _⟩ := hR hp
  rw [ha] at h1
  cases h1
  obtain ⟨k, r, _, hr, hb⟩ := hX _ hx
  rcases (hS.mine k r _ hr hb).1 with h | h
  · exact h.elim
  · exact absurd h2 (by show ¬ b < _; exact Nat.not_lt.2 h)
theorem far_own {w0 : World} {ow : Nat → Prop} {hp : List Res} {e : TypeId} {c : Cont} {vs : List Value} {m : Nat} (ks : List Nat) (hr : hp[m]? = some (.own e c)) (hv : ∀ γ, c.vals γ = vs) (hm : m ∉ ks) : ShowsF w0 ow hp ks (.x (.a (.o m))) vs := fun γ w hS => by
  obtain ⟨A, cap, h1, h2, h3, h4⟩ := hS.rdOwn hr
  obtain ⟨A', c', e1, _, _, _, h5⟩ := (hS.own hr).2.rd
  rw [len_of_vals hv] at h1 h2
  rw [hv γ] at h4 e1
  rw [h1] at e1
  injection e1 with e1 _ _
  subst e1
  refine ⟨A, cap, h1, h2, fun X hX => ⟨h4, fun _ a ha hx => ?_⟩⟩
  obtain ⟨k, r, hk, hr', hb⟩ := hX _ hx
  exact hS.apart m k _ _ a.block hr hr' (fun e => hm (e ▸ hk)) (h5 a ha).2.2.2 hb
theorem far_blk {w0 : World} {ow : Nat → Prop} {hp : List Res} {t : TypeId} {c : Cont} {vs : List Value} {m : Nat} (ks : List Nat) (hr : hp[m]? = some (.blk t c)) (hv : ∀ γ, c.vals γ = vs) (n cap : Nat) (h : vs.length = n) (hc : n ≤ cap) (hm : m ∉ ks) : ShowsF w0 ow hp ks (.x (.a (.s m 0 n cap))) vs := fun γ w hS => by
  have h4 := hS.rdBlk hr 0
  rw [hv γ, List.drop_zero] at h4
  refine ⟨_, cap, by rw [h]; rfl, by omega, fun X hX => ⟨h4, fun _ a ha hx => ?_⟩⟩
  cases ha
  obtain ⟨k, r, hk, hr', hb⟩ := hX _ hx
  exact hS.apart m k _ _ _ hr hr' (fun e => hm (e ▸ hk)) rfl hb
attribute [local irreducible] Callable CallOK CallG CallM DrawG LoopG symR symM
section
variable {w0 : World} {hp : List Res} {k0 p q : Nat} {k r : Int} {ids : List Int} {row : List UInt32}
theorem ftB_of {ow : Nat → Prop} (hk : hp[k0]? = some (.blk 33 (.c [.v (.int .i64 k), .o p, .o q, .v (.int .i64 r)]))) (hpp : hp[p]? = some (.own 3 (.i64 ids))) (hpq : hp[q]? = some (.own 46 (.u32 row))) {γ : List Nm} {w : World} (hS : Sat w0 ow γ hp w) : FtB w (nmB γ k0) k r ids row := by
  obtain ⟨A, c, h1, h2, _, h4⟩ := hS.rdOwn hpp
  obtain ⟨B, d, g1, g2, _, g4⟩ := hS.rdOwn hpq
  have e1 := hS.cell hk (i := 1) (by show 1 < 4; omega)
  have e2 := hS.cell hk (i := 2) (by show 2 < 4; omega)
  exact ⟨hS.cell hk (i := 0) (by show 0 < 4; omega), ⟨A, c, e1.trans (congrArg some h1), h2, h4⟩, ⟨B, d, e2.trans (congrArg some g1), g2, g4⟩, hS.cell hk (i := 3) (by show 3 < 4; omega)⟩
theorem kindK (hk : hp[k0]? = some (.blk 33 (.c [.v (.int .i64 k), .o p, .o q, .v (.int .i64 r)]))) (hpp : hp[p]? = some (.own 3 (.i64 ids))) (hpq : hp[q]? = some (.own 46 (.u32 row))) : CallOK Tryd.prog w0 No 10 [.x (.a (.p k0 0))] hp (.x (.a (.v (.int .i64 k)))) hp := callOK_v fun γ w hS => kind_any (nmB γ k0) w (ftB_of hk hpp hpq hS)
theorem reasonK (hk : hp[k0]? = some (.blk 33 (.c [.v (.int .i64 k), .o p, .o q, .v (.int .i64 r)]))) (hpp : hp[p]? = some (.own 3 (.i64 ids))) (hpq : hp[q]? = some (.own 46 (.u32 row))) : CallOK Tryd.prog w0 No 11 [.x (.a (.p k0 0))] hp (.x (.a (.v (.int .i64 r)))) hp := callOK_v fun γ w hS => reason_any (nmB γ k0) w (ftB_of hk hpp hpq hS)
theorem textK (hl : ids.length ≤ 100) (hl2 : row.length ≤ 100) (hid : ∀ n ∈ ids, 0 ≤ n ∧ n < 64) (hr : k = 2 → 0 ≤ r ∧ r ≤ 4) (ht : TabW w0) (hk : hp[k0]? = some (.blk 33 (.c [.v (.int .i64 k), .o p, .o q, .v (.int .i64 r)]))) (hpp : hp[p]? = some (.own 3 (.i64 ids))) (hpq : hp[q]? = some (.own 46 (.u32 row))) : CallOK Tryd.prog w0 No 12 [.x (.a (.p k0 0))] hp (.x (.a (.v (.string (bstr (txtU k r ids row)))))) hp :=
  callOK_v fun γ w hS => text_any (nmB γ k0) w hl hl2 hid hr (ftB_of hk hpp hpq hS) (ht.later hS)
theorem sumNoK (hn : ¬ k = 1) (hk : hp[k0]? = some (.blk 33 (.c [.v (.int .i64 k), .o p, .o q, .v (.int .i64 r)]))) (hpp : hp[p]? = some (.own 3 (.i64 ids))) (hpq : hp[q]? = some (.own 46 (.u32 row))) : CallOK Tryd.prog w0 No 7 [.x (.a (.p k0 0))] hp (.t [.a (.v (.slice none 0 0)), .a (.v (.slice none 0 0)), .a (.v (.bool false))]) hp := callOK_v fun γ w hS => sum_no (nmB γ k0) w hn (ftB_of hk hpp hpq hS)
theorem abortNoK (n : Int) (hn : abortOk k n = false) (hk : hp[k0]? = some (.blk 33 (.c [.v (.int .i64 k), .o p, .o q, .v (.int .i64 r)]))) (hpp : hp[p]? = some (.own 3 (.i64 ids))) (hpq : hp[q]? = some (.own 46 (.u32 row))) : CallOK Tryd.prog w0 No 9 [.x (.a (.p k0 0)), .x (.a (.v (.int .i64 n)))] hp (.x (.a (.v (.bool false)))) hp := callOK_v fun γ w hS => abort_no (nmB γ k0) w n (ftB_of hk hpp hpq hS) hn
theorem doneNoK {s2 s3 : Sv} (l : List Int) (x : List UInt32) (hl : l.length ≤ 1000) (hn : ¬ doneOk k l x = true) (h2 : Shows w0 No hp s2 (l.map vI64)) (h3 : Shows w0 No hp s3 (x.map vU32)) (hk : hp[k0]? = some (.blk 33 (.c [.v (.int .i64 k), .o p, .o q, .v (.int .i64 r)]))) (hpp : hp[p]? = some (.own 3 (.i64 ids))) (hpq : hp[q]? = some (.own 46 (.u32 row))) :
    CallOK Tryd.prog w0 No 8 [.x (.a (.p k0 0)), s2, s3] hp (.x (.a (.v (.bool false)))) hp := callOK_v fun γ w hS => by
  obtain ⟨A, c, e1, b1, r1⟩ := h2 γ w hS
  obtain ⟨B, d, e2, b2, r2⟩ := h3 γ w hS
  rw [List.length_map] at e1 e2 b1
  show Calls _ _ #[_, s2.val γ, s3.val γ] w _
  rw [e1, e2]
  exact done_no (nmB γ k0) w l x A c B d hl b1 r1 (ftB_of hk hpp hpq hS) hn
end
section
variable {w0 : World} {hp : List Res} {k0 p q : Nat} {r : Int} {ids : List Int} {row : List UInt32}
theorem sumYesK (hl : ids.length ≤ 1000) (hl2 : row.length ≤ 1000) (hbr : ∀ r ∈ hp, Res.bnd hp.length r) (hk : hp[k0]? = some (.blk 33 (.c [.v (.int .i64 1), .o p, .o q, .v (.int .i64 r)]))) (hpp : hp[p]? = some (.own 3 (.i64 ids))) (hpq : hp[q]? = some (.own 46 (.u32 row))) :
    CallOK Tryd.prog w0 No 7 [.x (.a (.p k0 0))] hp (.t [.a (.o hp.length), .a (.o (hp.length + 1)), .a (.v (.bool true))]) (hp ++ [.own 3 (.i64 ids), .own 46 (.u32 row)]) := by
  have := callOK_take (P := Tryd.prog) (w0 := w0) (ow := No) (f := 7) (svs := [.x (.a (.p k0 0))]) (hp := hp) (sv1 := .t [.a (.o 0), .a (.o 1), .a (.v (.bool true))]) (hp1 := [.own 3 (.i64 ids), .own 46 (.u32 row)]) [] hbr
    (by simp only [push_cast, ↓Int.toNat_natCast, ↓Int.cast_ofNat_Int, Int.cast_ofNat_Int, ↓reduceIte, reduceCtorEq, Nat.reduceEqDiff, Nat.reduceLT, Nat.reduceLeDiff, Nat.reduceAdd, Nat.reduceSub, Nat.reduceMul, Int.reduceNeg, Int.reduceLE, Int.reduceLT, Int.reduceToNat, Int.reduceAdd, Int.reduceSub, Int.reduceMul, Int.reduceEq]) (by simp only [push_cast, ↓Int.toNat_natCast, ↓Int.cast_ofNat_Int, Int.cast_ofNat_Int, ↓reduceIte, reduceCtorEq, Nat.reduceEqDiff, Nat.reduceLT, Nat.reduceLeDiff, Nat.reduceAdd, Nat.reduceSub, Nat.reduceMul, Int.reduceNeg, Int.reduceLE, Int.reduceLT, Int.reduceToNat, Int.reduceAdd, Int.reduceSub, Int.reduceMul, Int.reduceEq]) fun γ w hS => ⟨No, fun b h => h.elim, sum_yes (nmB γ k0) w hl hl2 (ftB_of hk hpp hpq hS)⟩
  exact this
variable (hn1 : k0 ≠ p) (hn2 : k0 ≠ q) (hn3 : p ≠ q) (hbr : ∀ r ∈ hp, Res.bnd hp.length r) (hk : hp[k0]? = some (.blk 33 (.c [.v (.int .i64 0), .o p, .o q, .v (.int .i64 0)]))) (hpp : hp[p]? = some (.own 3 (.i64 []))) (hpq : hp[q]? = some (.own 46 (.u32 [])))
include hn1 hn2 hn3 hbr hk hpp hpq
theorem fate_hand {γ : List Nm} {w : World} (hS : Sat w0 No γ hp w) : ∃ γ0, Sat w (Owns γ0 [.pin (nmB γ k0) 33 (.c [.v (.int .i64 0), .o 1, .o 2, .v (.int .i64 0)]), .own 3 (.i64 []), .own 46 (.u32 [])]) γ0 [.pin (nmB γ k0) 33 (.c [.v (.int .i64 0), .o 1, .o 2, .v (.int .i64 0)]), .own 3 (.i64 []), .own 46 (.u32 [])] w ∧
    (∀ b, Owns γ0 [.pin (nmB γ k0) 33 (.c [.v (.int .i64 0), .o 1, .o 2, .v (.int .i64 0)]), .own 3 (.i64 []), .own 46 (.u32 [])] b → ∃ (k' : Nat) (r : Res), k' ∈ [k0, p, q] ∧ hp[k']? = some r ∧ r.has γ k' b) ∧ (Sv.x (.a (.p 0 0))).val γ0 = (Sv.x (.a (.p k0 0))).val γ := by
  obtain ⟨h1, h2, h3⟩ := hS.hand (k := k0) (ρ := [k0, p, q]) (hp0 := [.pin (nmB γ k0) 33 (.c [.v (.int .i64 0), .o 1, .o 2, .v (.int .i64 0)]), .own 3 (.i64 []), .own 46 (.u32 [])]) (by rw [hk]; rfl)
    ⟨by rw [List.getElem?_set_self (lt_of_get hk)]; rfl, by rw [List.getElem?_set_ne hn1, hpp]; rfl, by rw [List.getElem?_set_ne hn2, hpq]; rfl, trivial⟩ ⟨⟨hn1.symm, hn2.symm, trivial⟩, ⟨hn3.symm, trivial⟩, trivial, trivial⟩ (by simp only [push_cast, ↓Int.toNat_natCast, ↓Int.cast_ofNat_Int, Int.cast_ofNat_Int, ↓reduceIte, reduceCtorEq, Nat.reduceEqDiff, Nat.reduceLT, Nat.reduceLeDiff, Nat.reduceAdd, Nat.reduceSub, Nat.reduceMul, Int.reduceNeg, Int.reduceLE, Int.reduceLT, Int.reduceToNat, Int.reduceAdd, Int.reduceSub, Int.reduceMul, Int.reduceEq])
  exact ⟨_, h1, h2, h3 (.x (.a (.p 0 0))) (by show (0 : Nat) < 3; omega)⟩
theorem abortYesK (n : Int) (h1 : 1 ≤ n) (h4 : n ≤ 4) : CallOK Tryd.prog w0 No 9 [.x (.a (.p k0 0)), .x (.a (.v (.int .i64 n)))] hp (.x (.a (.v (.bool true))))
    (moveR (hp.length + 0) k0 (bput hp[k0]? 33 (Cont.ren (shiftL hp.length 3) (.c [.v (.int .i64 2), .o 1, .o 2, .v (.int .i64 n)]))) (goneAll [k0, p, q] hp ++ [.pin 0 33 (.c [.v (.int .i64 2), .o 1, .o 2, .v (.int .i64 n)]), .own 3 (.i64 []), .own 46 (.u32 [])].map (Res.ren (shiftL hp.length 3)))) := by
  have := callOK_pin (P := Tryd.prog) (w0 := w0) (ow := No) (f := 9) (svs := [.x (.a (.p k0 0)), .x (.a (.v (.int .i64 n)))]) (hp := hp) (sv1 := .x (.a (.v (.bool true)))) [k0, p, q] 0 k0 (c := .c [.v (.int .i64 0), .o p, .o q, .v (.int .i64 0)]) (c1 := .c [.v (.int .i64 2), .o 1, .o 2, .v (.int .i64 n)])
    (fun g => [.pin g 33 (.c [.v (.int .i64 2), .o 1, .o 2, .v (.int .i64 n)]), .own 3 (.i64 []), .own 46 (.u32 [])]) (by simp) (by rw [hk]; rfl) (fun _ => rfl) (fun _ => rfl) hbr (fun _ => by simp only [push_cast, ↓Int.toNat_natCast, ↓Int.cast_ofNat_Int, Int.cast_ofNat_Int, ↓reduceIte, reduceCtorEq, Nat.reduceEqDiff, Nat.reduceLT, Nat.reduceLeDiff, Nat.reduceAdd, Nat.reduceSub, Nat.reduceMul, Int.reduceNeg, Int.reduceLE, Int.reduceLT, Int.reduceToNat, Int.reduceAdd, Int.reduceSub, Int.reduceMul, Int.reduceEq]) (by simp only [push_cast, ↓Int.toNat_natCast, ↓Int.cast_ofNat_Int, Int.cast_ofNat_Int, ↓reduceIte, reduceCtorEq, Nat.reduceEqDiff, Nat.reduceLT, Nat.reduceLeDiff, Nat.reduceAdd, Nat.reduceSub, Nat.reduceMul, Int.reduceNeg, Int.reduceLE, Int.reduceLT, Int.reduceToNat, Int.reduceAdd, Int.reduceSub, Int.reduceMul, Int.reduceEq])
    (fun g => moveR_pin (by rw [goneAll_length]; rfl)) fun γ w hS => by
    obtain ⟨γ0, g1, g2, g3⟩ := fate_hand hn1 hn2 hn3 hbr hk hpp hpq hS
    refine ⟨_, g2, ?_⟩
    have := abort_yes n h1 h4 _ g1
    rw [show List.map (Sv.val γ0) [.x (.a (.p 0 0)), .x (.a (.v (.int .i64 n)))] = List.map (Sv.val γ) [.x (.a (.p k0 0)), .x (.a (.v (.int .i64 n)))] from by simp only [List.map_cons, List.map_nil]; rw [g3]; rfl] at this
    exact this
  exact this
theorem doneYesK {s2 s3 : Sv} (l : List Int) (x : List UInt32) (hs : doneOk 0 l x = true) (hl : l.length ≤ 1000) (h2 : ShowsF w0 No hp [k0, p, q] s2 (l.map vI64)) (h3 : ShowsF w0 No hp [k0, p, q] s3 (x.map vU32)) : CallOK Tryd.prog w0 No 8 [.x (.a (.p k0 0)), s2, s3] hp (.x (.a (.v (.bool true))))
    (moveR (hp.length + 0) k0 (bput hp[k0]? 33 (Cont.ren (shiftL hp.length 3) (.c [.v (.int .i64 1), .o 1, .o 2, .v (.int .i64 0)]))) (goneAll [k0, p, q] hp ++ [.pin 0 33 (.c [.v (.int .i64 1), .o 1, .o 2, .v (.int .i64 0)]), .own 3 (.i64 l), .own 46 (.u32 x)].map (Res.ren (shiftL hp.length 3)))) := by
  obtain ⟨_, d1, d2, d3⟩ := doneOk_spec.1 hs
  have := callOK_pin (P := Tryd.prog) (w0 := w0) (ow := No) (f := 8) (svs := [.x (.a (.p k0 0)), s2, s3]) (hp := hp) (sv1 := .x (.a (.v (.bool true)))) [k0, p, q] 0 k0 (c := .c [.v (.int .i64 0), .o p, .o q, .v (.int .i64 0)]) (c1 := .c [.v (.int .i64 1), .o 1, .o 2, .v (.int .i64 0)])
    (fun g => [.pin g 33 (.c [.v (.int .i64 1), .o 1, .o 2, .v (.int .i64 0)]), .own 3 (.i64 l), .own 46 (.u32 x)]) (by simp) (by rw [hk]; rfl) (fun _ => rfl) (fun _ => rfl) hbr (fun _ => by simp only [push_cast, ↓Int.toNat_natCast, ↓Int.cast_ofNat_Int, Int.cast_ofNat_Int, ↓reduceIte, reduceCtorEq, Nat.reduceEqDiff, Nat.reduceLT, Nat.reduceLeDiff, Nat.reduceAdd, Nat.reduceSub, Nat.reduceMul, Int.reduceNeg, Int.reduceLE, Int.reduceLT, Int.reduceToNat, Int.reduceAdd, Int.reduceSub, Int.reduceMul, Int.reduceEq]) (by simp only [push_cast, ↓Int.toNat_natCast, ↓Int.cast_ofNat_Int, Int.cast_ofNat_Int, ↓reduceIte, reduceCtorEq, Nat.reduceEqDiff, Nat.reduceLT, Nat.reduceLeDiff, Nat.reduceAdd, Nat.reduceSub, Nat.reduceMul, Int.reduceNeg, Int.reduceLE, Int.reduceLT, Int.reduceToNat, Int.reduceAdd, Int.reduceSub, Int.reduceMul, Int.reduceEq])
    (fun g => moveR_pin (by rw [goneAll_length]; rfl)) fun γ w hS => by
    obtain ⟨γ0, g1, g2, g3⟩ := fate_hand hn1 hn2 hn3 hbr hk hpp hpq hS
    obtain ⟨A, c, e1, b1, r1⟩ := h2 γ w hS
    obtain ⟨B, d, e2, b2, r2⟩ := h3 γ w hS
    rw [List.length_map] at e1 e2 b1 b2
    refine ⟨_, g2, ?_⟩
    have := done_yes l x A c B d d1 d2 hl d3 b1 b2 (r1 _ g2) (r2 _ g2) _ g1
    rw [show List.map (Sv.val γ0) [.x (.a (.p 0 0)), .x (.a (.v (.slice A l.length c))), .x (.a (.v (.slice B x.length d)))] = List.map (Sv.val γ) [.x (.a (.p k0 0)), s2, s3] from by simp only [List.map_cons, List.map_nil]; rw [g3, e1, e2]; rfl] at this
    exact this
  exact this
end
/-! ### The document's -/
section
variable {w0 : World} {hp : List Res} {k r : Int} {ids : List Int} {row : List UInt32} {A : Option Addr} {c : Nat} {B : Option Addr} {d : Nat}
theorem rabortNoK (n : Int) (hn : abortOk k n = false) : CallOK Tryd.prog w0 No 14 [(.x (.g [.v (.int .i64 k), .v (.int .i64 r), .v (.slice A ids.length c), .v (.slice B row.length d)])), .x (.a (.v (.int .i64 n)))] hp (.t [.g [.v (.int .i64 k), .v (.int .i64 r), .v (.slice A ids.length c), .v (.slice B row.length d)], .a (.v (.bool false))]) hp := callOK_v fun γ w hS => rabort_no k r ids row A c B d n w hn
theorem rabortYesK (n : Int) (hn : abortOk k n = true) : CallOK Tryd.prog w0 No 14 [(.x (.g [.v (.int .i64 k), .v (.int .i64 r), .v (.slice A ids.length c), .v (.slice B row.length d)])), .x (.a (.v (.int .i64 n)))] hp (.t [.g [.v (.int .i64 2), .v (.int .i64 n), .v (.slice none 0 0), .v (.slice none 0 0)], .a (.v (.bool true))]) hp := callOK_v fun γ w hS => rabort_yes k r ids row A c B d n w hn
variable (l : List Int) (x : List UInt32) (A2 : Option Addr) (c2 : Nat) (B2 : Option Addr) (d2 : Nat) (hl : l.length ≤ 1000) (hc : l.length ≤ c2) (hR : RdV w0 w0.heap.size A2 (l.map vI64))
include hl hc hR
theorem rdoneNoK (hn : ¬ doneOk k l x = true) : CallOK Tryd.prog w0 No 13 [(.x (.g [.v (.int .i64 k), .v (.int .i64 r), .v (.slice A ids.length c), .v (.slice B row.length d)])), .x (.a (.v (.slice A2 l.length c2))), .x (.a (.v (.slice B2 x.length d2)))] hp (.t [.g [.v (.int .i64 k), .v (.int .i64 r), .v (.slice A ids.length c), .v (.slice B row.length d)], .a (.v (.bool false))]) hp := callOK_v fun γ w hS => rdone_no k r ids row A c B d l x A2 c2 B2 d2 w hl hc (rd_later hR hS) hn
theorem rdoneYesK (hn : doneOk k l x = true) : CallOK Tryd.prog w0 No 13 [(.x (.g [.v (.int .i64 k), .v (.int .i64 r), .v (.slice A ids.length c), .v (.slice B row.length d)])), .x (.a (.v (.slice A2 l.length c2))), .x (.a (.v (.slice B2 x.length d2)))] hp (.t [.g [.v (.int .i64 1), .v (.int .i64 0), .v (.slice A2 l.length c2), .v (.slice B2 x.length d2)], .a (.v (.bool true))]) hp := callOK_v fun γ w hS => rdone_yes k r ids row A c B d l x A2 c2 B2 d2 w hl hc (rd_later hR hS) hn
end
theorem rtextK {w0 : World} {hp : List Res} {k r : Int} {ids : List Int} {row : List UInt32} {A : Option Addr} {c : Nat} {B : Option Addr} {d : Nat} (hl : ids.length ≤ 100) (hl2 : row.length ≤ 100) (hid : ∀ n ∈ ids, 0 ≤ n ∧ n < 64) (hk : k = 0 ∨ k = 1 ∨ k = 2) (hr : k = 2 → 0 ≤ r ∧ r ≤ 4)
    (r1 : RdV w0 w0.heap.size A (ids.map vI64)) (r2 : RdV w0 w0.heap.size B (row.map vU32)) : CallOK Tryd.prog w0 No 17 [(.x (.g [.v (.int .i64 k), .v (.int .i64 r), .v (.slice A ids.length c), .v (.slice B row.length d)]))] hp (.x (.a (.v (.string (bstr (txtU k r ids row)))))) hp := callOK_v fun γ w hS => rtext_any k r ids row A c B d w hl hl2 hid hk hr (rd_later r1 hS) (rd_later r2 hS)
end Go.Proofs.YtohnlajccfnecaaDoor
