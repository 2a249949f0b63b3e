import Derived.Test.YtombphphaoeeiaaGreatDoorShA
import Derived.Test.YtombphphaoeeiaaGreatDoorRef7
import Derived.Test.YtombphphaoeeiaaGreatDoorCom
/- vec.Add and vec.Sub, with the function that goes through two rows. -/
namespace Go.Proofs.YtombphphaoeeiaaGreatDoor
open Go.RowKit
set_option linter.unusedSimpArgs false
def opTo (F : UInt32 → UInt32 → UInt32) (a b : List UInt32) : Nat → List UInt32
  | 0 => []
  | i + 1 => opTo F a b i ++ [F (ix a i) (ix b i)]
theorem opTo_zero (F : UInt32 → UInt32 → UInt32) (a b : List UInt32) : opTo F a b 0 = [] := rfl
theorem opTo_succ (F : UInt32 → UInt32 → UInt32) (a b : List UInt32) (i : Nat) : opTo F a b (i + 1) = opTo F a b i ++ [F (ix a i) (ix b i)] := rfl
theorem opTo_length (F : UInt32 → UInt32 → UInt32) (a b : List UInt32) (i : Nat) : (opTo F a b i).length = i := by
  induction i with
  | zero => rfl
  | succ i ih => simp [opTo, ih]
def opOk (a b : List UInt32) : Bool := decide (a.length ≤ 32) && decide (a.length = b.length)
def opOut (F : UInt32 → UInt32 → UInt32) (a b : List UInt32) : List UInt32 := if opOk a b = true then opTo F a b a.length else []
def opErr (a b : List UInt32) : Value := if opOk a b = true then .nilIface else .iface 63 (.int .i64 1)
theorem opOut_no {F : UInt32 → UInt32 → UInt32} {a b : List UInt32} (h : opOk a b = false) : opOut F a b = [] := by unfold opOut; rw [h]; rfl
theorem opOut_yes {F : UInt32 → UInt32 → UInt32} {a b : List UInt32} (h : opOk a b = true) : opOut F a b = opTo F a b a.length := by unfold opOut; rw [h]; rfl
theorem opErr_no {a b : List UInt32} (h : opOk a b = false) : opErr a b = .iface 63 (.int .i64 1) := by unfold opErr; rw [h]; rfl
theorem opErr_yes {a b : List UInt32} (h : opOk a b = true) : opErr a b = .nilIface := by unfold opErr; rw [h]; rfl
set_option maxRecDepth 100000 in
theorem addStep_any (x y : UInt32) (l : List UInt32) (hl : l.length ≤ 1000) {X : Nat → Prop} {γ : List Nm} {w : World} (g : Nat) (hS : Sat w X γ [.pin g 37 (.c [.o 1]), .own 23 (.u32 l)] w) :
    Calls Tryz.prog 53 (List.map (Sv.val γ) [.x (.a (.v (vU32 x))), .x (.a (.v (vU32 y))), .x (.a (.p 0 0))]).toArray w fun e w' => ∃ γ1, e = .returned ((Sv.t []).val γ1) ∧ Sat w X γ1 [.pin g 37 (.c [.o 1]), .own 23 (.u32 (l ++ [x + y]))] w' := by
  refine calls_fun (n := 11) Tryz.func53 rfl Tryz.ntmps53 _ hS (by simp) _ _ ?_
  simp only [push_cast, ↓reduceIte, reduceCtorEq, Nat.reduceEqDiff, Nat.reduceLT, Nat.reduceLeDiff, Nat.reduceAdd]
  (repeat (refine And.intro (by first | omega | decide) ?_))
  refine endsAs [0, 3] ?_
  simp only [push_cast, ↓reduceIte, reduceCtorEq, Nat.reduceLT, Nat.reduceAdd]
theorem addStepOK {w0 : World} {ow : Nat → Prop} (g : Nat) (l : List UInt32) (x y : UInt32) (hl : l.length ≤ 1000) : CallOK Tryz.prog w0 ow 53 [.x (.a (.v (vU32 x))), .x (.a (.v (vU32 y))), .x (.a (.p 0 0))] [.pin g 37 (.c [.o 1]), .own 23 (.u32 l)] (.t [])
    [.pin g 37 (.c [.o 3]), .gone, .gone, .own 23 (.u32 (l ++ [x + y]))] :=
  callOK_pin (hp := [.pin g 37 (.c [.o 1]), .own 23 (.u32 l)]) (sv1 := .t []) [0, 1] 0 0 (c := .c [.o 1]) (c1 := .c [.o 1]) (fun g => [.pin g 37 (.c [.o 1]), .own 23 (.u32 (l ++ [x + y]))]) (by simp) rfl (fun _ => rfl) (fun _ => rfl) (by simp only [push_cast, Nat.reduceLT, Nat.reduceAdd]) (fun _ => by simp only [push_cast, Nat.reduceLT, Nat.reduceAdd]) (by simp only [push_cast, Nat.reduceAdd]) (fun _ => rfl) fun γ w hS => by
    obtain ⟨h1, h2, h3⟩ := hS.hand (k := 0) (ρ := [0, 1]) (hp0 := [.pin (nmB γ 0) 37 (.c [.o 1]), .own 23 (.u32 l)]) rfl ⟨rfl, rfl, trivial⟩ (by simp only [push_cast, reduceCtorEq]) (by simp only [push_cast, Nat.reduceLT, Nat.reduceAdd])
    refine ⟨_, h2, ?_⟩
    have := addStep_any x y l hl _ h1
    have e : List.map (Sv.val (reγ [0, 1] γ)) [.x (.a (.v (vU32 x))), .x (.a (.v (vU32 y))), .x (.a (.p 0 0))] = List.map (Sv.val γ) [.x (.a (.v (vU32 x))), .x (.a (.v (vU32 y))), .x (.a (.p 0 0))] := by
      simp only [List.map_cons, List.map_nil]
      rw [h3 (.x (.a (.p 0 0))) (by show (0 : Nat) < 2; omega)]
      rfl
    rw [e] at this
    exact this
set_option maxRecDepth 100000 in
theorem subStep_any (x y : UInt32) (l : List UInt32) (hl : l.length ≤ 1000) {X : Nat → Prop} {γ : List Nm} {w : World} (g : Nat) (hS : Sat w X γ [.pin g 37 (.c [.o 1]), .own 23 (.u32 l)] w) :
    Calls Tryz.prog 36 (List.map (Sv.val γ) [.x (.a (.v (vU32 x))), .x (.a (.v (vU32 y))), .x (.a (.p 0 0))]).toArray w fun e w' => ∃ γ1, e = .returned ((Sv.t []).val γ1) ∧ Sat w X γ1 [.pin g 37 (.c [.o 1]), .own 23 (.u32 (l ++ [x - y]))] w' := by
  refine calls_fun (n := 11) Tryz.func36 rfl Tryz.ntmps36 _ hS (by simp) _ _ ?_
  simp only [push_cast, ↓reduceIte, reduceCtorEq, Nat.reduceEqDiff, Nat.reduceLT, Nat.reduceLeDiff, Nat.reduceAdd]
  (repeat (refine And.intro (by first | omega | decide) ?_))
  refine endsAs [0, 3] ?_
  simp only [push_cast, ↓reduceIte, reduceCtorEq, Nat.reduceLT, Nat.reduceAdd]
theorem subStepOK {w0 : World} {ow : Nat → Prop} (g : Nat) (l : List UInt32) (x y : UInt32) (hl : l.length ≤ 1000) : CallOK Tryz.prog w0 ow 36 [.x (.a (.v (vU32 x))), .x (.a (.v (vU32 y))), .x (.a (.p 0 0))] [.pin g 37 (.c [.o 1]), .own 23 (.u32 l)] (.t [])
    [.pin g 37 (.c [.o 3]), .gone, .gone, .own 23 (.u32 (l ++ [x - y]))] :=
  callOK_pin (hp := [.pin g 37 (.c [.o 1]), .own 23 (.u32 l)]) (sv1 := .t []) [0, 1] 0 0 (c := .c [.o 1]) (c1 := .c [.o 1]) (fun g => [.pin g 37 (.c [.o 1]), .own 23 (.u32 (l ++ [x - y]))]) (by simp) rfl (fun _ => rfl) (fun _ => rfl) (by simp only [push_cast, Nat.reduceLT, Nat.reduceAdd]) (fun _ => by simp only [push_cast, Nat.reduceLT, Nat.reduceAdd]) (by simp only [push_cast, Nat.reduceAdd]) (fun _ => rfl) fun γ w hS => by
    obtain ⟨h1, h2, h3⟩ := hS.hand (k := 0) (ρ := [0, 1]) (hp0 := [.pin (nmB γ 0) 37 (.c [.o 1]), .own 23 (.u32 l)]) rfl ⟨rfl, rfl, trivial⟩ (by simp only [push_cast, reduceCtorEq]) (by simp only [push_cast, Nat.reduceLT, Nat.reduceAdd])
    refine ⟨_, h2, ?_⟩
    have := subStep_any x y l hl _ h1
    have e : List.map (Sv.val (reγ [0, 1] γ)) [.x (.a (.v (vU32 x))), .x (.a (.v (vU32 y))), .x (.a (.p 0 0))] = List.map (Sv.val γ) [.x (.a (.v (vU32 x))), .x (.a (.v (vU32 y))), .x (.a (.p 0 0))] := by
      simp only [List.map_cons, List.map_nil]
      rw [h3 (.x (.a (.p 0 0))) (by show (0 : Nat) < 2; omega)]
      rfl
    rw [e] at this
    exact this
section
variable {fc : FuncId} (hcb : Callable Tryz.prog fc) (F : UInt32 → UInt32 → UInt32)
  (hstep : ∀ {w0 : World} {ow : Nat → Prop} (g : Nat) (l : List UInt32) (x y : UInt32), l.length ≤ 1000 → CallOK Tryz.prog w0 ow fc [.x (.a (.v (vU32 x))), .x (.a (.v (vU32 y))), .x (.a (.p 0 0))] [.pin g 37 (.c [.o 1]), .own 23 (.u32 l)] (.t [])
    [.pin g 37 (.c [.o 3]), .gone, .gone, .own 23 (.u32 (l ++ [F x y]))])
  (a b : List UInt32) (A : Option Addr) (c : Nat) (A2 : Option Addr) (c2 : Nat)
include hcb hstep
attribute [local irreducible] opTo
set_option maxRecDepth 100000 in
theorem both_yes (hok : opOk a b = true) {X : Nat → Prop} {γ : List Nm} {w : World} (g : Nat) (hS : Sat w X γ [.pin g 37 (.c [.v (.slice none 0 0)])] w) (hR : RdV w w.heap.size A (a.map vU32)) (hR2 : RdV w w.heap.size A2 (b.map vU32))
    (hn : 0 < a.length → ∀ b off, A = some ⟨b, off, none⟩ → ¬ X b) (hn2 : 0 < b.length → ∀ b off, A2 = some ⟨b, off, none⟩ → ¬ X b) :
    Calls Tryz.prog 35 (List.map (Sv.val γ) ([.x (.a (.v (.slice A a.length c))), .x (.a (.v (.slice A2 b.length c2)))] ++ [.f (.func fc) [.p 0 0]])).toArray w fun e w' => ∃ γ1, e = .returned ((Sv.x (.a (.v .nilIface))).val γ1) ∧ Sat w X γ1 [.pin g 37 (.c [.o 1]), .own 23 (.u32 (opTo F a b a.length))] w' := by
  have G := F32.of2 hR hn
  have G2 := F32.of2 hR2 hn2
  have h1 : ¬ (32 : Int) < a.length := by unfold opOk at hok; simp only [Bool.and_eq_true, decide_eq_true_eq] at hok; omega
  have h2 : (a.length : Int) = b.length := by unfold opOk at hok; simp only [Bool.and_eq_true, decide_eq_true_eq] at hok; omega
  have h3 : ¬ (32 : Int) < b.length := by omega
  refine calls_fun (n := 35) Tryz.func35 rfl Tryz.ntmps35 _ hS (by simp) _ _ ?_
  simp only [h3, h2, push_cast, ↓reduceIte, reduceCtorEq, Nat.reduceEqDiff, Nat.reduceLT, Nat.reduceAdd]
  (repeat (refine And.intro (by first | omega | decide) ?_))
  refine loop_ghostC 0 0 37 23 [.v (.slice none 0 0)] (.u32 []) rfl rfl rfl trivial (by simp only [push_cast, Nat.reduceLT]) ?_
  refine loop_rule (ι := Nat) (fun i => ⟨[(1, .x (.a (.v (.slice A2 b.length c2)))), (2, .f (.func fc) [.p 0 0]), (20, .x (.a (.v (.slice A a.length c)))), (21, .x (.a (.v (.int .i64 b.length)))), (22, .x (.a (.v (.int .i64 i))))], [.pin g 37 (.c [.o 1]), .own 23 (.u32 (opTo F a b i))]⟩) (fun i => i ≤ b.length) (fun i => b.length - i) 0 [0, 1] (by omega) ?_ ?_
  · simp only [opTo_zero, push_cast, ↓Int.cast_ofNat_Int, Int.cast_ofNat_Int, ↓reduceIte, reduceCtorEq, Nat.reduceEqDiff, Nat.reduceLT, Nat.reduceAdd]
  · intro i hi
    have hol := opTo_length F a b i
    by_cases hlt : (i : Int) < b.length
    · have c0 := G.cell i (by omega)
      have o0 := G.ok i (by omega)
      have d0 := G2.cell i (by omega)
      have p0 := G2.ok i (by omega)
      have hA := G.some_ (by omega)
      have hA2 := G2.some_ (by omega)
      have hla : (i : Int) < a.length := by omega
      simp only [hlt, hla, c0, o0, d0, p0, hA, hA2, push_cast, ↓Int.toNat_natCast, ↓reduceIte, reduceCtorEq, Nat.reduceEqDiff, Nat.reduceLT, Nat.reduceAdd]
      (repeat (refine And.intro (by first | omega | decide) ?_))
      refine callF_rule rfl rfl hcb rfl (hstep g _ _ _ (by omega)) (dOk_lt rfl) (fun _ => by simp only [push_cast, Nat.reduceLT, Nat.reduceAdd]) ?_
      simp only [push_cast, ↓reduceIte, Nat.reduceEqDiff, Nat.reduceLT, Nat.reduceAdd, Int.reduceNeg]
      (repeat (refine And.intro (by first | omega | decide) ?_))
      refine loopK_normal (i + 1) [0, 3] (by omega) (by omega) ?_
      simp only [opTo_succ, push_cast, ↓reduceIte, reduceCtorEq, Nat.reduceEqDiff, Nat.reduceLT, Nat.reduceAdd]
    · have e : i = a.length := by omega
      subst e
      simp only [hlt, push_cast, ↓reduceIte, Nat.reduceEqDiff, Nat.reduceLT, Nat.reduceAdd]
      refine endsAs [0, 1] ?_
      simp only [push_cast, ↓reduceIte, reduceCtorEq, Nat.reduceLT, Nat.reduceAdd]
theorem bothYes {w0 : World} (hok : opOk a b = true) (hR : RdV w0 w0.heap.size A (a.map vU32)) (hR2 : RdV w0 w0.heap.size A2 (b.map vU32)) : CallOK Tryz.prog w0 No 35 ([.x (.a (.v (.slice A a.length c))), .x (.a (.v (.slice A2 b.length c2)))] ++ [.f (.func fc) [.p 0 0]]) [.blk 37 (.c [.v (.slice none 0 0)])] (.x (.a (.v .nilIface)))
    [.blk 37 (.c [.o 2]), .gone, .own 23 (.u32 (opTo F a b a.length))] :=
  callOK_pin (hp := [.blk 37 (.c [.v (.slice none 0 0)])]) (sv1 := .x (.a (.v .nilIface))) [0] 0 0 (c := .c [.v (.slice none 0 0)]) (c1 := .c [.o 1]) (fun g => [.pin g 37 (.c [.o 1]), .own 23 (.u32 (opTo F a b a.length))]) (by simp) rfl (fun _ => rfl) (fun _ => rfl) (by simp only [push_cast]) (fun _ => by simp only [push_cast, Nat.reduceLT, Nat.reduceAdd]) (by simp only [push_cast]) (fun _ => rfl) fun γ w hS => by
    obtain ⟨h1, h2, h3⟩ := hS.hand (k := 0) (ρ := [0]) (hp0 := [.pin (nmB γ 0) 37 (.c [.v (.slice none 0 0)])]) rfl ⟨rfl, trivial⟩ (by simp only [push_cast]) (by simp only [push_cast])
    have far : ∀ b, Owns (reγ [0] γ) [.pin (nmB γ 0) 37 (.c [.v (.slice none 0 0)])] b → w0.heap.size ≤ b := fun b hb => by
      obtain ⟨k', r, _, hr, hbb⟩ := h2 b hb
      rcases (hS.mine k' r b hr hbb).1 with h | h
      · exact h.elim
      · exact h
    refine ⟨_, h2, ?_⟩
    have := both_yes hcb F hstep a b A c A2 c2 hok _ h1 (rd_later hR hS) (rd_later hR2 hS) (fun hp b off hA hx => by
      obtain ⟨b', off', hA', hb', _⟩ := hR (by rw [List.length_map]; omega)
      have := far b hx
      rw [hA] at hA'
      cases hA'
      omega) (fun hp b off hA hx => by
      obtain ⟨b', off', hA', hb', _⟩ := hR2 (by rw [List.length_map]; omega)
      have := far b hx
      rw [hA] at hA'
      cases hA'
      omega)
    have e : List.map (Sv.val (reγ [0] γ)) ([.x (.a (.v (.slice A a.length c))), .x (.a (.v (.slice A2 b.length c2)))] ++ [.f (.func fc) [.p 0 0]]) = List.map (Sv.val γ) ([.x (.a (.v (.slice A a.length c))), .x (.a (.v (.slice A2 b.length c2)))] ++ [.f (.func fc) [.p 0 0]]) := by
      simp only [List.map_cons, List.map_nil, List.cons_append, List.nil_append]
      rw [h3 (.f (.func fc) [.p 0 0]) (by simp only [push_cast, Nat.reduceLT])]
      rfl
    rw [e] at this
    exact this
end
section
variable (a b : List UInt32) (A : Option Addr) (c : Nat) (A2 : Option Addr) (c2 : Nat) (fc : FuncId)
set_option maxRecDepth 100000 in
theorem both_no (hok : opOk a b = false) {X : Nat → Prop} {γ : List Nm} {w : World} (g : Nat) (hS : Sat w X γ [.pin g 37 (.c [.v (.slice none 0 0)])] w) :
    Calls Tryz.prog 35 (List.map (Sv.val γ) ([.x (.a (.v (.slice A a.length c))), .x (.a (.v (.slice A2 b.length c2)))] ++ [.f (.func fc) [.p 0 0]])).toArray w fun e w' => ∃ γ1, e = .returned ((Sv.x (.a (.v (.iface 63 (.int .i64 1))))).val γ1) ∧ Sat w X γ1 [.pin g 37 (.c [.v (.slice none 0 0)])] w' := by
  refine calls_fun (n := 35) Tryz.func35 rfl Tryz.ntmps35 _ hS (by simp) _ _ ?_
  by_cases h1 : (32 : Int) < a.length
  · simp only [h1, undef, push_cast, ↓reduceIte, reduceCtorEq, Nat.reduceEqDiff, Nat.reduceLT, Nat.reduceAdd]
    refine endsAs [0] ?_
    simp only [push_cast, ↓reduceIte]
  · have h2 : ¬ ((a.length : Int) = b.length) := fun h => by
      have : opOk a b = true := by unfold opOk; rw [decide_eq_true (by omega), decide_eq_true (by omega)]; rfl
      rw [hok] at this; cases this
    simp only [h1, h2, push_cast, ↓reduceIte, reduceCtorEq, Nat.reduceEqDiff, Nat.reduceLT, Nat.reduceAdd]
    refine endsAs [0] ?_
    simp only [push_cast, ↓reduceIte]
theorem bothNo {w0 : World} (hok : opOk a b = false) : CallOK Tryz.prog w0 No 35 ([.x (.a (.v (.slice A a.length c))), .x (.a (.v (.slice A2 b.length c2)))] ++ [.f (.func fc) [.p 0 0]]) [.blk 37 (.c [.v (.slice none 0 0)])] (.x (.a (.v (.iface 63 (.int .i64 1)))))
    [.blk 37 (.c [.v (.slice none 0 0)]), .gone] :=
  callOK_pin (hp := [.blk 37 (.c [.v (.slice none 0 0)])]) (sv1 := .x (.a (.v (.iface 63 (.int .i64 1))))) [0] 0 0 (c := .c [.v (.slice none 0 0)]) (c1 := .c [.v (.slice none 0 0)]) (fun g => [.pin g 37 (.c [.v (.slice none 0 0)])]) (by simp) rfl (fun _ => rfl) (fun _ => rfl) (by simp only [push_cast]) (fun _ => by simp only [push_cast]) (by simp only [push_cast]) (fun _ => rfl) fun γ w hS => by
    obtain ⟨h1, h2, h3⟩ := hS.hand (k := 0) (ρ := [0]) (hp0 := [.pin (nmB γ 0) 37 (.c [.v (.slice none 0 0)])]) rfl ⟨rfl, trivial⟩ (by simp only [push_cast]) (by simp only [push_cast])
    refine ⟨_, h2, ?_⟩
    have := both_no a b A c A2 c2 fc hok _ h1
    have e : List.map (Sv.val (reγ [0] γ)) ([.x (.a (.v (.slice A a.length c))), .x (.a (.v (.slice A2 b.length c2)))] ++ [.f (.func fc) [.p 0 0]]) = List.map (Sv.val γ) ([.x (.a (.v (.slice A a.length c))), .x (.a (.v (.slice A2 b.length c2)))] ++ [.f (.func fc) [.p 0 0]]) := by
      simp only [List.map_cons, List.map_nil, List.cons_append, List.nil_append]
      rw [h3 (.f (.func fc) [.p 0 0]) (by simp only [push_cast, Nat.reduceLT])]
      rfl
    rw [e] at this
    exact this
end
set_option maxRecDepth 100000 in
theorem vecAdd_any (a b : List UInt32) (A : Option Addr) (c : Nat) (A2 : Option Addr) (c2 : Nat) (w : World) (hR : RdV w w.heap.size A (a.map vU32)) (hR2 : RdV w w.heap.size A2 (b.map vU32)) :
    Calls Tryz.prog 31 #[.slice A a.length c, .slice A2 b.length c2] w fun e w' => ∃ v, e = .returned (.tuple #[v, opErr a b]) ∧ Own w' w.heap.size 23 v ((opOut (· + ·) a b).map vU32) ∧ Below w.heap.size w w' := by
  have h0 := fun h => calls_own2 (P := Tryz.prog) (w := w) (n := 14) Tryz.func31 rfl Tryz.ntmps31 [.x (.a (.v (.slice A a.length c))), .x (.a (.v (.slice A2 b.length c2)))] (by simp) 23 (.u32 (opOut (· + ·) a b)) (opErr a b) (vs := (opOut (· + ·) a b).map vU32) (fun _ => rfl) h
  refine h0 ?_
  clear h0
  simp only [push_cast, ↓reduceIte, reduceCtorEq, Nat.reduceEqDiff, Nat.reduceLT]
  cases hok : opOk a b
  · rw [opOut_no hok, opErr_no hok]
    refine callG_rule rfl cb35 rfl (bothNo a b A c A2 c2 53 hok) (dOk_lt rfl) (fun _ => by simp only [push_cast, Nat.reduceLT]) ?_
    simp only [undef, ownT2, ownT, push_cast, ↓reduceIte, Nat.reduceEqDiff, Nat.reduceLT, Nat.reduceAdd]
  · rw [opOut_yes hok, opErr_yes hok]
    refine callG_rule rfl cb35 rfl (bothYes cb53 (· + ·) (fun g l x y h => addStepOK g l x y h) a b A c A2 c2 hok hR hR2) (dOk_lt rfl) (fun _ => by simp only [push_cast, Nat.reduceLT]) ?_
    simp only [undef, ownT2, ownT, push_cast, ↓reduceIte, Nat.reduceEqDiff, Nat.reduceLT, Nat.reduceAdd]
theorem vecAddOK {w0 : World} {hp : List Res} {s1 s2 : Sv} {a b : List UInt32} (h1 : Shows w0 No hp s1 (a.map vU32)) (h2 : Shows w0 No hp s2 (b.map vU32)) (hbr : ∀ r ∈ hp, Res.bnd hp.length r) :
    CallOK Tryz.prog w0 No 31 [s1, s2] hp (.t [.a (.o hp.length), .a (.v (opErr a b))]) (hp ++ [.own 23 (.u32 (opOut (· + ·) a b))]) := callOK_own2 hbr trivial fun γ w hS => by
  obtain ⟨A, c, e1, b1, r1⟩ := h1 γ w hS
  obtain ⟨A2, c2, e2, b2, r2⟩ := h2 γ w hS
  rw [List.length_map] at e1 e2
  show Calls _ _ #[s1.val γ, s2.val γ] w _
  rw [e1, e2]
  exact vecAdd_any a b A c A2 c2 w r1 r2
set_option maxRecDepth 100000 in
theorem vecSub_any (a b : List UInt32) (A : Option Addr) (c : Nat) (A2 : Option Addr) (c2 : Nat) (w : World) (hR : RdV w w.heap.size A (a.map vU32)) (hR2 : RdV w w.heap.size A2 (b.map vU32)) :
    Calls Tryz.prog 18 #[.slice A a.length c, .slice A2 b.length c2] w fun e w' => ∃ v, e = .returned (.tuple #[v, opErr a b]) ∧ Own w' w.heap.size 23 v ((opOut (· - ·) a b).map vU32) ∧ Below w.heap.size w w' := by
  have h0 := fun h => calls_own2 (P := Tryz.prog) (w := w) (n := 14) Tryz.func18 rfl Tryz.ntmps18 [.x (.a (.v (.slice A a.length c))), .x (.a (.v (.slice A2 b.length c2)))] (by simp) 23 (.u32 (opOut (· - ·) a b)) (opErr a b) (vs := (opOut (· - ·) a b).map vU32) (fun _ => rfl) h
  refine h0 ?_
  clear h0
  simp only [push_cast, ↓reduceIte, reduceCtorEq, Nat.reduceEqDiff, Nat.reduceLT]
  cases hok : opOk a b
  · rw [opOut_no hok, opErr_no hok]
    refine callG_rule rfl cb35 rfl (bothNo a b A c A2 c2 36 hok) (dOk_lt rfl) (fun _ => by simp only [push_cast, Nat.reduceLT]) ?_
    simp only [undef, ownT2, ownT, push_cast, ↓reduceIte, Nat.reduceEqDiff, Nat.reduceLT, Nat.reduceAdd]
  · rw [opOut_yes hok, opErr_yes hok]
    refine callG_rule rfl cb35 rfl (bothYes cb36 (· - ·) (fun g l x y h => subStepOK g l x y h) a b A c A2 c2 hok hR hR2) (dOk_lt rfl) (fun _ => by simp only [push_cast, Nat.reduceLT]) ?_
    simp only [undef, ownT2, ownT, push_cast, ↓reduceIte, Nat.reduceEqDiff, Nat.reduceLT, Nat.reduceAdd]
theorem vecSubOK {w0 : World} {hp : List Res} {s1 s2 : Sv} {a b : List UInt32} (h1 : Shows w0 No hp s1 (a.map vU32)) (h2 : Shows w0 No hp s2 (b.map vU32)) (hbr : ∀ r ∈ hp, Res.bnd hp.length r) :
    CallOK Tryz.prog w0 No 18 [s1, s2] hp (.t [.a (.o hp.length), .a (.v (opErr a b))]) (hp ++ [.own 23 (.u32 (opOut (· - ·) a b))]) := callOK_own2 hbr trivial fun γ w hS => by
  obtain ⟨A, c, e1, b1, r1⟩ := h1 γ w hS
  obtain ⟨A2, c2, e2, b2, r2⟩ := h2 γ w hS
  rw [List.length_map] at e1 e2
  show Calls _ _ #[s1.val γ, s2.val γ] w _
  rw [e1, e2]
  exact vecSub_any a b A c A2 c2 w r1 r2
end Go.Proofs.YtombphphaoeeiaaGreatDoor
