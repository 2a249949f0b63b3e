import Derived.Test.YtiaeollemmkclaaDoorSetA
import Derived.Test.YtiaeollemmkclaaDoorVs
import Derived.Test.YtiaeollemmkclaaDoorPkC
import Derived.Test.YtiaeollemmkclaaDoorOpn
import Derived.Test.YtiaeollemmkclaaDoorPreA
/- Rows of whole numbers, compared (law 33's nums). -/
namespace Go.Proofs.YtiaeollemmkclaaDoor
open Go.RowKit
set_option linter.unusedSimpArgs false
attribute [local irreducible] Callable CallOK CallG CallM DrawG LoopG symR symM
section
variable (a b : List UInt64) (A : Option Addr) (c : Nat) (A2 : Option Addr) (c2 : Nat) (w : World) (hm : a.length ≤ 100000) (hR : RdV w w.heap.size A (a.map vU64)) (hR2 : RdV w w.heap.size A2 (b.map vU64))
include hm hR hR2
end
end Go.Proofs.YtiaeollemmkclaaDoor
/- Fields as they came in; law 13's same, blank, great. -/
namespace Go.Proofs.YtiaeollemmkclaaDoor
open Go.RowKit
set_option linter.unusedSimpArgs false
set_option linter.unusedVariables false
/-- A slice as it lies there. -/
structure SlR (α : Type) where
  A : Option Addr
  c : Nat
  l : List α
def SlR.val {α : Type} (s : SlR α) : Value := .slice s.A s.l.length s.c
structure SlR.Ok {α : Type} (s : SlR α) (f : α → Value) (w : World) : Prop where
  len : s.l.length ≤ s.c
  rd : RdV w w.heap.size s.A (s.l.map f)
/-- A field as it came in. -/
structure FdR where
  k : UInt8
  n : UInt64
  l : SlR UInt64
  b : SlR UInt8
  s : List UInt8
  x : SlR UInt32
  many : Int
  most : UInt64
def FdR.fd (f : FdR) : Fd := ⟨f.k, f.n, f.l.l, f.b.l, f.s, f.x.l, f.many, f.most⟩
def fdV (f : FdR) : List Value := [vU8 f.k, vU64 f.n, f.l.val, f.b.val] ++ (f.s.map vU8 ++ [f.x.val, .int .i64 f.many, vU64 f.most])
def fdA (f : FdR) : List At := [.v (vU8 f.k), .v (vU64 f.n), .v f.l.val, .v f.b.val] ++ (f.s.map f8 ++ [.v f.x.val, .v (.int .i64 f.many), .v (vU64 f.most)])
structure FdR.Ok (f : FdR) (w : World) : Prop where
  l : f.l.Ok vU64 w
  b : f.b.Ok vU8 w
  s : f.s.length = 32
  x : f.x.Ok vU32 w
  many : -9223372036854775808 ≤ f.many ∧ f.many ≤ 9223372036854775807
theorem fdA_eq (f : FdR) : fdA f = (fdV f).map At.v := by
  unfold fdA fdV
  rw [List.map_append, List.map_append, List.map_map]
  rfl
theorem str8_cmp (a b : List UInt8) : ((bstr a).toList == (bstr b).toList) = decide (a = b) := by
  rw [ByteArray.toList_eq, ByteArray.toList_eq]
  show (a == b) = decide (a = b)
  by_cases h : a = b
  · subst h; simp
  · rw [decide_eq_false h, beq_eq_false_iff_ne]
    exact h
def sameF (f g : Fd) : Bool := decide (f.n = g.n ∧ f.l = g.l ∧ f.b = g.b ∧ f.s = g.s ∧ f.x = g.x)
attribute [local irreducible] Callable CallOK CallG CallM DrawG LoopG symR symM
attribute [local irreducible] fdA
/-- A field that lies there, by whatever names it is told. -/
def ShowsFd (w0 : World) (hp : List Res) (sv : Sv) (f : Fd) : Prop := ∀ γ w, Sat w0 No γ hp w → ∃ a : FdR, sv.val γ = .agg (fdV a).toArray ∧ a.Ok w ∧ a.fd = f
end Go.Proofs.YtiaeollemmkclaaDoor
/- law 13's write: a field more; how a writer's caller sees it. -/
namespace Go.Proofs.YtiaeollemmkclaaDoor
open Go.RowKit
set_option linter.unusedSimpArgs false
set_option linter.unusedVariables false
/-- What whom one calls may not turn, one may not turn oneself. -/
theorem FW.call {w w' : World} {X Y : Nat → Prop} {γ : List Nm} {hp : List Res} {A : Option Addr} {vs : List Value} (h : FW w X A vs) (hS : Sat w X γ hp w') (hY : ∀ b, Y b → ∃ (k : Nat) (r : Res), hp[k]? = some r ∧ r.has γ k b) : FW w' Y A vs := by
  refine ⟨fun hp => ?_, fun hp a ha hy => ?_⟩
  · obtain ⟨b, off, h1, h2, h3⟩ := h.rd hp
    exact ⟨b, off, h1, Nat.lt_of_lt_of_le h2 hS.keeps.size, fun j u hu => (World.cell?_of_block (hS.keeps.block b h2 (h.far hp _ h1))).trans (h3 j u hu)⟩
  · obtain ⟨b, off, h1, h2, h3⟩ := h.rd hp
    rw [ha] at h1
    cases h1
    obtain ⟨k, r, hr, hb⟩ := hY _ hy
    rcases (hS.mine k r _ hr hb).1 with h4 | h4
    · exact h.far hp _ ha h4
    · exact absurd h2 (Nat.not_lt.2 h4)
/-- A field that lies there, and is not turned. -/
structure FdR.OkX (f : FdR) (X : Nat → Prop) (w : World) : Prop where
  ok : f.Ok w
  l : FW w X f.l.A (f.l.l.map vU64)
  b : FW w X f.b.A (f.b.l.map vU8)
  x : FW w X f.x.A (f.x.l.map vU32)
section
variable {w0 : World} {ow : Nat → Prop} {hp : List Res} {k0 k1 n : Nat} {r : List (List UInt8)} {b : List UInt8} {f : FuncId} {args : List Sv}
theorem methK (hn : n + b.length ≤ 1000000000) (hn1 : k0 ≠ k1) (hbr : ∀ r ∈ hp, Res.bnd hp.length r) (hk : bview hp[k0]? = some (47, .c [.o k1, .v (.int .i64 (n : Int))])) (h1 : hp[k1]? = some (.abs (ChR 125 r)))
    (ha : ∀ γ γ', List.map (Sv.val γ) args = List.map (Sv.val γ') args) (hG : ∀ γ w, Sat w0 ow γ hp w → ∀ X : Nat → Prop, (∀ b, X b → ∃ (k : Nat) (r : Res), k ∈ [k0, k1] ∧ hp[k]? = some r ∧ r.has γ k b) → WrG f args b X w) :
    CallOK Tryd.prog w0 ow f (.x (.a (.p k0 0)) :: args) hp (.t []) (wrS hp k0 [k0, k1] r n b) :=
  writerK hn1 hbr hk h1 fun γ w hS X hX γ0 g hS0 e => by
    have := hG γ w hS X hX r n g γ0 hn hS0
    rw [List.map_cons, e, ha γ0 γ] at this
    exact this
end
attribute [local irreducible] Callable CallOK CallG CallM DrawG LoopG symR symM
attribute [local irreducible] fdA putV numsB rowB lenV
section
variable {X : Nat → Prop} {w : World}
end
/-! ### Readers, as their caller sees them -/
section
variable {w0 : World} {ow : Nat → Prop} {hp : List Res} {k0 : Nat} {s t : RS}
theorem rmethK {f : FuncId} {args : List Sv} {sv : Sv} {new : List Res} (hbr : ∀ r ∈ hp, Res.bnd hp.length r) (hk : bview hp[k0]? = some (132, (.c [.v (.slice s.A s.l.length s.c), .v (.bool s.bad)]))) (hb1 : ∀ r ∈ new, Res.bnd (new.length + 1) r) (hsb : sv.bnd (new.length + 1)) (ha : ∀ γ γ', List.map (Sv.val γ) args = List.map (Sv.val γ') args)
    (hs : s.Far w0 ow hp k0) (h : ∀ X w, s.Ok X w → RdG f args sv s t new X w) : CallOK Tryd.prog w0 ow f (.x (.a (.p k0 0)) :: args) hp (rdV hp k0 new sv) (rdS hp k0 t new) :=
  readerK hbr hk hb1 hsb ha fun γ w hS X hX => h X w (hs γ w hS X hX)
theorem doneK (hl : s.l.length ≤ 10000000) (hk : bview hp[k0]? = some (132, (.c [.v (.slice s.A s.l.length s.c), .v (.bool s.bad)]))) : CallOK Tryd.prog w0 ow 17 [.x (.a (.p k0 0))] hp (.x (.a (.v (if s.bad = false ∧ s.l = [] then .nilIface else .iface 137 (.int .i64 3))))) hp := callOK_v fun γ w hS => by
  have d0 := hS.cellv hk (i := 0) (by show 0 < 2; omega)
  have d1 := hS.cellv hk (i := 1) (by show 1 < 2; omega)
  obtain ⟨h1, h2, h3, h4, h5, h6⟩ := Two.of d0 d1
  exact done_any hl h1 h2 h3 h4 h5 h6
end
section
variable {w0 : World} {ow : Nat → Prop} {hp : List Res}
set_option maxRecDepth 100000 in
/-- A reader of bytes: a variable, and a copy of these. -/
theorem readNew_any (l : List UInt8) (A : Option Addr) (c : Nat) {γ : List Nm} {w : World} (hl : l.length ≤ 10000000) (hc : l.length ≤ c) (hR : RdV w w.heap.size A (l.map vU8)) :
    Calls Tryd.prog 20 (List.map (Sv.val []) [.x (.a (.v (.slice A l.length c)))]).toArray w fun e w' => ∃ γ1, e = .returned ((Sv.x (.a (.p 0 0))).val γ1) ∧ Sat w No γ1 [.blk 132 (.c [.o 1, .v (.bool false)]), .own 5 (.u8 l)] w' := by
  refine calls_fun (n := 7) Tryd.func20 rfl Tryd.ntmps20 _ (Sat.init w No) (by simp) _ _ ?_
  simp (config := { maxSteps := 1000000 }) only [push_cast, ↓reduceIte, reduceCtorEq, Nat.reduceLT]
  (repeat (refine And.intro (by first | omega | decide) ?_))
  refine callG_x rfl cb67 rfl (clone8K (l := l) hl (shows_raw hR _ _ (by simp) hc) (by simp only [push_cast])) (dOk_lt rfl) (by simp only [push_cast]) ?_
  simp (config := { maxSteps := 1000000 }) only [push_cast, ↓reduceIte, reduceCtorEq, Nat.reduceLT, Nat.reduceAdd]
  refine endsAs [1, 0] ?_
  simp (config := { maxSteps := 1000000 }) only [push_cast, ↓reduceIte, reduceCtorEq, Nat.reduceLT, Nat.reduceAdd]
theorem readNewK (l : List UInt8) {sv : Sv} (hl : l.length ≤ 10000000) (hbr : ∀ r ∈ hp, Res.bnd hp.length r) (h : Shows w0 ow hp sv (l.map vU8)) :
    CallOK Tryd.prog w0 ow 20 [sv] hp (.x (.a (.p hp.length 0))) (hp ++ [.blk 132 (.c [.o (hp.length + 1), .v (.bool false)]), .own 5 (.u8 l)]) := by
  have := callOK_take (P := Tryd.prog) (w0 := w0) (ow := ow) (f := 20) (svs := [sv]) (hp := hp) (sv1 := .x (.a (.p 0 0))) (hp1 := [.blk 132 (.c [.o 1, .v (.bool false)]), .own 5 (.u8 l)]) [] hbr
    (by simp only [push_cast, Nat.reduceLT, Nat.reduceAdd]) (by simp only [push_cast, Nat.reduceLT, Nat.reduceAdd]) fun γ w hS => ⟨No, fun b h => h.elim, by
      obtain ⟨A, c, e1, b1, r1⟩ := h γ w hS
      rw [List.length_map] at e1 b1
      have := readNew_any (γ := γ) l A c hl b1 r1
      rw [show List.map (Sv.val γ) [sv] = List.map (Sv.val []) [.x (.a (.v (.slice A l.length c)))] from by simp only [List.map_cons, List.map_nil, e1]; rfl]
      exact this⟩
  exact this
end
end Go.Proofs.YtiaeollemmkclaaDoor
/- law 13's read: a field of a kind, read. -/
namespace Go.Proofs.YtiaeollemmkclaaDoor
open Go.RowKit
set_option linter.unusedSimpArgs false
set_option linter.unusedVariables false
/-- A field's cells, as they are put together. -/
def fdL (k n l b : At) (s : List UInt8) (x : At) : List At := k :: n :: l :: b :: (s.map f8 ++ [x, .v (.int .i64 0), .v (.int .u64 0)])
def nl : At := .v (.slice none 0 0)
theorem sumOfS_len (s : RS) : (sumOfS s).1.length = 32 := by
  unfold sumOfS
  split
  · rfl
  · show (s.l.take 32).length = 32
    rw [List.length_take]
    omega
attribute [local irreducible] Callable CallOK CallG CallM DrawG LoopG symR symM
attribute [local irreducible] fdA
section
variable {X : Nat → Prop} {w : World} {s : RS}
end
end Go.Proofs.YtiaeollemmkclaaDoor
/- Rows of fields as they came in; law 13's great, blank. -/
namespace Go.Proofs.YtiaeollemmkclaaDoor
open Go.RowKit
set_option linter.unusedSimpArgs false
set_option linter.unusedVariables false
def pad32 (l : List UInt8) : List UInt8 := (l ++ List.replicate 32 0).take 32
theorem pad32_len (l : List UInt8) : (pad32 l).length = 32 := by simp [pad32]
theorem pad32_eq {l : List UInt8} (h : l.length = 32) : pad32 l = l := by
  unfold pad32
  rw [List.take_append_of_le_length (by omega), List.take_of_length_le (by omega)]
/-- A field's cells in a row of fields. -/
def fdW (f : FdR) : List Value := fdV { f with s := pad32 f.s }
theorem fdW_len (f : FdR) : (fdW f).length = 39 := by simp [fdW, fdV, pad32_len]
theorem fdW_eq {f : FdR} (h : f.s.length = 32) : fdW f = fdV f := by unfold fdW; rw [pad32_eq h]
instance {α : Type} : Inhabited (SlR α) := ⟨⟨none, 0, []⟩⟩
instance : Inhabited FdR := ⟨⟨0, 0, default, default, [], default, 0, 0⟩⟩
theorem rawL_eq {w : World} {A : Option Addr} : ∀ (n off : Nat) (vs : List Value), vs.length = n → (∀ k v, vs[k]? = some v → cellOf w (pAdd A (off + k)) = v) → rawL w A n off = vs.map At.v
  | 0, _, vs, h, _ => by
    obtain rfl := List.eq_nil_of_length_eq_zero h
    rfl
  | n + 1, off, v :: vs, h, hc => by
    rw [rawL, List.map_cons, rawL_eq n (off + 1) vs (by simpa using h) (fun k u hu => by
      have := hc (k + 1) u (by simpa using hu)
      rwa [show off + (k + 1) = off + 1 + k by omega] at this)]
    have := hc 0 v rfl
    rw [Nat.add_zero] at this
    rw [this]
theorem rawOks_eq {w : World} {ow : Nat → Prop} {A : Option Addr} : ∀ (n off : Nat), (∀ k, k < n → rawOk w ow (pAdd A (off + k))) → rawOks w ow A n off
  | 0, _, _ => trivial
  | n + 1, off, h => ⟨by have := h 0 (by omega); rwa [Nat.add_zero] at this, rawOks_eq n (off + 1) fun k hk => by have := h (k + 1) (by omega); rwa [show off + (k + 1) = off + 1 + k by omega] at this⟩
/-- What the engine asks of a row of fields that came in. -/
structure FL (w : World) (A : Option Addr) (l : List FdR) : Prop where
  some_ : 0 < l.length → A.isSome = true
  cell : ∀ i k v, i < l.length → (fdV (ix l i))[k]? = some v → cellOf w (pAdd A (i * 39 + k)) = v ∧ rawOk w No (pAdd A (i * 39 + k))
  whole : ∀ i, i < l.length → rawL w (pAdd A (i * 39)) 39 0 = fdA (ix l i) ∧ rawOks w No (pAdd A (i * 39)) 39 0
theorem FL.of {w : World} {A : Option Addr} {l : List FdR} (hR : RdV w w.heap.size A (l.flatMap fdW)) (hs : ∀ f ∈ l, f.s.length = 32) : FL w A l := by
  have F := FV.no hR
  have hl : (l.flatMap fdW).length = l.length * 39 := flat_len fdW_len l
  have hc : ∀ i k v, i < l.length → (fdV (ix l i))[k]? = some v → cellOf w (pAdd A (i * 39 + k)) = v ∧ rawOk w No (pAdd A (i * 39 + k)) := fun i k v hi hv => by
    have h32 := hs (ix l i) (ix_mem hi)
    rw [← fdW_eq h32] at hv
    have hk : k < 39 := by
      have := (List.getElem?_eq_some_iff.1 hv).1
      rwa [fdW_len] at this
    exact F.cell (by rw [flat_get fdW_len l i k hi hk]; exact hv)
  refine ⟨fun hp => F.some_ (by rw [hl]; omega), hc, fun i hi => ?_⟩
  have h32 := hs (ix l i) (ix_mem hi)
  have h39 : (fdV (ix l i)).length = 39 := by rw [← fdW_eq h32]; exact fdW_len _
  constructor
  · rw [fdA_eq]
    refine rawL_eq 39 0 _ h39 fun k v hv => ?_
    rw [pAdd_add, Nat.zero_add]
    exact (hc i k v hi hv).1
  · refine rawOks_eq 39 0 fun k hk => ?_
    rw [pAdd_add, Nat.zero_add]
    exact (hc i k _ hi (List.getElem?_eq_getElem (by omega))).2
def bigF (f : Fd) : Bool := decide (60 < f.l.length ∨ 300 < f.b.length ∨ 60 < f.x.length)
def greatF (l : List Fd) : Bool := (l.take 20).any bigF || decide (20 < l.length)
attribute [local irreducible] Callable CallOK CallG CallM DrawG LoopG symR symM
end Go.Proofs.YtiaeollemmkclaaDoor
/- law 13's blank: has a field what its kind does not write? -/
namespace Go.Proofs.YtiaeollemmkclaaDoor
open Go.RowKit
set_option linter.unusedSimpArgs false
set_option linter.unusedVariables false
attribute [local irreducible] Callable CallOK CallG CallM DrawG LoopG symR symM
attribute [local irreducible] fdA
def blankF (f : Fd) : Bool := decide (f.k ≠ 0 ∧ f.n ≠ 0 ∨ f.k ≠ 1 ∧ 0 < f.l.length ∨ f.k ≠ 2 ∧ 0 < f.b.length ∨ f.k ≠ 3 ∧ f.s ≠ List.replicate 32 0 ∨ f.k < 4 ∧ 0 < f.x.length)
end Go.Proofs.YtiaeollemmkclaaDoor
/- An error's number (law 13's num): nil's is nought, an Errno's is its own. -/
namespace Go.Proofs.YtiaeollemmkclaaDoor
open Go.RowKit Go.Extern.Stop Go.Stop Go.Extern
end Go.Proofs.YtiaeollemmkclaaDoor
/- law 13's sure: what must come whatever the input is. -/
namespace Go.Proofs.YtiaeollemmkclaaDoor
open Go.RowKit
set_option linter.unusedSimpArgs false
set_option linter.unusedVariables false
section
variable {w0 : World} {ow : Nat → Prop} {hp : List Res} {k0 k1 n : Nat} {r : List (List UInt8)} {b : List UInt8} {f : FuncId}
/-- A field more, of a slice that lies apart. -/
theorem methKS {sv : Sv} {vs : List Value} (hn : n + b.length ≤ 1000000000) (hn1 : k0 ≠ k1) (hbr : ∀ r ∈ hp, Res.bnd hp.length r) (hk : bview hp[k0]? = some (47, .c [.o k1, .v (.int .i64 (n : Int))])) (h1 : hp[k1]? = some (.abs (ChR 125 r)))
    (hsv : ShowsF w0 ow hp [k0, k1] sv vs) (hG : ∀ (A : Option Addr) (c : Nat) (X : Nat → Prop) (w : World), vs.length ≤ c → FW w X A vs → WrG f [.x (.a (.v (.slice A vs.length c)))] b X w) :
    CallOK Tryd.prog w0 ow f [.x (.a (.p k0 0)), sv] hp (.t []) (wrS hp k0 [k0, k1] r n b) :=
  writerK hn1 hbr hk h1 fun γ w hS X hX γ0 g hS0 e => by
    obtain ⟨A, c, e1, h2, h3⟩ := hsv γ w hS
    have := hG A c X w h2 (h3 X hX) r n g γ0 hn hS0
    rw [List.map_cons, e] at this
    rw [show List.map (Sv.val γ) [.x (.a (.p k0 0)), sv] = (Sv.x (.a (.p k0 0))).val γ :: List.map (Sv.val γ0) [.x (.a (.v (.slice A vs.length c)))] from by simp only [List.map_cons, List.map_nil, e1]; rfl]
    exact this
end
/-- A reader's bytes are some of these. -/
def RS.From (s : RS) (A : Option Addr) (vs : List Value) : Prop := ∀ X w, FW w X A vs → s.Ok X w
theorem RS.From.far {s : RS} {A : Option Addr} {vs : List Value} {n c : Nat} {w0 : World} {ow : Nat → Prop} {hp : List Res} {k0 k : Nat} {l : List Fct} (h : s.From A vs) (hk : hp[k]? = some (.abs (fctRep l))) (hf : ⟨.slice A n c, n, vs⟩ ∈ l) (hn : k ∉ [k0]) : s.Far w0 ow hp k0 :=
  fun γ w hS X hX => h X w (fct_fw hS hk hf (Sub.refl A vs) [k0] hn hX)
theorem RS.From.start {A : Option Addr} {c : Nat} {l : List UInt8} (hc : l.length ≤ c) (hm : l.length ≤ 10000000) : (⟨A, c, l, false⟩ : RS).From A (l.map vU8) := fun X w h => ⟨hc, hm, h⟩
theorem RS.From.num {s : RS} {A : Option Addr} {vs : List Value} (h : s.From A vs) (most : UInt64) : (numS most s).2.2.From A vs := fun X w hf => numS_ok (h X w hf)
theorem RS.From.nums {s : RS} {A : Option Addr} {vs : List Value} (h : s.From A vs) (many : Int) (most : UInt64) : (numsOfS many most s).2.From A vs := fun X w hf => numsOfS_ok (h X w hf)
theorem RS.From.bytes {s : RS} {A : Option Addr} {vs : List Value} (h : s.From A vs) (many : Int) : (bytesOfS many s).2.From A vs := fun X w hf => bytesOfS_ok (h X w hf)
theorem RS.From.sum {s : RS} {A : Option Addr} {vs : List Value} (h : s.From A vs) : (sumOfS s).2.From A vs := fun X w hf => sumOfS_ok (h X w hf)
theorem RS.From.row {s : RS} {A : Option Addr} {vs : List Value} (h : s.From A vs) (many : Int) : (rowOfS many s).2.From A vs := fun X w hf => rowOfS_ok (h X w hf)
theorem RS.From.max {s : RS} {A : Option Addr} {vs : List Value} (h : s.From A vs) (l : List UInt8) (e : s.rs = (l, s.bad)) (hl : l.length ≤ 10000000) : s.l.length ≤ 10000000 := by
  have : s.l = l := congrArg Prod.fst e
  rw [this]; exact hl
def oneS : List UInt8 := 1 :: List.replicate 31 0
def sureB : List UInt8 := [249, 1, 44, 2, 97, 98, 2, 0, 0, 0, 7, 128, 0, 0, 0, 2, 5, 6, 1] ++ List.replicate 31 0
attribute [local irreducible] Callable CallOK CallG CallM DrawG LoopG symR symM
attribute [local irreducible] fdA putV numsB rowB lenV allB sureB oneS
end Go.Proofs.YtiaeollemmkclaaDoor
