/- Words for memory: blocks known whole, byte and word arrays as values. No program in sight. -/
import Derived.WalkKit
import Derived.WalkLawsBesides
import Derived.Laws.Rows
import Derived.Laws.CopyOwn
import Derived.Laws.IdiomCopy
import Derived.Below
import Derived.Lib.Hide
import Derived.Outline
import Derived.StillTailTactics
import Derived.Deep.QuietTactic
import Derived.BigQuiet
import Derived.Deep.Cut
import Derived.RangeFuncNested
namespace Go.Proofs.YtkchdhkpjnnliaaDoor
open Go.RowKit

/-! ### Numbers as values -/
/-- The i-th of a list (a word of its own, so that nothing turns it). -/
def ix {α : Type} [Inhabited α] (l : List α) (i : Nat) : α := l.getD i default
def n8 (b : UInt8) : Int := b.toNat
def n32 (b : UInt32) : Int := b.toNat
def n64 (b : UInt64) : Int := b.toNat
abbrev vU8 (b : UInt8) : Value := .int .u8 (n8 b)
abbrev vU32 (b : UInt32) : Value := .int .u32 (n32 b)
abbrev vU64 (b : UInt64) : Value := .int .u64 (n64 b)
def arr8 (l : List UInt8) : Array Value := (l.map vU8).toArray
def arr32 (l : List UInt32) : Array Value := (l.map vU32).toArray
def arr64 (l : List UInt64) : Array Value := (l.map vU64).toArray
@[simp] theorem arr8_size (l : List UInt8) : (arr8 l).size = l.length := by simp [arr8]
@[simp] theorem arr32_size (l : List UInt32) : (arr32 l).size = l.length := by simp [arr32]
@[simp] theorem arr64_size (l : List UInt64) : (arr64 l).size = l.length := by simp [arr64]
@[simp] theorem arr8_one (l : List UInt8) : (arr8 l).all (·.oneCell') = true := by simp [arr8, Value.oneCell']
@[simp] theorem arr32_one (l : List UInt32) : (arr32 l).all (·.oneCell') = true := by simp [arr32, Value.oneCell']
@[simp] theorem arr64_one (l : List UInt64) : (arr64 l).all (·.oneCell') = true := by simp [arr64, Value.oneCell']
theorem arr8_get (l : List UInt8) (i : Nat) (h : i < l.length) : (arr8 l)[i]? = some (vU8 (ix l i)) := by
  simp [arr8, ix, List.getD_eq_getElem?_getD, List.getElem?_eq_getElem h]
theorem arr32_get (l : List UInt32) (i : Nat) (h : i < l.length) : (arr32 l)[i]? = some (vU32 (ix l i)) := by
  simp [arr32, ix, List.getD_eq_getElem?_getD, List.getElem?_eq_getElem h]
theorem arr64_get (l : List UInt64) (i : Nat) (h : i < l.length) : (arr64 l)[i]? = some (vU64 (ix l i)) := by
  simp [arr64, ix, List.getD_eq_getElem?_getD, List.getElem?_eq_getElem h]
theorem arr8_set (l : List UInt8) (i : Nat) (x : UInt8) : (arr8 l).setIfInBounds i (vU8 x) = arr8 (l.set i x) := by
  simp [arr8, List.map_set]
theorem arr32_set (l : List UInt32) (i : Nat) (x : UInt32) : (arr32 l).setIfInBounds i (vU32 x) = arr32 (l.set i x) := by
  simp [arr32, List.map_set]
theorem arr64_set (l : List UInt64) (i : Nat) (x : UInt64) : (arr64 l).setIfInBounds i (vU64 x) = arr64 (l.set i x) := by
  simp [arr64, List.map_set]

/-! ### The words' arithmetic, lifted: what the walk writes as a sum over 'toNat' is one word. To be used as 'attribute [local go_sem]'. -/
section
variable (x y : UInt32) (c d : UInt8) (z : UInt64)
theorem w32_lt : x.toNat < 4294967296 := x.toNat_lt
theorem w8_lt : c.toNat < 256 := c.toNat_lt
theorem n8_bd : 0 ≤ n8 c ∧ n8 c ≤ 255 := by have := w8_lt c; unfold n8; omega
theorem n32_bd : 0 ≤ n32 x ∧ n32 x ≤ 4294967295 := by have := w32_lt x; unfold n32; omega
theorem n64_bd : 0 ≤ n64 z ∧ n64 z ≤ 18446744073709551615 := by have := z.toNat_lt; unfold n64; omega
theorem n8_inj {c d : UInt8} : n8 c = n8 d ↔ c = d := by
  unfold n8; rw [← UInt8.toNat_inj]; omega
theorem n32_inj {c d : UInt32} : n32 c = n32 d ↔ c = d := by
  unfold n32; rw [← UInt32.toNat_inj]; omega
theorem n64_inj {c d : UInt64} : n64 c = n64 d ↔ c = d := by
  unfold n64; rw [← UInt64.toNat_inj]; omega
theorem w32_xor : bits .xor .u32 (n32 x) (n32 y) = n32 (x ^^^ y) := by
  unfold n32; rw [u32_xor_nat _ _ (w32_lt x) (w32_lt y)]; simp
theorem w32_or : bits .or .u32 (n32 x) (n32 y) = n32 (x ||| y) := by
  unfold n32; rw [u32_or_nat _ _ (w32_lt x) (w32_lt y)]; simp
theorem w32_and : bits .and .u32 (n32 x) (n32 y) = n32 (x &&& y) := by
  unfold n32; rw [u32_and_nat _ _ (w32_lt x) (w32_lt y)]; simp
theorem w32_andNot : bits .andNot .u32 (n32 x) (n32 y) = n32 (x &&& ~~~y) := by
  unfold n32; rw [u32_andNot_nat _ _ (w32_lt x) (w32_lt y)]
  rw [UInt32.toNat_and, UInt32.toNat_not]; rfl
theorem w32_add : IntKind.u32.wrap (n32 x + n32 y) = n32 (x + y) := by
  unfold n32; rw [IntKind.wrap_u32']; simp
theorem w32_sub : IntKind.u32.wrap (n32 x - n32 y) = n32 (x - y) := by
  have hx := w32_lt x
  have hy := w32_lt y
  unfold n32; rw [IntKind.wrap_u32', UInt32.toNat_sub]; omega
theorem w32_mul : IntKind.u32.wrap (n32 x * n32 y) = n32 (x * y) := by
  unfold n32; rw [IntKind.wrap_u32']; simp
theorem w32_of8 : IntKind.u32.wrap (n8 c) = n32 c.toUInt32 := by
  have hc := w8_lt c
  unfold n32 n8; rw [IntKind.wrap_u32', UInt8.toNat_toUInt32]; omega
theorem w32_of64 : IntKind.u32.wrap (n64 z) = n32 z.toUInt32 := by
  unfold n32 n64; rw [IntKind.wrap_u32']; simp
theorem w64_of32 : IntKind.u64.wrap (n32 x) = n64 x.toUInt64 := by
  have hx := w32_lt x
  unfold n32 n64; rw [IntKind.wrap_u64, UInt32.toNat_toUInt64]; omega
theorem w64_of8 : IntKind.u64.wrap (n8 c) = n64 c.toUInt64 := by
  have hc := w8_lt c
  unfold n8 n64; rw [IntKind.wrap_u64, UInt8.toNat_toUInt64]; omega
theorem w8_of32 : IntKind.u8.wrap (n32 x) = n8 x.toUInt8 := by
  unfold n8 n32; rw [IntKind.wrap_u8']; simp
theorem w8_of64 : IntKind.u8.wrap (n64 z) = n8 z.toUInt8 := by
  unfold n8 n64; rw [IntKind.wrap_u8']; simp
theorem i64_of8 : IntKind.i64.wrap (n8 c) = n8 c := IntWalk.i64_in _ (by have := n8_bd c; omega)
theorem i64_of32 : IntKind.i64.wrap (n32 x) = n32 x := IntWalk.i64_in _ (by have := n32_bd x; omega)
theorem w8_self : IntKind.u8.wrap (n8 c) = n8 c := IntWalk.u8_in _ (n8_bd c)
theorem w32_self : IntKind.u32.wrap (n32 x) = n32 x := IntWalk.u32_in _ (n32_bd x)
theorem w64_self : IntKind.u64.wrap (n64 z) = n64 z := IntWalk.u64_in _ (n64_bd z)
theorem w32_shl (r : Nat) (hr : r < 32) : n32 x * 2 ^ r % 4294967296 = n32 (x <<< UInt32.ofNat r) := by
  have h : (UInt32.ofNat r).toNat % 32 = r := by simp; omega
  unfold n32
  rw [UInt32.toNat_shiftLeft, h, Nat.shiftLeft_eq, Int.natCast_emod, Int.natCast_mul, Int.natCast_pow]
  rfl
theorem w32_shr (r : Nat) (hr : r < 32) : n32 x / 2 ^ r = n32 (x >>> UInt32.ofNat r) := by
  have h : (UInt32.ofNat r).toNat % 32 = r := by simp; omega
  unfold n32
  rw [UInt32.toNat_shiftRight, h, Nat.shiftRight_eq_div_pow, Int.natCast_ediv, Int.natCast_pow]
  rfl
theorem w32_shl8 : n32 x * (256 : Int) % (4294967296 : Int) = n32 (x <<< 8) := w32_shl x 8 (by omega)
theorem w32_shr3 : n32 x / (8 : Int) = n32 (x >>> 3) := w32_shr x 3 (by omega)
theorem w32_shr10 : n32 x / (1024 : Int) = n32 (x >>> 10) := w32_shr x 10 (by omega)
theorem w8_xor : bits .xor .u8 (n8 c) (n8 d) = n8 (c ^^^ d) := by
  unfold n8; rw [u8_xor_nat _ _ (w8_lt c) (w8_lt d)]; simp
theorem w8_or : bits .or .u8 (n8 c) (n8 d) = n8 (c ||| d) := by
  unfold n8; rw [u8_or_nat _ _ (w8_lt c) (w8_lt d)]; simp
theorem w8_and : bits .and .u8 (n8 c) (n8 d) = n8 (c &&& d) := by
  unfold n8; rw [u8_and_nat _ _ (w8_lt c) (w8_lt d)]; simp
end
/-! ### A block known whole -/
def Blk (w : World) (g : Nat) (t : TypeId) (cs : Array Value) : Prop := w.heap[g]? = some (.cells cs t (0, 0))
section
variable {w w' : World} {g : Nat} {t : TypeId} {cs : Array Value}
theorem Blk.lt (h : Blk w g t cs) : g < w.heap.size := by
  rcases Nat.lt_or_ge g w.heap.size with hlt | hge
  · exact hlt
  · unfold Blk at h; rw [Array.getElem?_eq_none hge] at h; cases h
theorem Blk.cell (h : Blk w g t cs) (i : Nat) : w.cell? ⟨g, i, none⟩ = cs[i]? := cell_of_row w g i cs t (0, 0) h
theorem Blk.frozen (h : Blk w g t cs) (i : Nat) : w.frozen? ⟨g, i, none⟩ = false := frozen_of_row w g i cs t h
theorem Blk.new (w : World) (t : TypeId) (cs : Array Value) : Blk (w.alloc (.cells cs t)) w.heap.size t cs := heap_alloc_new w _
theorem Blk.new' {n : Nat} (w : World) (t : TypeId) (cs : Array Value) (h : n = w.heap.size) : Blk (w.alloc (.cells cs t)) n t cs := by subst h; exact heap_alloc_new w _
theorem Blk.drew (h : Blk w g t cs) : Blk w.drew g t cs := h
theorem Blk.alloc (h : Blk w g t cs) (o : Obj) : Blk (w.alloc o) g t cs := (Below.heap_alloc w o g h.lt).trans h
theorem Blk.set_ (h : Blk w g t cs) (i : Nat) (u : Value) : Blk (w.setCell ⟨g, i, none⟩ u) g t (cs.setIfInBounds i u) := heap_setCell_same w g i cs t u h
theorem Blk.far (h : Blk w g t cs) {p : Addr} (hp : g ≠ p.block) (u : Value) : Blk (w.setCell p u) g t cs := (heap_setCell_other w p g u hp).trans h
theorem Blk.below {B : Nat} (h : Blk w g t cs) (hb : Below B w w') (hg : g < B) : Blk w' g t cs := (hb.block g hg).trans h
end
/-! ### Whole arrays loaded, stored -/
section
variable {P : Program} {w : World} {ops : Array Oper} {rest : List Oper} {o : Oper} {a : Act} {Q : Exit → Act → World → Prop}
theorem wpList_loadA (ty : TypeId) (n : Nat) (d : TypeDesc) (hu : P.underlying ty = some d) (hi : (P.info? ty).map (·.size) = some n)
    (hgd : o.guard = none) (x : Operand) (ho : o.op = .load ty x) (g : Nat) (hx : a.eval x = .pointer (some ⟨g, 0, none⟩)) (t : TypeId) (cs : Array Value) (hg : Blk w g t cs) (hn : cs.size = n)
    (hd : (match d with | .struct _ | .array _ _ => true | _ => false) = true)
    (h : wpList P ops Q rest (a.put o.dst (.agg cs)) w) : wpList P ops Q (o :: rest) a w :=
  wpList_load_row hgd ty x ho g hx t cs (0, 0) d hg hu hd (by rw [hn]; exact hi) h
/-- A whole array stored over a block that is known whole. -/
theorem wpList_storeA (ty : TypeId) (n : Nat) (hi : (P.info? ty).map (·.size) = some n) (hgd : o.guard = none) (x y : Operand) (ho : o.op = .store ty x y)
    (g : Nat) (hx : a.eval x = .pointer (some ⟨g, 0, none⟩)) (cs : Array Value) (hy : a.eval y = .agg cs) (t : TypeId) (old : Array Value) (hg : Blk w g t old) (hn : cs.size = n) (hold : old.size = n)
    (h1 : cs.all (·.oneCell') = true)
    (h : ∀ w2 : World, Hid (w2 = w.setRow g cs) → w2.heap.size = w.heap.size → wpList P ops Q rest (a.put o.dst undef) w2) : wpList P ops Q (o :: rest) a w :=
  wpList_store_row hgd ty x y ho g cs hx hy t old hg (by rw [hn]; exact hi) (by rw [hold, hn]) h1 (h _ (Lib.hid rfl) (by simp))
end
section
variable {w w2 : World} {g : Nat} {t : TypeId} {old cs : Array Value}
theorem Blk.setRow (h : Blk w g t old) (hw : w2 = w.setRow g cs) : Blk w2 g t cs := by subst hw; exact setRow_heap w g old cs t (0, 0) h
theorem Blk.setRow_far {g' : Nat} (h : Blk w g t old) (hw : w2 = w.setRow g' cs) (hne : g ≠ g') : Blk w2 g t old := by subst hw; exact (setRow_other w g' g cs hne).trans h
theorem below_setRow {B : Nat} {w0 : World} (h : Below B w0 w) (hw : w2 = w.setRow g cs) (hg : B ≤ g) : Below B w0 w2 := by
  subst hw
  exact ⟨by simpa using h.os, by simpa using h.tape, by simpa using h.output, by simpa using h.size, fun k hk => (setRow_other w g k cs (by omega)).trans (h.block k hk)⟩
end

/-! ### An array value, indexed by a number that is a variable -/
theorem run_index_agg {P : Program} (t e : TypeId) (n : Nat) (d : TypeDesc) (cs : Array Value) (k : IntKind) (i : Nat) (v : Value) (ht : P.underlying t = some (.array n e)) (he : P.underlying e = some d)
    (hd : (match d with | .struct _ | .array _ _ => true | _ => false) = false) (hi : i < n) (hv : cs[i]? = some v) (hs : (P.info? e).map (·.size) = some 1)
    (W : World) : (Instr.index t (.agg cs) (.int k (i : Int))).run P W = .ok v W := by
  have hagg : (isAgg e).run P W = .ok false W := by
    unfold isAgg
    rw [Sem.run_bind, run_underlying he W]
    cases d <;> simp_all
  cases hq : P.info? e with
  | none => simp [hq] at hs
  | some j =>
    have hs : j.size = 1 := by simpa [hq] using hs
    simp [Instr.index, asIntOf, run_underlying ht, part, hagg, sizeOf, typeInfo, hq, hs, hi, hv]

/-! ### A region that draws its order: reads, then one tail that writes; the world behind the draw under a new name -/
def Drawn (w w2 : World) : Prop := ∃ n, w2 = w.drewN n
theorem Drawn.refl (w : World) : Drawn w w := ⟨0, rfl⟩
theorem Drawn.heap {w w2 : World} (h : Drawn w w2) : w2.heap = w.heap := by obtain ⟨n, rfl⟩ := h; rfl
theorem Drawn.trans {w w2 w3 : World} (h : Drawn w w2) (h' : Drawn w2 w3) : Drawn w w3 := by
  obtain ⟨n, rfl⟩ := h
  obtain ⟨m, rfl⟩ := h'
  exact ⟨n + m, by rw [World.drewN_drewN]⟩
theorem Drawn.below {w w2 w0 : World} {B : Nat} (h : Drawn w w2) (hb : Below B w0 w) : Below B w0 w2 := by
  obtain ⟨n, rfl⟩ := h
  exact ⟨hb.os, hb.tape, hb.output, hb.size, hb.block⟩
theorem Drawn.blk {w w2 : World} {g : Nat} {t : TypeId} {cs : Array Value} (h : Drawn w w2) (hb : Blk w g t cs) : Blk w2 g t cs := by
  obtain ⟨n, rfl⟩ := h
  exact hb
theorem wp_region_tail {P : Program} {id : Nat} {Q : Exit → Act → World → Prop} {a : Act} {w : World} {l : List Oper} (n : Nat) (hm : P.follows .mixedOrders = true) (hB : Region.lexTailB .any l.toArray n = true)
    (h : ∀ w2 : World, Hid (Drawn w w2) → w2.heap.size = w.heap.size → (∀ p, w2.cell? p = w.cell? p) → (∀ p, w2.frozen? p = w.frozen? p) →
      wpStill P l.toArray w2 (fun a' => wpList P l.toArray Q (l.drop n) a' w2) (l.take n) a) : (Code.region id l.toArray true).wp P Q a w :=
  wp_region_still_tail n hm hB (h { w with drawn := w.drawn + 1 } (Lib.hid ⟨1, rfl⟩) rfl (fun _ => rfl) (fun _ => rfl))

/-! ### An operation whose run is known -/
section
variable {P : Program} {w w2 : World} {ops : Array Oper} {rest : List Oper} {o : Oper} {a : Act} {Q : Exit → Act → World → Prop} {v : Value}
theorem wp_run {K : Act → World → Prop} (hrun : (execOp a.eval o).run P w = .ok (.value v) w2) (h : K (a.put o.dst v) w2) : o.wp P a w K Q := by
  unfold Oper.wp
  rw [hrun]
  exact h
theorem wpList_run (hgd : o.guard = none) (hrun : (execOp a.eval o).run P w = .ok (.value v) w2) (h : wpList P ops Q rest (a.put o.dst v) w2) : wpList P ops Q (o :: rest) a w :=
  wpList_plain hgd fun K hK => by
    unfold Oper.wp
    rw [hrun]
    exact hK _ _ h
theorem wpList_runSkip (hgd : o.guard = none) (hrun : (execOp a.eval o).run P w = .ok .skip w2) (h : wpList P ops Q rest (a.put o.dst undef) w2) : wpList P ops Q (o :: rest) a w :=
  wpList_plain hgd fun K hK => by
    unfold Oper.wp
    rw [hrun]
    exact hK _ _ h
end
section
variable {P : Program} {w : World} {o : Oper} {ρ : Operand → Value}
theorem exec_load (ty : TypeId) (x : Operand) (ho : o.op = .load ty x) (ad : Addr) (hx : ρ x = .pointer (some ad)) (v : Value) (h : (loadVar ty ad).run P w = .ok v w) :
    (execOp ρ o).run P w = .ok (.value v) w := by
  unfold execOp
  simp only [ho, hx, Instr.loadAt, Instr.sureAddr, Sem.run_bind, Sem.run_pure, Result.andThen_ok, h]
/-- A whole array loaded from wherever it lies. -/
theorem run_loadArr (ty : TypeId) (ad : Addr) (cs : List Value) (d : TypeDesc) (hu : P.underlying ty = some d) (hd : (match d with | .struct _ | .array _ _ => true | _ => false) = true)
    (hi : (P.info? ty).map (·.size) = some cs.length) (h : ∀ j v, cs[j]? = some v → w.cell? (ad.add j) = some v) : (loadVar ty ad).run P w = .ok (.agg cs.toArray) w := by
  have hl : (loadCells ad cs.length).run P w = .ok cs.toArray w := run_loadCells_list (P := P) w ad cs h
  cases hq : P.info? ty with
  | none => simp [hq] at hi
  | some i =>
    have hs : i.size = cs.length := by simpa [hq] using hi
    have hagg : (isAgg ty).run P w = .ok true w := by
      unfold isAgg
      rw [Sem.run_bind, run_underlying hu w]
      cases d <;> simp_all
    simp [loadVar, Sem.run_bind, hagg, sizeOf, typeInfo, hq, hs, hl]
theorem exec_copy (d s : Operand) (dT sT : TypeId) (ho : o.op = .call { callee := .builtin .copy, args := #[d, s], argTypes := #[dT, sT] }) (vd vs : Value) (hd : ρ d = vd) (hs : ρ s = vs) (r : Value) (w2 : World)
    (h : (Builtin.copy_ #[dT, sT] o.type #[vd, vs]).run P w = .ok r w2) : (execOp ρ o).run P w = .ok (.value r) w2 := by
  simp [execOp, ho, resolve, invoke, builtin, hd, hs, h, Result.andThen]
end

theorem Blk.load {P : Program} {w : World} {g : Nat} {t : TypeId} {cs : Array Value} (hg : Blk w g t cs) (ty : TypeId) (n : Nat) (d : TypeDesc) (hu : P.underlying ty = some d) (hi : (P.info? ty).map (·.size) = some n) (hn : cs.size = n)
    (hd : (match d with | .struct _ | .array _ _ => true | _ => false) = true) : (loadVar ty ⟨g, 0, none⟩).run P w = .ok (.agg cs) w :=
  run_loadVar_row w g t ty cs (0, 0) d hg hu hd (by rw [hn]; exact hi)
theorem exec_storeA {P : Program} {w : World} {o : Oper} {ρ : Operand → Value} (ty : TypeId) (n : Nat) (hi : (P.info? ty).map (·.size) = some n) (x y : Operand) (ho : o.op = .store ty x y)
    (g : Nat) (hx : ρ x = .pointer (some ⟨g, 0, none⟩)) (cs : Array Value) (hy : ρ y = .agg cs) (t : TypeId) (old : Array Value) (hg : Blk w g t old) (hn : cs.size = n) (hold : old.size = n)
    (h1 : cs.all (·.oneCell') = true) : (execOp ρ o).run P w = .ok .skip (w.setRow g cs) := by
  unfold execOp
  simp only [ho, hx, hy, Instr.storeAt, Instr.sureAddr, Sem.run_bind, Sem.run_pure, Result.andThen_ok, run_storeVar_row w g t ty old cs hg (by rw [hn]; exact hi) (by rw [hold, hn]) h1]

/-! ### A slice that reads as a list of values -/
def RdV (w : World) (B : Nat) (A : Option Addr) (vs : List Value) : Prop :=
  0 < vs.length → ∃ b off, A = some ⟨b, off, none⟩ ∧ b < B ∧ ∀ j u, vs[j]? = some u → w.cell? ⟨b, off + j, none⟩ = some u
section
variable {w w' : World} {B B' : Nat} {A : Option Addr} {vs : List Value}
theorem add_plain (b off j : Nat) : (⟨b, off, none⟩ : Addr).add j = ⟨b, off + j, none⟩ := by
  unfold Addr.add
  split
  · subst_vars; rfl
  · rfl
theorem RdV.nil_ : RdV w B A [] := fun h => absurd h (by simp)
theorem RdV.keep (h : RdV w B A vs) (hk : ∀ b, b < B → w'.heap[b]? = w.heap[b]?) : RdV w' B A vs := fun hp => by
  obtain ⟨b, off, hA, hb, hc⟩ := h hp
  exact ⟨b, off, hA, hb, fun j u hu => (World.cell?_of_block (hk b hb)).trans (hc j u hu)⟩
theorem RdV.below (h : RdV w B A vs) (hb : Below B w w') : RdV w' B A vs := h.keep fun _ hk => hb.block _ hk
theorem RdV.more (h : RdV w B A vs) (hB : B ≤ B') : RdV w B' A vs := fun hp => by
  obtain ⟨b, off, hA, hb, hc⟩ := h hp
  exact ⟨b, off, hA, by omega, hc⟩
theorem RdV.cut (h : RdV w B A vs) {k c : Nat} (hc : vs.length ≤ c) : RdV w B (if c = k then A else A.map (·.add k)) (vs.drop k) := fun hp => by
  have hk : k < vs.length := by rw [List.length_drop] at hp; omega
  obtain ⟨b, off, rfl, hb, hcc⟩ := h (by omega)
  rw [if_neg (by omega)]
  refine ⟨b, off + k, by simp [add_plain], hb, fun j u hu => ?_⟩
  rw [Nat.add_assoc]
  exact hcc _ u (by rw [← hu, List.getElem?_drop])
end
/-- Only blocks of 'own', and new ones, have turned. -/
structure Keeps (own : Nat → Prop) (A B : World) : Prop where
  os : B.os = A.os
  tape : B.tape = A.tape
  output : B.output = A.output
  size : A.heap.size ≤ B.heap.size
  block : ∀ k, k < A.heap.size → ¬ own k → B.heap[k]? = A.heap[k]?
section
variable {own own' : Nat → Prop} {A B C : World}
theorem Keeps.refl (own : Nat → Prop) (A : World) : Keeps own A A := ⟨rfl, rfl, rfl, Nat.le_refl _, fun _ _ _ => rfl⟩
theorem Keeps.trans (h : Keeps own A B) (k : Keeps own B C) : Keeps own A C :=
  ⟨k.os.trans h.os, k.tape.trans h.tape, k.output.trans h.output, Nat.le_trans h.size k.size, fun i hi ho => (k.block i (Nat.lt_of_lt_of_le hi h.size) ho).trans (h.block i hi ho)⟩
theorem Keeps.mono (h : Keeps own A B) (ho : ∀ k, own k → own' k) : Keeps own' A B := ⟨h.os, h.tape, h.output, h.size, fun i hi hn => h.block i hi (fun e => hn (ho i e))⟩
theorem Keeps.putObj (A : World) (l : Nat) (o : Obj) (hl : own l) : Keeps own A (A.putObj l o) :=
  ⟨rfl, rfl, rfl, by simp, fun k _ hn => World.putObj_heap_other (fun e => hn (e ▸ hl))⟩
theorem Keeps.of_below (h : Below A.heap.size A B) : Keeps own A B := ⟨h.os, h.tape, h.output, h.size, fun k hk _ => h.block k hk⟩
theorem Keeps.setCell (A : World) (p : Addr) (v : Value) (hp : own p.block) : Keeps own A (A.setCell p v) :=
  ⟨rfl, rfl, rfl, by simp [World.setCell], fun k _ hn => Below.heap_setCell A p v k (fun e => hn (e ▸ hp))⟩
theorem Keeps.setRow {g : Nat} {cs : Array Value} (A : World) (hg : own g) : Keeps own A (A.setRow g cs) :=
  ⟨rfl, rfl, rfl, by simp, fun k _ hn => setRow_other A g k cs (fun e => hn (e ▸ hg))⟩
theorem Keeps.below {n : Nat} (h : Keeps own A B) (hn : n ≤ A.heap.size) (ho : ∀ k, own k → n ≤ k) : Below n A B :=
  ⟨h.os, h.tape, h.output, h.size, fun k hk => h.block k (by omega) (fun e => by have := ho k e; omega)⟩
theorem Keeps.blk {g : Nat} {t : TypeId} {cs : Array Value} (h : Keeps own A B) (hb : Blk A g t cs) (hg : ¬ own g) : Blk B g t cs := (h.block g hb.lt hg).trans hb
end


/-! ### copy into a block that is known whole -/
theorem run_copyR {P : Program} (w : World) (dT sT elem : TypeId) (g off dLen dCap : Nat) (A : Option Addr) (sLen sCap B : Nat) (cur : List Value) (t : TypeId) (vs : List Value)
    (hu : P.underlying dT = some (.slice elem)) (hs : (P.info? elem).map (·.size) = some 1) (hg : Blk w g t cur.toArray) (hn : vs.length = Nat.min sLen dLen)
    (hR : RdV w B A vs) (hfit : off + vs.length ≤ cur.length) (h1 : ∀ v ∈ vs, v.oneCell' = true) :
    ∃ w2, (∀ ty, (Builtin.copy_ #[dT, sT] ty #[.slice (some ⟨g, off, none⟩) dLen dCap, .slice A sLen sCap]).run P w = .ok (goInt vs.length) w2) ∧
      Blk w2 g t (cur.take off ++ (vs ++ cur.drop (off + vs.length))).toArray ∧ Keeps (· = g) w w2 := by
  by_cases h0 : vs.length = 0
  · obtain rfl : vs = [] := List.eq_nil_of_length_eq_zero h0
    refine ⟨w, ?_, by simpa using hg, Keeps.refl _ _⟩
    exact fun ty => run_copy_none (P := P) w dT sT ty elem _ A dLen dCap sLen sCap hu hs (by rw [← hn]; rfl)
  · obtain ⟨b, o, rfl, _, hc⟩ := hR (by omega)
    refine ⟨_, fun ty => run_copy_row (P := P) w dT sT ty elem g off dLen dCap ⟨b, o, none⟩ sLen sCap cur.toArray t vs hu hs hg hn (fun j v hv => by rw [add_plain]; exact hc j v hv) (by simpa using hfit) h1, ?_, Keeps.setRow w rfl⟩
    exact hg.setRow (by simp [List.append_assoc])
theorem arr8_cat (a b : List UInt8) : arr8 (a ++ b) = arr8 a ++ arr8 b := by simp [arr8]
theorem splice_zeros (r : List UInt8) (m k : Nat) (h : r.length = m) :
    (List.take 0 ((List.replicate k (0 : UInt8)).map vU8) ++ (r.map vU8 ++ List.drop (0 + (r.map vU8).length) ((List.replicate k (0 : UInt8)).map vU8))) = (r ++ List.replicate (k - m) 0).map vU8 := by
  rw [List.take_zero, List.nil_append, Nat.zero_add, List.length_map, h, ← List.map_drop, List.drop_replicate, ← List.map_append]
theorem oneCell_u8 (l : List UInt8) : ∀ v ∈ l.map vU8, v.oneCell' = true := by simp [Value.oneCell']
theorem small_maxLen {n : Nat} (h : n ≤ 4000000000) : n ≤ maxLen := by unfold maxLen; omega
theorem goInt_cast (n : Nat) : goInt n = .int .i64 (n : Int) := rfl
def z8 (n : Nat) : Array Value := arr8 (List.replicate n 0)
end Go.Proofs.YtkchdhkpjnnliaaDoor
