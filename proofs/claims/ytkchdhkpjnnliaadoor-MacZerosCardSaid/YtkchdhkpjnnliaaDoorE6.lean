/- The engine: numbers. No program in sight. -/
import Derived.Test.YtkchdhkpjnnliaaDoorE5
namespace Go.Proofs.YtkchdhkpjnnliaaDoor
open Go.RowKit
set_option linter.unusedSimpArgs false
section
variable {P : Program} {w : World} {t : TypeId} {c : Prop} {v : Value}
theorem bv8 (x : UInt8) : BitVec.ofInt 8 (n8 x) = x.toBitVec := by
  apply BitVec.eq_of_toNat_eq
  rw [BitVec.toNat_ofInt]
  have := w8_lt x
  unfold n8
  simp
  omega
theorem bv32 (x : UInt32) : BitVec.ofInt 32 (n32 x) = x.toBitVec := by
  apply BitVec.eq_of_toNat_eq
  rw [BitVec.toNat_ofInt]
  have := w32_lt x
  unfold n32
  simp
  omega
theorem bv64 (x : UInt64) : BitVec.ofInt 64 (n64 x) = x.toBitVec := by
  apply BitVec.eq_of_toNat_eq
  rw [BitVec.toNat_ofInt]
  have := x.toNat_lt
  unfold n64
  simp
  omega
theorem wrap8 (x : UInt8) : IntKind.u8.wrap (x.toNat : Int) = n8 x := w8_self x
theorem wrap32 (x : UInt32) : IntKind.u32.wrap (x.toNat : Int) = n32 x := w32_self x
theorem wrap64' (x : UInt64) : IntKind.u64.wrap (x.toNat : Int) = n64 x := w64_self x

theorem w8_add (x y : UInt8) : IntKind.u8.wrap (n8 x + n8 y) = n8 (x + y) := by unfold n8; rw [IntKind.wrap_u8']; simp
theorem w8_sub (x y : UInt8) : IntKind.u8.wrap (n8 x - n8 y) = n8 (x - y) := by
  have hx := w8_lt x
  have hy := w8_lt y
  unfold n8; rw [IntKind.wrap_u8', UInt8.toNat_sub]; omega
theorem w8_mul (x y : UInt8) : IntKind.u8.wrap (n8 x * n8 y) = n8 (x * y) := by unfold n8; rw [IntKind.wrap_u8']; simp
theorem w8_quo (x y : UInt8) : IntKind.u8.wrap ((n8 x).tdiv (n8 y)) = n8 (x / y) := by
  rw [← wrap8 (x / y), UInt8.toNat_div]; rfl
theorem w8_rem (x y : UInt8) : (n8 x).tmod (n8 y) = n8 (x % y) := by unfold n8; rw [UInt8.toNat_mod]; rfl
theorem w32_quo (x y : UInt32) : IntKind.u32.wrap ((n32 x).tdiv (n32 y)) = n32 (x / y) := by
  rw [← wrap32 (x / y), UInt32.toNat_div]; rfl
theorem w32_rem (x y : UInt32) : (n32 x).tmod (n32 y) = n32 (x % y) := by unfold n32; rw [UInt32.toNat_mod]; rfl
theorem wr64 (n : Int) : IntKind.u64.wrap n = n % 18446744073709551616 := by simp [IntKind.wrap, IntKind.bits, IntKind.signed]
theorem w64_add (x y : UInt64) : IntKind.u64.wrap (n64 x + n64 y) = n64 (x + y) := by unfold n64; rw [wr64]; simp
theorem w64_sub (x y : UInt64) : IntKind.u64.wrap (n64 x - n64 y) = n64 (x - y) := by
  have hx := x.toNat_lt
  have hy := y.toNat_lt
  unfold n64; rw [wr64, UInt64.toNat_sub]; omega
theorem w64_mul (x y : UInt64) : IntKind.u64.wrap (n64 x * n64 y) = n64 (x * y) := by unfold n64; rw [wr64]; simp
theorem w64_quo (x y : UInt64) : IntKind.u64.wrap ((n64 x).tdiv (n64 y)) = n64 (x / y) := by
  rw [← wrap64' (x / y), UInt64.toNat_div]; rfl
theorem w64_rem (x y : UInt64) : (n64 x).tmod (n64 y) = n64 (x % y) := by unfold n64; rw [UInt64.toNat_mod]; rfl
theorem n8_zero (y : UInt8) : n8 y = 0 ↔ y = 0 := by rw [show (0 : Int) = n8 0 from rfl, n8_inj]
theorem n32_zero (y : UInt32) : n32 y = 0 ↔ y = 0 := by rw [show (0 : Int) = n32 0 from rfl, n32_inj]
theorem n64_zero (y : UInt64) : n64 y = 0 ↔ y = 0 := by rw [show (0 : Int) = n64 0 from rfl, n64_inj]
theorem n8_lt (x y : UInt8) : n8 x < n8 y ↔ x < y := by unfold n8; rw [UInt8.lt_iff_toNat_lt]; omega
theorem n32_lt (x y : UInt32) : n32 x < n32 y ↔ x < y := by unfold n32; rw [UInt32.lt_iff_toNat_lt]; omega
theorem n64_lt (x y : UInt64) : n64 x < n64 y ↔ x < y := by unfold n64; rw [UInt64.lt_iff_toNat_lt]; omega
theorem n8_le (x y : UInt8) : n8 x ≤ n8 y ↔ x ≤ y := by unfold n8; rw [UInt8.le_iff_toNat_le]; omega
theorem n32_le (x y : UInt32) : n32 x ≤ n32 y ↔ x ≤ y := by unfold n32; rw [UInt32.le_iff_toNat_le]; omega
theorem n64_le (x y : UInt64) : n64 x ≤ n64 y ↔ x ≤ y := by unfold n64; rw [UInt64.le_iff_toNat_le]; omega
theorem beq_dec {α : Type} [DecidableEq α] (a b : α) : (a == b) = decide (a = b) := by rw [Bool.eq_iff_iff]; simp
theorem bne_dec {α : Type} [DecidableEq α] (a b : α) : (a != b) = decide (a ≠ b) := by rw [Bool.eq_iff_iff]; simp

theorem bin8_sound {op : BinOp} {x y : UInt8} (h : bin8 op x y = some (c, v)) (hc : c) : (binOp op t (vU8 x) (vU8 y)).run P w = .ok v w := by
  have e1 : BitVec.ofInt IntKind.u8.bits (n8 x) = x.toBitVec := bv8 x
  have e2 : BitVec.ofInt IntKind.u8.bits (n8 y) = y.toBitVec := bv8 y
  cases op <;> simp only [bin8, Option.some.injEq, Prod.mk.injEq, reduceCtorEq] at h <;> obtain ⟨rfl, rfl⟩ := h
  · simp [binOp, Op.intArith, w8_add]
  · simp [binOp, Op.intArith, w8_sub]
  · simp [binOp, Op.intArith, w8_mul]
  · have h0 : ¬ n8 y = 0 := fun e => hc ((n8_zero y).1 e)
    simp [binOp, Op.intDiv, h0, w8_quo]
  · have h0 : ¬ n8 y = 0 := fun e => hc ((n8_zero y).1 e)
    simp [binOp, Op.intDiv, h0, w8_rem]
  · simp only [binOp, Op.intBits, e1, e2]; exact congrArg (fun z => Result.ok (Value.int .u8 z) w) (wrap8 (x &&& y))
  · simp only [binOp, Op.intBits, e1, e2]; exact congrArg (fun z => Result.ok (Value.int .u8 z) w) (wrap8 (x ||| y))
  · simp only [binOp, Op.intBits, e1, e2]; exact congrArg (fun z => Result.ok (Value.int .u8 z) w) (wrap8 (x ^^^ y))
  · simp only [binOp, Op.intBits, e1, e2]; exact congrArg (fun z => Result.ok (Value.int .u8 z) w) (wrap8 (x &&& ~~~y))
  · simp [binOp, Op.intCmp, beq_dec, n8_inj]
  · simp [binOp, Op.intCmp, bne_dec, n8_inj]
  · simp [binOp, Op.intCmp, n8_lt]
  · simp [binOp, Op.intCmp, n8_le]
  · simp [binOp, Op.intCmp, n8_lt]
  · simp [binOp, Op.intCmp, n8_le]
theorem bin32_sound {op : BinOp} {x y : UInt32} (h : bin32 op x y = some (c, v)) (hc : c) : (binOp op t (vU32 x) (vU32 y)).run P w = .ok v w := by
  have e1 : BitVec.ofInt IntKind.u32.bits (n32 x) = x.toBitVec := bv32 x
  have e2 : BitVec.ofInt IntKind.u32.bits (n32 y) = y.toBitVec := bv32 y
  cases op <;> simp only [bin32, Option.some.injEq, Prod.mk.injEq, reduceCtorEq] at h <;> obtain ⟨rfl, rfl⟩ := h
  · simp [binOp, Op.intArith, w32_add]
  · simp [binOp, Op.intArith, w32_sub]
  · simp [binOp, Op.intArith, w32_mul]
  · have h0 : ¬ n32 y = 0 := fun e => hc ((n32_zero y).1 e)
    simp [binOp, Op.intDiv, h0, w32_quo]
  · have h0 : ¬ n32 y = 0 := fun e => hc ((n32_zero y).1 e)
    simp [binOp, Op.intDiv, h0, w32_rem]
  · simp only [binOp, Op.intBits, e1, e2]; exact congrArg (fun z => Result.ok (Value.int .u32 z) w) (wrap32 (x &&& y))
  · simp only [binOp, Op.intBits, e1, e2]; exact congrArg (fun z => Result.ok (Value.int .u32 z) w) (wrap32 (x ||| y))
  · simp only [binOp, Op.intBits, e1, e2]; exact congrArg (fun z => Result.ok (Value.int .u32 z) w) (wrap32 (x ^^^ y))
  · simp only [binOp, Op.intBits, e1, e2]; exact congrArg (fun z => Result.ok (Value.int .u32 z) w) (wrap32 (x &&& ~~~y))
  · simp [binOp, Op.intCmp, beq_dec, n32_inj]
  · simp [binOp, Op.intCmp, bne_dec, n32_inj]
  · simp [binOp, Op.intCmp, n32_lt]
  · simp [binOp, Op.intCmp, n32_le]
  · simp [binOp, Op.intCmp, n32_lt]
  · simp [binOp, Op.intCmp, n32_le]
theorem bin64_sound {op : BinOp} {x y : UInt64} (h : bin64 op x y = some (c, v)) (hc : c) : (binOp op t (vU64 x) (vU64 y)).run P w = .ok v w := by
  have e1 : BitVec.ofInt IntKind.u64.bits (n64 x) = x.toBitVec := bv64 x
  have e2 : BitVec.ofInt IntKind.u64.bits (n64 y) = y.toBitVec := bv64 y
  cases op <;> simp only [bin64, Option.some.injEq, Prod.mk.injEq, reduceCtorEq] at h <;> obtain ⟨rfl, rfl⟩ := h
  · simp [binOp, Op.intArith, w64_add]
  · simp [binOp, Op.intArith, w64_sub]
  · simp [binOp, Op.intArith, w64_mul]
  · have h0 : ¬ n64 y = 0 := fun e => hc ((n64_zero y).1 e)
    simp [binOp, Op.intDiv, h0, w64_quo]
  · have h0 : ¬ n64 y = 0 := fun e => hc ((n64_zero y).1 e)
    simp [binOp, Op.intDiv, h0, w64_rem]
  · simp only [binOp, Op.intBits, e1, e2]; exact congrArg (fun z => Result.ok (Value.int .u64 z) w) (wrap64' (x &&& y))
  · simp only [binOp, Op.intBits, e1, e2]; exact congrArg (fun z => Result.ok (Value.int .u64 z) w) (wrap64' (x ||| y))
  · simp only [binOp, Op.intBits, e1, e2]; exact congrArg (fun z => Result.ok (Value.int .u64 z) w) (wrap64' (x ^^^ y))
  · simp only [binOp, Op.intBits, e1, e2]; exact congrArg (fun z => Result.ok (Value.int .u64 z) w) (wrap64' (x &&& ~~~y))
  · simp [binOp, Op.intCmp, beq_dec, n64_inj]
  · simp [binOp, Op.intCmp, bne_dec, n64_inj]
  · simp [binOp, Op.intCmp, n64_lt]
  · simp [binOp, Op.intCmp, n64_le]
  · simp [binOp, Op.intCmp, n64_lt]
  · simp [binOp, Op.intCmp, n64_le]
theorem inI64_wrap {n : Int} (h : inI64 n) : IntKind.i64.wrap n = n := IntWalk.i64_in _ h
theorem binI_sound {op : BinOp} {a b : Int} (h : binI op a b = some (c, v)) (hc : c) : (binOp op t (.int .i64 a) (.int .i64 b)).run P w = .ok v w := by
  cases op <;> simp only [binI, Option.some.injEq, Prod.mk.injEq, reduceCtorEq] at h <;> obtain ⟨rfl, rfl⟩ := h
  · simp [binOp, Op.intArith, inI64_wrap hc]
  · simp [binOp, Op.intArith, inI64_wrap hc]
  · simp [binOp, Op.intArith, inI64_wrap hc]
  · simp [binOp, Op.intDiv, hc.1, inI64_wrap hc.2]
  · simp [binOp, Op.intDiv, hc]
  · simp [binOp, Op.intCmp, beq_dec]
  · simp [binOp, Op.intCmp, bne_dec]
  · simp [binOp, Op.intCmp]
  · simp [binOp, Op.intCmp]
  · simp [binOp, Op.intCmp]
  · simp [binOp, Op.intCmp]
theorem ban_some {d : Prop} {r : R1} (h : ban d r = some (c, v)) (hc : c) : ∃ e, r = some (e, v) ∧ e ∧ d := by
  cases r with
  | none => simp [ban] at h
  | some q =>
    obtain ⟨e, u⟩ := q
    simp only [ban, Option.some.injEq, Prod.mk.injEq] at h
    obtain ⟨rfl, rfl⟩ := h
    exact ⟨e, rfl, hc.2, hc.1⟩
theorem binN_sound {op : BinOp} {k : IntKind} {a b : Int} (h : binN op k a b = some (c, v)) (hc : c) : (binOp op t (.int k a) (.int k b)).run P w = .ok v w := by
  cases k <;> simp only [binN, reduceCtorEq] at h
  · exact binI_sound h hc
  · obtain ⟨e, h1, h2, h3, h4⟩ := ban_some h hc
    have := bin8_sound (P := P) (w := w) (t := t) h1 h2
    rwa [vU8, vU8, toU8_val h3, toU8_val h4] at this
  · obtain ⟨e, h1, h2, h3, h4⟩ := ban_some h hc
    have := bin32_sound (P := P) (w := w) (t := t) h1 h2
    rwa [vU32, vU32, toU32_val h3, toU32_val h4] at this
  · obtain ⟨e, h1, h2, h3, h4⟩ := ban_some h hc
    have := bin64_sound (P := P) (w := w) (t := t) h1 h2
    rwa [vU64, vU64, toU64_val h3, toU64_val h4] at this
theorem shl8_n (x : UInt8) (m : Nat) : IntKind.u8.wrap (n8 x * 2 ^ min m 8) = n8 (shl8 x m) := by
  unfold shl8
  split
  · rename_i h
    have e : (UInt8.ofNat m).toNat % 8 = m := by simp; omega
    rw [IntKind.wrap_u8', Nat.min_eq_left (by omega)]
    unfold n8
    rw [UInt8.toNat_shiftLeft, e, Nat.shiftLeft_eq, Int.natCast_emod, Int.natCast_mul, Int.natCast_pow]
    rfl
  · rename_i h
    rw [IntKind.wrap_u8', Nat.min_eq_right (by omega)]
    show n8 x * 256 % 256 = 0
    omega
theorem shr8_n (x : UInt8) (m : Nat) : (n8 x).fdiv (2 ^ min m 8) = n8 (shr8 x m) := by
  rw [Int.fdiv_eq_ediv_of_nonneg _ (by exact Int.le_of_lt (Int.pow_pos (by omega)))]
  unfold shr8
  split
  · rename_i h
    have e : (UInt8.ofNat m).toNat % 8 = m := by simp; omega
    rw [Nat.min_eq_left (by omega)]
    unfold n8
    rw [UInt8.toNat_shiftRight, e, Nat.shiftRight_eq_div_pow, Int.natCast_ediv, Int.natCast_pow]
    rfl
  · rename_i h
    rw [Nat.min_eq_right (by omega)]
    have := n8_bd x
    show n8 x / 256 = 0
    omega
theorem shl32_n (x : UInt32) (m : Nat) : IntKind.u32.wrap (n32 x * 2 ^ min m 32) = n32 (shl32 x m) := by
  unfold shl32
  split
  · rename_i h
    have e : (UInt32.ofNat m).toNat % 32 = m := by simp; omega
    rw [IntKind.wrap_u32', Nat.min_eq_left (by omega)]
    unfold n32
    rw [UInt32.toNat_shiftLeft, e, Nat.shiftLeft_eq, Int.natCast_emod, Int.natCast_mul, Int.natCast_pow]
    rfl
  · rename_i h
    rw [IntKind.wrap_u32', Nat.min_eq_right (by omega)]
    show n32 x * 4294967296 % 4294967296 = 0
    omega
theorem shr32_n (x : UInt32) (m : Nat) : (n32 x).fdiv (2 ^ min m 32) = n32 (shr32 x m) := by
  rw [Int.fdiv_eq_ediv_of_nonneg _ (by exact Int.le_of_lt (Int.pow_pos (by omega)))]
  unfold shr32
  split
  · rename_i h
    have e : (UInt32.ofNat m).toNat % 32 = m := by simp; omega
    rw [Nat.min_eq_left (by omega)]
    unfold n32
    rw [UInt32.toNat_shiftRight, e, Nat.shiftRight_eq_div_pow, Int.natCast_ediv, Int.natCast_pow]
    rfl
  · rename_i h
    rw [Nat.min_eq_right (by omega)]
    have := n32_bd x
    show n32 x / 4294967296 = 0
    omega
theorem shl64_n (x : UInt64) (m : Nat) : IntKind.u64.wrap (n64 x * 2 ^ min m 64) = n64 (shl64 x m) := by
  unfold shl64
  split
  · rename_i h
    have e : (UInt64.ofNat m).toNat % 64 = m := by simp; omega
    rw [wr64, Nat.min_eq_left (by omega)]
    unfold n64
    rw [UInt64.toNat_shiftLeft, e, Nat.shiftLeft_eq, Int.natCast_emod, Int.natCast_mul, Int.natCast_pow]
    rfl
  · rename_i h
    rw [wr64, Nat.min_eq_right (by omega)]
    show n64 x * 18446744073709551616 % 18446744073709551616 = 0
    omega
theorem shr64_n (x : UInt64) (m : Nat) : (n64 x).fdiv (2 ^ min m 64) = n64 (shr64 x m) := by
  rw [Int.fdiv_eq_ediv_of_nonneg _ (by exact Int.le_of_lt (Int.pow_pos (by omega)))]
  unfold shr64
  split
  · rename_i h
    have e : (UInt64.ofNat m).toNat % 64 = m := by simp; omega
    rw [Nat.min_eq_left (by omega)]
    unfold n64
    rw [UInt64.toNat_shiftRight, e, Nat.shiftRight_eq_div_pow, Int.natCast_ediv, Int.natCast_pow]
    rfl
  · rename_i h
    rw [Nat.min_eq_right (by omega)]
    have := n64_bd x
    show n64 x / 18446744073709551616 = 0
    omega
theorem shS_sound {left : Bool} {k yk : IntKind} {a b : Int} (h : shS left k a b = some (c, v)) (hc : c) : (binOp (if left = true then .shl else .shr) t (.int k a) (.int yk b)).run P w = .ok v w := by
  have main : ∀ (z : Int), 0 ≤ b → (if left = true then k.wrap (a * 2 ^ min b.toNat k.bits) else a.fdiv (2 ^ min b.toNat k.bits)) = z → (binOp (if left = true then .shl else .shr) t (.int k a) (.int yk b)).run P w = .ok (.int k z) w := by
    intro z hb hz
    have hb' : ¬ b < 0 := by omega
    cases left
    · simp only [Bool.false_eq_true, if_false] at hz ⊢
      simp [binOp, Op.shift, hb', hz]
    · simp only [if_true] at hz ⊢
      simp [binOp, Op.shift, hb', hz]
  cases k <;> simp only [shS, reduceCtorEq] at h
  · have hp : (0 : Int) ≤ 2 ^ b.toNat := Int.le_of_lt (Int.pow_pos (by omega))
    cases left
    · simp only [Bool.false_eq_true, if_false, Option.some.injEq, Prod.mk.injEq] at h
      obtain ⟨rfl, rfl⟩ := h
      refine main _ hc.1 ?_
      have e : min b.toNat IntKind.i64.bits = b.toNat := Nat.min_eq_left (by show _ ≤ 64; omega)
      simp only [Bool.false_eq_true, if_false, e]
      exact Int.fdiv_eq_ediv_of_nonneg _ hp
    · simp only [if_true, Option.some.injEq, Prod.mk.injEq] at h
      obtain ⟨rfl, rfl⟩ := h
      refine main _ hc.1 ?_
      have e : min b.toNat IntKind.i64.bits = b.toNat := Nat.min_eq_left (by show _ ≤ 64; omega)
      simp only [if_true, e]
      exact inI64_wrap hc.2.2
  · simp only [Option.some.injEq, Prod.mk.injEq] at h
    obtain ⟨rfl, rfl⟩ := h
    refine main _ hc.2 ?_
    have ea := toU8_val hc.1
    cases left
    · simp only [Bool.false_eq_true, if_false]; rw [← shr8_n, ea]; rfl
    · simp only [if_true]; rw [← shl8_n, ea]; rfl
  · simp only [Option.some.injEq, Prod.mk.injEq] at h
    obtain ⟨rfl, rfl⟩ := h
    refine main _ hc.2 ?_
    have ea := toU32_val hc.1
    cases left
    · simp only [Bool.false_eq_true, if_false]; rw [← shr32_n, ea]; rfl
    · simp only [if_true]; rw [← shl32_n, ea]; rfl
  · simp only [Option.some.injEq, Prod.mk.injEq] at h
    obtain ⟨rfl, rfl⟩ := h
    refine main _ hc.2 ?_
    have ea := toU64_val hc.1
    cases left
    · simp only [Bool.false_eq_true, if_false]; rw [← shr64_n, ea]; rfl
    · simp only [if_true]; rw [← shl64_n, ea]; rfl
/-! ### Conversions -/
theorem cvtN_sound {k dst : IntKind} {a : Int} (h : cvtN k dst a = some (c, v)) (hc : c) : (Conv.intToInt dst a).run P w = .ok v w := by
  have main : ∀ z, dst.wrap a = z → (Conv.intToInt dst a).run P w = .ok (.int dst z) w := by
    rintro z rfl
    rfl
  cases k <;> cases dst <;> simp only [cvtN, Option.some.injEq, Prod.mk.injEq, reduceCtorEq] at h <;> obtain ⟨rfl, rfl⟩ := h
  · exact main _ (inI64_wrap hc)
  · refine main _ ?_
    rw [IntKind.wrap_u8']; unfold n8 UInt8.ofInt; rw [UInt8.toNat_ofNat']; omega
  · refine main _ ?_
    rw [IntKind.wrap_u32']; unfold n32 UInt32.ofInt; rw [UInt32.toNat_ofNat']; omega
  · refine main _ ?_
    rw [wr64]; unfold n64 UInt64.ofInt; rw [UInt64.toNat_ofNat']; omega
  · refine main _ (inI64_wrap ?_)
    unfold inU8 at hc; unfold inI64; omega
  · refine main _ ?_
    unfold inU8 at hc; rw [IntKind.wrap_u8']; omega
  · refine main _ ?_
    rw [← w32_of8, toU8_val hc]
  · refine main _ ?_
    rw [← w64_of8, toU8_val hc]
  · refine main _ (inI64_wrap ?_)
    unfold inU32 at hc; unfold inI64; omega
  · refine main _ ?_
    rw [← w8_of32, toU32_val hc]
  · refine main _ ?_
    unfold inU32 at hc; rw [IntKind.wrap_u32']; omega
  · refine main _ ?_
    rw [← w64_of32, toU32_val hc]
  · exact main _ (inI64_wrap hc)
  · refine main _ ?_
    rw [← w8_of64, toU64_val hc]
  · refine main _ ?_
    rw [← w32_of64, toU64_val hc]
  · refine main _ ?_
    unfold inU64 at hc; rw [wr64]; omega
end
end Go.Proofs.YtkchdhkpjnnliaaDoor
