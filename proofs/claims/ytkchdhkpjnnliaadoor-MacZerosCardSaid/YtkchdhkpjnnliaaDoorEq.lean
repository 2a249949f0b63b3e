/- Arrays of bytes and of words, compared. No program in sight. -/
import Derived.Test.YtkchdhkpjnnliaaDoorM
import Derived.ChangeKeysEq
namespace Go.Proofs.YtkchdhkpjnnliaaDoor
open Go.RowKit
section
variable {P : Program} (w : World)
theorem run_eqItems_int (d : Nat) (e : TypeId) (k : IntKind) (he : P.underlying e = some (.int k)) (hp : P.plainKey e = true) (xs ys : Array Value) (f g : Nat → Int) :
    ∀ is : List Nat, (∀ i ∈ is, xs[i]? = some (.int k (f i)) ∧ ys[i]? = some (.int k (g i))) → (Op.eqItems (d + 1) e 1 xs ys is).run P w = .ok (is.all fun i => f i == g i) w
  | [], _ => by simp [Op.eqItems]
  | i :: is, h => by
    obtain ⟨hx, hy⟩ := h i (by simp)
    have ih := run_eqItems_int d e k he hp xs ys f g is (fun j hj => h j (by simp [hj]))
    simp only [Op.eqItems, Sem.run_bind, Nat.mul_one, run_part_plain w hp hx, run_part_plain w hp hy, Result.andThen_ok, run_equalIn_int w d e k k _ _ he, List.all_cons]
    cases hq : (f i == g i)
    · simp
    · simpa using ih
theorem eql8 (d : Nat) {t e : TypeId} {n : Nat} (ht : P.underlying t = some (.array n e)) (he : P.underlying e = some (.int .u8)) (hs : (P.info? e).map (·.size) = some 1) (hp : P.plainKey e = true) (a b : List UInt8) (ha : a.length = n) (hb : b.length = n) :
    (Op.equalIn (d + 2) t (.agg (arr8 a)) (.agg (arr8 b))).run P w = .ok (decide (a = b)) w := by
  cases hi : P.info? e with
  | none => simp [hi] at hs
  | some i =>
    have h1 : P.cellsOf e = 1 := by simpa [Program.cellsOf, hi] using hs
    rw [run_equalIn_array w (d + 1) (arr8 a) (arr8 b) ht hi, h1, run_eqItems_int w d e .u8 he hp (arr8 a) (arr8 b) (fun i => n8 (ix a i)) (fun i => n8 (ix b i)) (List.range n)
      (fun j hj => by rw [List.mem_range] at hj; exact ⟨arr8_get a j (by omega), arr8_get b j (by omega)⟩)]
    congr 1
    rw [Bool.eq_iff_iff]
    simp only [List.all_eq_true, List.mem_range, decide_eq_true_eq, beq_iff_eq]
    constructor
    · intro h
      apply List.ext_getElem (by omega)
      intro j h1 h2
      have := n8_inj.1 (h j (by omega))
      simpa [ix, List.getD_eq_getElem?_getD, List.getElem?_eq_getElem h1, List.getElem?_eq_getElem h2] using this
    · rintro rfl j _; rfl
end
section
variable {P : Program} {w w2 : World} {ops : Array Oper} {rest : List Oper} {o : Oper} {a : Act} {Q : Exit → Act → World → Prop} {v : Value}
/-- An operation whose guard holds, and whose run is known. -/
theorem wpList_runG (hrun : (execOp a.eval o).run P w = .ok (.value v) w2) (hw : Region.wanted o (yielded ops a.tmps) = true) (h : wpList P ops Q rest (a.put o.dst v) w2) : wpList P ops Q (o :: rest) a w := by
  unfold wpList
  rw [if_pos hw]
  left
  unfold Oper.wp
  rw [hrun]
  exact h
end
end Go.Proofs.YtkchdhkpjnnliaaDoor
