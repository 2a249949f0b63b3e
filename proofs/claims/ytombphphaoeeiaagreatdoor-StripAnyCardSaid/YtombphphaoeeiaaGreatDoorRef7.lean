import Derived.Test.YtombphphaoeeiaaGreatDoorShA
import Derived.Test.YtombphphaoeeiaaGreatDoorTy
import Derived.Test.YtombphphaoeeiaaGreatDoorPre
import Derived.Test.YtombphphaoeeiaaGreatDoorBase
import Derived.Test.YtombphphaoeeiaaGreatDoorProg
import Derived.Test.YtombphphaoeeiaaGreatDoorEn3
/- Are two rows of numbers the same: by the library, the program and the document. -/
namespace Go.Proofs.YtombphphaoeeiaaGreatDoor
open Go.RowKit
set_option linter.unusedSimpArgs false
theorem ext_ix {α : Type} [Inhabited α] {a b : List α} (hl : a.length = b.length) (h : ∀ j, j < a.length → ix a j = ix b j) : a = b := by
  apply List.ext_getElem hl
  intro i h1 h2
  have := h i h1
  simpa [ix, List.getD_eq_getElem?_getD, List.getElem?_eq_getElem h1, List.getElem?_eq_getElem h2] using this
theorem len_ne {α : Type} {a b : List α} (h : ¬ ((a.length : Int) = b.length)) : ¬ a = b := fun e => h (by rw [e])
section
variable (a b : List UInt32) (A : Option Addr) (c : Nat) (A2 : Option Addr) (c2 : Nat) (w : World) (hm : a.length ≤ 100000) (hR : RdV w w.heap.size A (a.map vU32)) (hR2 : RdV w w.heap.size A2 (b.map vU32))
include hm hR hR2
set_option maxRecDepth 100000 in
theorem equal32_any : Calls Tryz.prog 23 #[.slice A a.length c, .slice A2 b.length c2] w fun e w' => e = .returned (.bool (decide (a = b))) ∧ Below w.heap.size w w' := by
  have F := F32.of (FV.no hR)
  have G := F32.of (FV.no hR2)
  refine calls_v (n := 26) Tryz.func23 rfl Tryz.ntmps23 [.x (.a (.v (.slice A a.length c))), .x (.a (.v (.slice A2 b.length c2)))] (by simp) (.x (.a (.v (.bool (decide (a = b)))))) (fun _ => rfl) ?_
  by_cases hl : (a.length : Int) = b.length
  · simp only [hl, push_cast, ↓reduceIte, reduceCtorEq, Nat.reduceEqDiff, Nat.reduceLT]
    refine loop_rule (ι := Nat) (fun k => ⟨[(0, .x (.a (.v (.slice A a.length c)))), (1, .x (.a (.v (.slice A2 b.length c2)))), (12, .x (.a (.v (.int .i64 b.length)))), (13, .x (.a (.v (.int .i64 k))))], []⟩) (fun k => k ≤ b.length ∧ ∀ j, j < k → ix a j = ix b j) (fun k => b.length - k) 0 [] ⟨by omega, fun j h => by omega⟩ ?_ ?_
    · simp only [push_cast, ↓Int.cast_ofNat_Int, Int.cast_ofNat_Int, ↓reduceIte, reduceCtorEq, Nat.reduceEqDiff]
    · rintro k ⟨hk, hj⟩
      by_cases hlt : (k : Int) < b.length
      · have c0 := F.cell k (by omega)
        have o0 := F.ok k (by omega)
        have d0 := G.cell k (by omega)
        have p0 := G.ok k (by omega)
        have hA := F.some_ (by omega)
        have hA2 := G.some_ (by omega)
        have hla : (k : Int) < a.length := by omega
        by_cases he : ix a k = ix b k
        · simp only [hlt, push_cast, ↓reduceIte, reduceCtorEq, Nat.reduceEqDiff, Nat.reduceLT]
          (repeat (refine And.intro (by first | omega | decide) ?_))
          refine draw_rule [(0, true), (1, true), (2, true), (3, true), (4, true), (5, true), (6, true), (7, true), (8, true)] (by kernel_rfl) (by kernel_rfl) rfl (by kernel_rfl) ?_
          simp only [hlt, hla, c0, o0, d0, p0, hA, hA2, he, push_cast, ↓Int.toNat_natCast, ↓reduceIte, reduceCtorEq, Nat.reduceEqDiff, Nat.reduceLT, Int.reduceNeg]
          (repeat (refine And.intro (by first | omega | decide) ?_))
          refine loopK_normal (k + 1) [] ⟨by omega, fun j h => ?_⟩ (by omega) ?_
          · by_cases e : j = k
            · rw [e]; exact he
            · exact hj j (by omega)
          · simp only [push_cast, ↓reduceIte, reduceCtorEq, Nat.reduceEqDiff]
        · have hne : ¬ a = b := fun e => he (by rw [e])
          simp only [hlt, push_cast, ↓reduceIte, reduceCtorEq, Nat.reduceEqDiff, Nat.reduceLT]
          (repeat (refine And.intro (by first | omega | decide) ?_))
          refine draw_rule [(0, true), (1, true), (2, true), (3, true), (4, true), (5, true), (6, true), (7, true), (8, true)] (by kernel_rfl) (by kernel_rfl) rfl (by kernel_rfl) ?_
          simp only [hlt, hla, c0, o0, d0, p0, hA, hA2, he, hne, push_cast, ↓Int.toNat_natCast, ↓reduceIte, reduceCtorEq, Nat.reduceEqDiff, Nat.reduceLT]
          all_goals omega
      · have hab : a = b := ext_ix (by omega) fun j h => hj j (by omega)
        have hd : decide (a = b) = true := decide_eq_true hab
        simp only [hlt, hd, push_cast, ↓reduceIte, reduceCtorEq, Nat.reduceEqDiff, Nat.reduceLT]
  · have hne := len_ne hl
    simp only [hl, hne, push_cast, ↓reduceIte, reduceCtorEq, Nat.reduceEqDiff, Nat.reduceLT]
end
section
variable {w0 : World} {hp : List Res} {s1 s2 : Sv} {a b : List UInt32}
theorem equal32OK (hm : a.length ≤ 100000) (h1 : Shows w0 No hp s1 (a.map vU32)) (h2 : Shows w0 No hp s2 (b.map vU32)) : CallOK Tryz.prog w0 No 23 [s1, s2] hp (.x (.a (.v (.bool (decide (a = b)))))) hp := callOK_v fun γ w hS => by
  obtain ⟨A, c, e1, b1, r1⟩ := h1 γ w hS
  obtain ⟨A2, c2, e2, b2, r2⟩ := h2 γ w hS
  rw [List.length_map] at e1 e2
  show Calls _ _ #[s1.val γ, s2.val γ] w _
  rw [e1, e2]
  exact equal32_any a b A c A2 c2 w hm r1 r2
end
set_option maxRecDepth 100000 in
theorem same32_any (a b : List UInt32) (A : Option Addr) (c : Nat) (A2 : Option Addr) (c2 : Nat) (w : World) (hm : a.length ≤ 100000) (hc : a.length ≤ c) (hc2 : b.length ≤ c2) (hR : RdV w w.heap.size A (a.map vU32)) (hR2 : RdV w w.heap.size A2 (b.map vU32)) :
    Calls Tryz.prog 9 #[.slice A a.length c, .slice A2 b.length c2] w fun e w' => e = .returned (.bool (decide (a = b))) ∧ Below w.heap.size w w' := by
  refine calls_v (n := 8) Tryz.func9 rfl Tryz.ntmps9 [.x (.a (.v (.slice A a.length c))), .x (.a (.v (.slice A2 b.length c2)))] (by simp) (.x (.a (.v (.bool (decide (a = b)))))) (fun _ => rfl) ?_
  simp only [push_cast, ↓reduceIte, reduceCtorEq, Nat.reduceEqDiff, Nat.reduceLT]
  refine callG_v rfl cb23 rfl (equal32OK hm (shows_raw hR _ _ (by simp) hc) (shows_raw hR2 _ _ (by simp) hc2)) (dOk_lt rfl) ?_
  simp only [push_cast, ↓reduceIte, Nat.reduceLT]
theorem same32OK {w0 : World} {hp : List Res} {s1 s2 : Sv} {a b : List UInt32} (hm : a.length ≤ 100000) (h1 : Shows w0 No hp s1 (a.map vU32)) (h2 : Shows w0 No hp s2 (b.map vU32)) : CallOK Tryz.prog w0 No 9 [s1, s2] hp (.x (.a (.v (.bool (decide (a = b)))))) hp := callOK_v fun γ w hS => by
  obtain ⟨A, c, e1, b1, r1⟩ := h1 γ w hS
  obtain ⟨A2, c2, e2, b2, r2⟩ := h2 γ w hS
  rw [List.length_map] at e1 e2 b1 b2
  show Calls _ _ #[s1.val γ, s2.val γ] w _
  rw [e1, e2]
  exact same32_any a b A c A2 c2 w hm b1 b2 r1 r2
end Go.Proofs.YtombphphaoeeiaaGreatDoor
/- What came in reads as it did later on. No program in sight. -/
namespace Go.Proofs.YtombphphaoeeiaaGreatDoor
open Go.RowKit
set_option linter.unusedSimpArgs false
section
variable {w0 : World} {hp : List Res}
theorem rd_later {γ : List Nm} {w : World} {A : Option Addr} {vs : List Value} (h : RdV w0 w0.heap.size A vs) (hS : Sat w0 No γ hp w) : RdV w w.heap.size A vs := (h.below (keeps_below hS.keeps)).more (keeps_below hS.keeps).size
end
attribute [push_cast] beq_self_eq_true
end Go.Proofs.YtombphphaoeeiaaGreatDoor
/- RefW: Ref5a, RefP, RefC, joined. -/
/- The document's sums (caucusref05): plain functions beside the code, and the walks of add, rotr, words, bytes, Padded. -/
namespace Go.Proofs.YtombphphaoeeiaaGreatDoor
open Go.RowKit

/-! ### A word turned right, by division -/
/-! ### A sum of words -/
def sumI (l : List UInt32) : Nat → Int
  | 0 => 0
  | i + 1 => sumI l i + n32 (ix l i)
def sumW (l : List UInt32) : Nat → UInt32
  | 0 => 0
  | i + 1 => sumW l i + ix l i
/-! ### Bytes as words, words as bytes -/
section
variable (x : UInt32)
end
def be4 (b : List UInt8) (i : Nat) : UInt32 := 16777216 * (ix b i).toUInt32 + 65536 * (ix b (i + 1)).toUInt32 + 256 * (ix b (i + 2)).toUInt32 + (ix b (i + 3)).toUInt32
def wordsTo (b : List UInt8) : Nat → List UInt32
  | 0 => []
  | k + 1 => wordsTo b k ++ [be4 b (4 * k)]
@[simp] theorem wordsTo_length (b : List UInt8) (k : Nat) : (wordsTo b k).length = k := by
  induction k with
  | zero => rfl
  | succ k ih => simp [wordsTo, ih]
def byte4 (x : UInt32) : List UInt8 := [(x / 16777216).toUInt8, (x / 65536 % 256).toUInt8, (x / 256 % 256).toUInt8, (x % 256).toUInt8]
def bytesTo (l : List UInt32) : Nat → List UInt8
  | 0 => []
  | k + 1 => bytesTo l k ++ byte4 (ix l k)
@[simp] theorem bytesTo_length (l : List UInt32) (k : Nat) : (bytesTo l k).length = 4 * k := by
  induction k with
  | zero => rfl
  | succ k ih => simp [bytesTo, byte4, ih]; omega
end Go.Proofs.YtombphphaoeeiaaGreatDoor
/- The plain law of the sums: the document's words, bytes and blocks are the program's. No program in sight. -/
namespace Go.Proofs.YtombphphaoeeiaaGreatDoor
/-! ### Words -/
/-- m bytes of the j-th word. -/
def w4 (B : List UInt8) (j : Nat) : Nat → UInt32
  | 0 => 0
  | m + 1 => (w4 B j m <<< 8) ||| (ix B (4 * j + m)).toUInt32
/-! ### Bytes -/
theorem q0 (x : UInt32) : (x / 16777216).toUInt8 = (x >>> 24).toUInt8 := by
  rw [← UInt8.toNat_inj]; simp [UInt32.toNat_shiftRight, Nat.shiftRight_eq_div_pow]
theorem q1 (x : UInt32) : (x / 65536 % 256).toUInt8 = (x >>> 16).toUInt8 := by
  rw [← UInt8.toNat_inj]; simp [UInt32.toNat_shiftRight, Nat.shiftRight_eq_div_pow]
theorem q2 (x : UInt32) : (x / 256 % 256).toUInt8 = (x >>> 8).toUInt8 := by
  rw [← UInt8.toNat_inj]; simp [UInt32.toNat_shiftRight, Nat.shiftRight_eq_div_pow]
theorem q3 (x : UInt32) : (x % 256).toUInt8 = (x >>> 0).toUInt8 := by
  rw [← UInt8.toNat_inj]; simp
/-! ### What stands behind -/
def padTo (b : List UInt8) (k : Nat) : List UInt8 := b ++ [128] ++ List.replicate k 0
/-- How many zeros stand behind. -/
def padN (m : Nat) : Nat := (119 - m % 64) % 64
def lenWords (m : Nat) : List UInt32 := [(UInt64.ofInt (m : Int) * 8 / 4294967296).toUInt32, (UInt64.ofInt (m : Int) * 8 % 4294967296).toUInt32]
def padded (b : List UInt8) : List UInt8 := padTo b (padN b.length) ++ bytesTo (lenWords b.length) 2
def padBlk (b : List UInt8) (j : Nat) : List UInt8 := ((padded b).drop (64 * j)).take 64
def nBlk (b : List UInt8) : Nat := (padded b).length / 64
def refState (b : List UInt8) : Nat → St
  | 0 => h0
  | j + 1 => moreOf (refState b j) (padBlk b j)
end Go.Proofs.YtombphphaoeeiaaGreatDoor
/- The plain law of the sums: the document's blocks are the program's. No program in sight. -/
namespace Go.Proofs.YtombphphaoeeiaaGreatDoor
set_option linter.unusedSimpArgs false
end Go.Proofs.YtombphphaoeeiaaGreatDoor
/- caucusref05: words, bytes, what stands behind, by the engine. -/
namespace Go.Proofs.YtombphphaoeeiaaGreatDoor
open Go.RowKit
set_option linter.unusedSimpArgs false
end Go.Proofs.YtombphphaoeeiaaGreatDoor
/- caucusref05.Padded, by the engine. -/
namespace Go.Proofs.YtombphphaoeeiaaGreatDoor
open Go.RowKit
set_option linter.unusedSimpArgs false
end Go.Proofs.YtombphphaoeeiaaGreatDoor
/- caucusref05.Of, by the engine. -/
namespace Go.Proofs.YtombphphaoeeiaaGreatDoor
open Go.RowKit
set_option linter.unusedSimpArgs false
/-- The first i of c, noughts behind. -/
def cpTo (c : List UInt8) (i : Nat) : List UInt8 := c.take i ++ List.replicate (32 - i) 0
attribute [local irreducible] padded refState wordsOf kt bytesTo outTo addTo cpTo rnd to2 to1 rnds moreOf
end Go.Proofs.YtombphphaoeeiaaGreatDoor
