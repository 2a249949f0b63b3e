import Derived.Test.YtombphphaoeeiaaGreatDoorTie
import Derived.Test.YtombphphaoeeiaaGreatDoorBase
import Derived.ProofKit
import Derived.LaidMore
import Derived.OpenShut
import Derived.Stop.Joined
import Derived.WideKeyArr2
import Derived.ChangeMaps5
import Derived.Lay
/- What opens the arguments of the claims: numbers in a row. -/
namespace Go.Proofs.YtombphphaoeeiaaGreatDoor
open Go.ChangeShapes Go.WideShapes Go.ChangeAt Go.WideMaps Go.WideElems Go.RowKit
theorem own : ownKnob Tryz.prog.godebug = none := by kernel_rfl
theorem laidOut : laidOutB Tryz.prog = true := by kernel_rfl
section
variable {H : Type} {enc : TypeId × Value → H} {P : Program} {k e : TypeId} {n : Nat} {q : IntKind} {W : World} {base : Nat} {sp : Nat → Bool} {held : Bool}
theorem ints_each (he : P.underlying e = some (.int q)) {m : Nat} {cs : List Value} : ∀ (L : List Nat) (xs : List (DataW H × List MemPlace)),
    L.mapM (fun i => DataW.trod enc P W base sp held m e ((cs.drop (i * 1)).take 1)) = some xs →
    ∃ zs : List Int, xs = zs.map (fun z => (.lit (.int q z), [])) ∧ L.map (fun i => (cs.drop (i * 1)).take 1) = zs.map (fun z => [.int q z]) ∧ ∀ z ∈ zs, (Lit.int q z).wf = true
  | [], xs, h => by
    simp at h
    subst h
    exact ⟨[], rfl, rfl, by simp⟩
  | i :: L, xs, h => by
    rw [List.mapM_cons] at h
    simp only [bind, Option.bind_eq_some_iff, pure, Option.some.injEq] at h
    obtain ⟨y, hy, ys, hys, rfl⟩ := h
    obtain ⟨zs, rfl, h2, h3⟩ := ints_each he L ys hys
    obtain ⟨a, ea, rfl, wa⟩ := DataW.trod_int he hy
    refine ⟨a :: zs, rfl, by rw [List.map_cons, ea, h2]; rfl, fun z hz => ?_⟩
    rcases List.mem_cons.1 hz with rfl | hz
    · exact wa
    · exact h3 z hz
theorem ones_list {α : Type} (cs : List α) : (List.range cs.length).map (fun i => (cs.drop (i * 1)).take 1) = cs.map fun x => [x] := by
  apply List.ext_getElem
  · simp
  · intro i h1 h2
    simp only [List.length_map, List.length_range] at h1
    rw [List.getElem_map, List.getElem_map, List.getElem_range, Nat.mul_one, List.drop_eq_getElem_cons h1, List.take_succ_cons, List.take_zero]
theorem arr_ints (A : ArrKey P k e n) (he : P.underlying e = some (.int q)) {fuel : Nat} {cs : List Value} {x : DataW H × List MemPlace} (hd : DataW.trod enc P W base sp held fuel k cs = some x) :
    ∃ zs : List Int, cs = zs.map (Value.int q) ∧ x = (.agg (zs.map fun z => .lit (.int q z)), []) ∧ zs.length = n ∧ ∀ z ∈ zs, (Lit.int q z).wf = true := by
  cases fuel with
  | zero => simp [DataW.trod] at hd
  | succ m =>
    rw [DataW.trod_step] at hd
    unfold DataW.trodStep at hd
    simp only [A.hu] at hd
    split at hd
    · rename_i hl
      simp only [A.size, A.one] at hl hd
      simp only [Option.map_eq_some_iff] at hd
      obtain ⟨ys, hy, rfl⟩ := hd
      obtain ⟨zs, rfl, h2, h3⟩ := ints_each he _ ys hy
      rw [← hl, ones_list] at h2
      have h4 : cs = zs.map (Value.int q) := by
        have := congrArg (List.map fun x : List Value => x.headD undef) h2
        simpa [Function.comp_def] using this
      refine ⟨zs, h4, by simp [Function.comp_def, List.flatMap_eq_nil_iff], by rw [← hl, h4]; simp, h3⟩
    · cases hd
end
theorem u8s : ∀ (zs : List Int), (∀ z ∈ zs, (Lit.int .u8 z).wf = true) → ∃ l : List UInt8, zs.map (Value.int .u8) = l.map vU8 ∧ l.length = zs.length
  | [], _ => ⟨[], rfl, rfl⟩
  | z :: zs, h => by
    obtain ⟨l, h1, h2⟩ := u8s zs fun y hy => h y (List.mem_cons_of_mem _ hy)
    obtain ⟨b, hb⟩ : ∃ b : UInt8, Value.int .u8 z = vU8 b := by
      have hw := h z (List.mem_cons_self ..)
      simp only [Lit.wf, Bool.and_eq_true, decide_eq_true_eq] at hw
      have hw : 0 ≤ z ∧ z ≤ 255 := hw
      exact ⟨UInt8.ofNat z.toNat, by unfold vU8 n8; rw [UInt8.toNat_ofNat']; congr 1; omega⟩
    exact ⟨b :: l, by rw [List.map_cons, List.map_cons, h1, hb], by simp [h2]⟩
theorem lt_trod {H : Type} {enc : TypeId × Value → H} {W : World} {t : TypeId} {v : Value} {d : DataW H} {ps : List MemPlace} (h : DataW.Trod enc Tryz.prog W 0 (fun _ => true) true t v d ps) : ∀ x ∈ ps, x.block < W.heap.size := by
  obtain ⟨m, hm⟩ := h
  exact DataW.trod_lt m _ _ _ hm
end Go.Proofs.YtombphphaoeeiaaGreatDoor
/- The sums of 256 bits, as plain functions on bytes and words; what the walk writes, in these words. No program in sight. -/
namespace Go.Proofs.YtombphphaoeeiaaGreatDoor
open Go.RowKit

/-- A word turned right by n bits. -/
def rr (x : UInt32) (n : Nat) : UInt32 := (x <<< UInt32.ofNat (32 - n)) ||| (x >>> UInt32.ofNat n)
theorem rotl_eq (x : UInt32) (r : Nat) (h1 : 1 ≤ r) (h2 : r ≤ 31) :
    bits .or .u32 (n32 x * 2 ^ r % 4294967296) (n32 x / 2 ^ (32 - r)) = n32 (rr x (32 - r)) := by
  rw [w32_shl x r (by omega), w32_shr x (32 - r) (by omega), w32_or]
  unfold rr
  rw [show 32 - (32 - r) = r from by omega]
theorem count_eq (n : Nat) (h1 : 1 ≤ n) (h2 : n ≤ 31) : bits BinOp.and IntKind.u64 (IntKind.u64.wrap (-(n : Int))) 31 = ((32 - n : Nat) : Int) := by
  rw [IntKind.wrap_u64]
  have e : -(n : Int) % 18446744073709551616 = ((18446744073709551616 - n : Nat) : Int) := by omega
  rw [e, show (31 : Int) = ((31 : Nat) : Int) from rfl, u64_and_nat _ _ (by omega) (by omega), nat_mask5]
  congr 1
  omega

def sg0 (x : UInt32) : UInt32 := rr x 7 ^^^ rr x 18 ^^^ (x >>> 3)
def sg1 (x : UInt32) : UInt32 := rr x 17 ^^^ rr x 19 ^^^ (x >>> 10)
def put1 (l : List UInt32) (i : Nat) (x : UInt8) : List UInt32 := l.set (i / 4) ((ix l (i/4) <<< 8) ||| x.toUInt32)
def to1 (b : List UInt8) : Nat → List UInt32
  | 0 => List.replicate 64 0
  | i + 1 => put1 (to1 b i) i (ix b i)
def put2 (l : List UInt32) (t : Nat) : List UInt32 := l.set t (sg1 (ix l (t - 2)) + ix l (t - 7) + sg0 (ix l (t - 15)) + ix l (t - 16))
def to2 (b : List UInt8) : Nat → List UInt32
  | 0 => to1 b 64
  | k + 1 => put2 (to2 b k) (k + 16)
@[simp] theorem to1_length (b : List UInt8) (i : Nat) : (to1 b i).length = 64 := by
  induction i with
  | zero => simp [to1]
  | succ i ih => simp [to1, put1, ih]
@[simp] theorem to2_length (b : List UInt8) (i : Nat) : (to2 b i).length = 64 := by
  induction i with
  | zero => simp [to2]
  | succ i ih => simp [to2, put2, ih]
/-- The 64 words of a block, as the program makes them. -/
def wordsOf (b : List UInt8) : List UInt32 := to2 b 48
def z32 (n : Nat) : Array Value := arr32 (List.replicate n 0)

/-- The eight words of a state. -/
structure St where
  a : UInt32
  b : UInt32
  c : UInt32
  d : UInt32
  e : UInt32
  f : UInt32
  g : UInt32
  h : UInt32
def bs1 (x : UInt32) : UInt32 := rr x 6 ^^^ rr x 11 ^^^ rr x 25
def bs0 (x : UInt32) : UInt32 := rr x 2 ^^^ rr x 13 ^^^ rr x 22
def tt1 (s : St) (k w : UInt32) : UInt32 := s.h + bs1 s.e + ((s.e &&& s.f) ||| (s.g &&& ~~~s.e)) + k + w
def tt2 (s : St) : UInt32 := bs0 s.a + ((s.a &&& s.b) ||| (s.a &&& s.c) ||| (s.b &&& s.c))
/-- One round of 64. -/
def rnd (s : St) (k w : UInt32) : St := ⟨tt1 s k w + tt2 s, s.a, s.b, s.c, s.d + tt1 s k w, s.e, s.f, s.g⟩
def kt : List UInt32 := [0x428a2f98, 0x71374491, 0xb5c0fbcf, 0xe9b5dba5, 0x3956c25b, 0x59f111f1, 0x923f82a4, 0xab1c5ed5, 0xd807aa98, 0x12835b01, 0x243185be, 0x550c7dc3, 0x72be5d74, 0x80deb1fe, 0x9bdc06a7, 0xc19bf174, 0xe49b69c1, 0xefbe4786, 0x0fc19dc6, 0x240ca1cc, 0x2de92c6f, 0x4a7484aa, 0x5cb0a9dc, 0x76f988da, 0x983e5152, 0xa831c66d, 0xb00327c8, 0xbf597fc7, 0xc6e00bf3, 0xd5a79147, 0x06ca6351, 0x14292967, 0x27b70a85, 0x2e1b2138, 0x4d2c6dfc, 0x53380d13, 0x650a7354, 0x766a0abb, 0x81c2c92e, 0x92722c85, 0xa2bfe8a1, 0xa81a664b, 0xc24b8b70, 0xc76c51a3, 0xd192e819, 0xd6990624, 0xf40e3585, 0x106aa070, 0x19a4c116, 0x1e376c08, 0x2748774c, 0x34b0bcb5, 0x391c0cb3, 0x4ed8aa4a, 0x5b9cca4f, 0x682e6ff3, 0x748f82ee, 0x78a5636f, 0x84c87814, 0x8cc70208, 0x90befffa, 0xa4506ceb, 0xbef9a3f7, 0xc67178f2]
def St.list (s : St) : List UInt32 := [s.a, s.b, s.c, s.d, s.e, s.f, s.g, s.h]
def St.of (l : List UInt32) : St := ⟨ix l 0, ix l 1, ix l 2, ix l 3, ix l 4, ix l 5, ix l 6, ix l 7⟩
@[simp] theorem St.list_length (s : St) : s.list.length = 8 := rfl
/-- The state after t rounds. -/
def rnds (s : St) (w : List UInt32) : Nat → St
  | 0 => s
  | t + 1 => rnd (rnds s w t) (ix kt t) (ix w t)
/-- Two lists of words, added number by number, the first n of them. -/
def addTo (l x : List UInt32) : Nat → List UInt32
  | 0 => l
  | i + 1 => (addTo l x i).set i (ix (addTo l x i) i + ix x i)
@[simp] theorem addTo_length (l x : List UInt32) (n : Nat) : (addTo l x n).length = l.length := by
  induction n with
  | zero => rfl
  | succ i ih => simp [addTo, ih]
/-- The state behind one more block, as the program makes it. -/
def St.add (s r : St) : St := ⟨s.a + r.a, s.b + r.b, s.c + r.c, s.d + r.d, s.e + r.e, s.f + r.f, s.g + r.g, s.h + r.h⟩
def moreOf (s : St) (b : List UInt8) : St := s.add (rnds s (wordsOf b) 64)
theorem addTo_all (s r : St) : addTo s.list r.list 8 = (s.add r).list := rfl
/-- What lies in the package's table. -/
def LaidK (G : Nat) (w : World) : Prop := ∀ i, i < 64 → w.cell? ⟨G, i, none⟩ = some (vU32 (ix kt i))
theorem LaidK.lt {G : Nat} {w : World} (h : LaidK G w) : G < w.heap.size := block_lt_of_cell (h 0 (by omega))
theorem LaidK.below {G : Nat} {w w' : World} (h : LaidK G w) {B : Nat} (hb : Below B w w') (hB : G < B) : LaidK G w' := fun i hi => (hb.cell (p := ⟨G, i, none⟩) hB).trans (h i hi)

/-! ### The blocks, as the program makes them -/
abbrev B64 := { l : List UInt8 // l.length = 64 }
def b64 (l : List UInt8) : B64 := if h : l.length = 64 then ⟨l, h⟩ else ⟨List.replicate 64 0, by simp⟩
theorem b64_val {l : List UInt8} (h : l.length = 64) : (b64 l).1 = l := by unfold b64; rw [dif_pos h]
def enc64 (x : B64) : Array Value := #[.agg (arr8 x.1)]
/-- The i-th byte of a number, from the lowest on. -/
def shB (m : UInt64) (i : Nat) : UInt8 := (m >>> UInt64.ofNat (8 * i)).toUInt8
def zb (n : Nat) : List UInt8 := List.replicate n 0
@[simp] theorem zb_length (n : Nat) : (zb n).length = n := by simp [zb]
/-- How many bits there are, written into the last eight bytes: the first i of these from behind. -/
def setLen (blk : List UInt8) (m : UInt64) : Nat → List UInt8
  | 0 => blk
  | i + 1 => (setLen blk m i).set (63 - i) (shB m i)
@[simp] theorem setLen_length (blk : List UInt8) (m : UInt64) (i : Nat) : (setLen blk m i).length = blk.length := by
  induction i with
  | zero => rfl
  | succ i ih => simp [setLen, ih]
/-- What is left, a byte 128 behind, and bytes 0: 64 together. -/
def pad64 (r : List UInt8) : List UInt8 := ((r ++ List.replicate (64 - r.length) 0).set r.length 128)
theorem pad64_length {r : List UInt8} (h : r.length < 64) : (pad64 r).length = 64 := by simp [pad64]; omega
/-- The last blocks: r is left, m bits in all. -/
def tails (r : List UInt8) (m : UInt64) : List B64 :=
  if 56 < r.length + 1 then [b64 (pad64 r), b64 (setLen (zb 64) m 8)] else [b64 (setLen (pad64 r) m 8)]
def bitsOf (bs : List UInt8) : UInt64 := UInt64.ofNat (8 * bs.length)
def fulls (bs : List UInt8) : List B64 := (List.range (bs.length / 64)).map fun k => b64 ((bs.drop (64 * k)).take 64)
def chunks (bs : List UInt8) : List B64 := fulls bs ++ tails (bs.drop (64 * (bs.length / 64))) (bitsOf bs)
theorem chunks_full (bs : List UInt8) (k : Nat) (h : 64 * k + 64 ≤ bs.length) : (chunks bs)[k]? = some (b64 ((bs.drop (64 * k)).take 64)) := by
  have hk : k < bs.length / 64 := by omega
  rw [chunks, List.getElem?_append_left (by simp [fulls]; exact hk)]
  simp [fulls, hk]
theorem chunks_tail (bs : List UInt8) (k j : Nat) (h : k = bs.length / 64) : (chunks bs)[k + j]? = (tails (bs.drop (64 * k)) (bitsOf bs))[j]? := by
  subst h
  rw [chunks, List.getElem?_append_right (by simp [fulls])]
  simp [fulls]
theorem chunks_length (bs : List UInt8) : (chunks bs).length = bs.length / 64 + (tails (bs.drop (64 * (bs.length / 64))) (bitsOf bs)).length := by simp [chunks, fulls]
theorem tails_big (r : List UInt8) (m : UInt64) (h : 56 < r.length + 1) : tails r m = [b64 (pad64 r), b64 (setLen (zb 64) m 8)] := by unfold tails; rw [if_pos h]
theorem tails_small (r : List UInt8) (m : UInt64) (h : ¬ 56 < r.length + 1) : tails r m = [b64 (setLen (pad64 r) m 8)] := by unfold tails; rw [if_neg h]
theorem count_bits (n : Nat) (h : n ≤ 140737488355328) : ((n : Int) * 8) = n64 (UInt64.ofNat (8 * n)) := by
  unfold n64
  rw [UInt64.toNat_ofNat']
  omega
theorem byte_of (m : UInt64) (i : Nat) (hi : i < 8) : IntKind.u8.wrap (n64 m / 2 ^ (8 * i)) = n8 (shB m i) := by
  have h : (UInt64.ofNat (8 * i)).toNat % 64 = 8 * i := by simp; omega
  unfold n64 n8 shB
  rw [UInt64.toNat_toUInt8, UInt64.toNat_shiftRight, h, Nat.shiftRight_eq_div_pow, IntKind.wrap_u8']
  rfl

/-! ### The sum -/
instance : Inhabited B64 := ⟨b64 []⟩
def h0 : St := ⟨0x6a09e667, 0xbb67ae85, 0x3c6ef372, 0xa54ff53a, 0x510e527f, 0x9b05688c, 0x1f83d9ab, 0x5be0cd19⟩
def stateTo (xs : List B64) : Nat → St
  | 0 => h0
  | i + 1 => moreOf (stateTo xs i) (ix xs i).1
def outByte (s : St) (i : Nat) : UInt8 := (ix s.list (i / 4) >>> UInt32.ofNat (24 - 8 * (i % 4))).toUInt8
def outTo (s : St) : Nat → List UInt8
  | 0 => zb 32
  | i + 1 => (outTo s i).set i (outByte s i)
@[simp] theorem outTo_length (s : St) (n : Nat) : (outTo s n).length = 32 := by
  induction n with
  | zero => simp [outTo]
  | succ i ih => simp [outTo, ih]
theorem outTo_zero (s : St) : outTo s 0 = zb 32 := rfl
theorem outTo_succ (s : St) (i : Nat) : outTo s (i + 1) = (outTo s i).set i (outByte s i) := rfl
theorem stateTo_zero (xs : List B64) : stateTo xs 0 = h0 := rfl
theorem stateTo_succ (xs : List B64) (i : Nat) : stateTo xs (i + 1) = moreOf (stateTo xs i) (ix xs i).1 := rfl
/-- The sum of bytes, as the program makes it. -/
def shaOf (bs : List UInt8) : List UInt8 := outTo (stateTo (chunks bs) (chunks bs).length) 32
theorem shaOf_eq (bs : List UInt8) : shaOf bs = outTo (stateTo (chunks bs) (chunks bs).length) 32 := rfl
@[simp] theorem shaOf_length (bs : List UInt8) : (shaOf bs).length = 32 := by simp [shaOf]
theorem out_eq (s : St) (i : Nat) (x : UInt32) (hx : x = ix s.list (i / 4)) : n32 x / 2 ^ (24 - 8 * (i % 4)) % 256 = n8 (outByte s i) := by
  rw [← IntKind.wrap_u8', w32_shr x _ (by omega), w8_of32, hx]; rfl
end Go.Proofs.YtombphphaoeeiaaGreatDoor
/- What opens the arguments of the claims: slices of bytes, arrays of bytes, the table that is laid. -/
namespace Go.Proofs.YtombphphaoeeiaaGreatDoor
open Go.ChangeShapes Go.WideShapes Go.ChangeAt Go.WideMaps Go.WideElems Go.RowKit
section
variable {H : Type} {enc : TypeId × Value → H} {W : World}
end
set_option maxRecDepth 100000 in
theorem key64u : ArrKey Tryz.prog 182 23 64 := ⟨Tryz.underlying182, by kernel_rfl, by kernel_rfl, by kernel_rfl⟩
theorem laid_kt : (Rows.laid_caucus_sha_rounds : DataW Unit) = .agg ((kt.map n32).map fun z => .lit (.int .u32 z)) := by kernel_rfl
theorem rounds_global : Tryz.prog.globalNamed "caucus/sha.rounds" = some 1 := by kernel_rfl
theorem rounds_type : (Tryz.prog.globals[1]?).map (·.type) = some 182 := by kernel_rfl
theorem laidK_of_met {W : World} (h : laidMet Tryz.prog [("caucus/sha.rounds", Rows.laid_caucus_sha_rounds)] W) : LaidK 1 W := by
  obtain ⟨ps, ⟨g, t, cs, fuel, p, q, hg, ht, hvar, hd, _, _⟩, _⟩ := h
  obtain rfl := Option.some.inj (rounds_global.symm.trans hg)
  obtain rfl := Option.some.inj (rounds_type.symm.trans ht)
  obtain ⟨zs, h1, h2, h3, h4⟩ := arr_ints key64u Tryz.underlying23 hd
  simp only [Prod.mk.injEq] at h2
  rw [laid_kt] at h2
  have h5 : kt.map n32 = zs := by
    have := h2.1
    simp only [DataW.agg.injEq] at this
    refine List.map_inj_right (f := fun z => (DataW.lit (.int .u32 z) : DataW Unit)) ?_ |>.1 this
    intro a b hab
    simpa using hab
  intro i hi
  have h6 := World.var?_cell hg hvar i
  rw [h6]
  have h7 : cs.toList = (kt.map n32).map (Value.int .u32) := by rw [h1, h5]
  have h8 : cs[i]? = ((kt.map n32).map (Value.int .u32))[i]? := by rw [← h7, Array.getElem?_toList]
  rw [h8]
  simp [ix, List.getD_eq_getElem?_getD, List.getElem?_eq_getElem (show i < kt.length from hi)]
abbrev laidR : List (String × DataW Unit) := [("caucus/sha.rounds", Rows.laid_caucus_sha_rounds)]
end Go.Proofs.YtombphphaoeeiaaGreatDoor
