import Derived.Test.YtombphphaoeeiaaGreatDoorShA
import Derived.Test.YtombphphaoeeiaaGreatDoorPre
/- Rows of elements of some cells each, wherever they lie. No program in sight. -/
namespace Go.Proofs.YtombphphaoeeiaaGreatDoor
open Go.RowKit
set_option linter.unusedSimpArgs false
/-! ### Rows of elements of m cells each -/
theorem flat_get {α : Type} [Inhabited α] {enc : α → List Value} {m : Nat} (hm : ∀ x, (enc x).length = m) (l : List α) (i j : Nat) (hi : i < l.length) (hj : j < m) : (l.flatMap enc)[i * m + j]? = (enc (ix l i))[j]? := by
  induction l generalizing i with
  | nil => simp at hi
  | cons x l ih =>
    cases i with
    | zero =>
      rw [List.flatMap_cons, Nat.zero_mul, Nat.zero_add, List.getElem?_append_left (by rw [hm]; exact hj)]
      rfl
    | succ i =>
      have e : (i + 1) * m + j = m + (i * m + j) := by rw [Nat.add_mul]; omega
      rw [List.flatMap_cons, e, List.getElem?_append_right (by rw [hm]; omega), hm, Nat.add_sub_cancel_left, ih i (by simpa using hi)]
      rfl
theorem flat_len {α : Type} {enc : α → List Value} {m : Nat} (hm : ∀ x, (enc x).length = m) (l : List α) : (l.flatMap enc).length = l.length * m := by
  induction l with
  | nil => simp
  | cons x l ih => rw [List.flatMap_cons, List.length_append, hm, ih, List.length_cons, Nat.add_mul]; omega
/-- In every world that fits, sv is a slice of n elements that shows these cells. -/
def ShowsR (w0 : World) (ow : Nat → Prop) (hp : List Res) (sv : Sv) (n : Nat) (vs : List Value) : Prop :=
  ∀ γ w, Sat w0 ow γ hp w → ∃ A c, sv.val γ = .slice A n c ∧ n ≤ c ∧ RdV w w.heap.size A vs
theorem showsR_onn {w0 : World} {ow : Nat → Prop} {hp : List Res} {k m n : Nat} {e : TypeId} {c : Cont} {vs : List Value} (hr : hp[k]? = some (.onn e m c)) (hv : ∀ γ, c.vals γ = vs) (hn : vs.length = n * m) : ShowsR w0 ow hp (.x (.a (.o k))) n vs := fun γ w hS => by
  have h := (hS.holds k _ hr).2
  have hm := h.1
  obtain ⟨A, n', cp, h1, h2, h3, h4, h5, h6⟩ := OwnN.rd h
  rw [hv γ] at h2 h5
  have : n' = n := Nat.eq_of_mul_eq_mul_right hm (by rw [← h2, hn])
  subst this
  exact ⟨A, cp, h1, h3, h5⟩
theorem rdv_drop {w : World} {B : Nat} {A : Option Addr} {xs : List Value} (h : RdV w B A xs) (n : Nat) : RdV w B (pAdd A n) (xs.drop n) := fun hp => by
  rw [List.length_drop] at hp
  obtain ⟨b, off, rfl, h2, h3⟩ := h (by omega)
  refine ⟨b, off + n, by simp [pAdd, add_plain], h2, fun j u hu => ?_⟩
  rw [List.getElem?_drop] at hu
  rw [Nat.add_assoc]
  exact h3 _ _ hu
theorem showsR_y {w0 : World} {ow : Nat → Prop} {hp : List Res} {k m : Nat} {e : TypeId} {c : Cont} {vs : List Value} (l n : Nat) (hr : hp[k]? = some (.onn e m c)) (hv : ∀ γ, c.vals γ = vs) (hn : (l + n) * m ≤ vs.length) : ShowsR w0 ow hp (.x (.a (.y k m l n))) n ((vs.drop (l * m)).take (n * m)) := fun γ w hS => by
  have h := (hS.holds k _ hr).2
  have hm := h.1
  obtain ⟨A, n', cp, h1, h2, h3, h4, h5, h6⟩ := OwnN.rd h
  rw [hv γ] at h2 h5
  have hle : l + n ≤ n' := by
    rw [h2] at hn
    exact Nat.le_of_mul_le_mul_right hn hm
  refine ⟨if cp = l then A else pAdd A (l * m), cp - l, by simp [Sv.val, Sc.val, At.val, h1], by omega, ?_⟩
  split
  · rename_i hcl
    have hn0 : n = 0 := by omega
    rw [hn0, Nat.zero_mul, List.take_zero]
    exact RdV.nil_
  · exact rdv_take (rdv_drop h5 _) _
theorem showsR_raw {w0 : World} {hp : List Res} {A : Option Addr} {n c : Nat} {vs : List Value} (hR : RdV w0 w0.heap.size A vs) (hc : n ≤ c) : ShowsR w0 No hp (.x (.a (.v (.slice A n c)))) n vs := fun _ _ hS =>
  ⟨A, c, rfl, hc, (hR.below (keeps_below hS.keeps)).more (keeps_below hS.keeps).size⟩
end Go.Proofs.YtombphphaoeeiaaGreatDoor
/- What opens arguments, whatever their types are: numbers, strings, structs, slices of any of these, one in another. No program in sight. -/
namespace Go.Proofs.YtombphphaoeeiaaGreatDoor
open Go.ChangeShapes Go.WideShapes Go.ChangeAt Go.WideMaps Go.WideElems Go.RowKit
/-- A slice as it came in. -/
structure Slc (α : Type) where
  A : Option Addr
  c : Nat
  l : List α
def Slc.val {α : Type} (s : Slc α) : Value := .slice s.A s.l.length s.c
section
variable {H : Type} (enc : TypeId × Value → H) (P : Program) (W : World)
/-- What a type's cells can be, if they are read as data. -/
def Opn (t : TypeId) {α : Type} (e : α → List Value) (Q : α → Prop) : Prop :=
  ∀ fuel cs x, DataW.trod enc P W 0 (fun _ => true) true fuel t cs = some x → ∃ a, cs = e a ∧ Q a
/-- The same for fields, one behind the other, from a place on. -/
def OpnF (off : Nat) (fs : List Field) (m : Nat) {α : Type} (e : α → List Value) (Q : α → Prop) : Prop :=
  ∀ (n : Nat) (cs : List Value), (∀ f ∈ fs, ∃ y, DataW.trod enc P W 0 (fun _ => true) true n f.type ((cs.drop f.offset).take (P.cellsOf f.type)) = some y) →
    ∃ a, (cs.drop off).take m = e a ∧ Q a
end
section
variable {H : Type} {enc : TypeId × Value → H} {P : Program} {W : World} {t e : TypeId}
theorem Opn.int {k : IntKind} (ht : P.underlying t = some (.int k)) : Opn enc P W t (fun n : Int => [.int k n]) (fun n => (Lit.int k n).wf = true) := fun fuel cs x h => by
  obtain ⟨n, h1, _, h3⟩ := DataW.trod_int ht h
  exact ⟨n, h1, h3⟩
theorem Opn.i64 (ht : P.underlying t = some (.int .i64)) : Opn enc P W t (fun n : Int => [.int .i64 n]) (fun n => -9223372036854775808 ≤ n ∧ n ≤ 9223372036854775807) := fun fuel cs x h => by
  obtain ⟨n, h1, _, h3⟩ := DataW.trod_int ht h
  simp only [Lit.wf, Bool.and_eq_true, decide_eq_true_eq] at h3
  exact ⟨n, h1, h3⟩
theorem Opn.u64 (ht : P.underlying t = some (.int .u64)) : Opn enc P W t (fun x : UInt64 => [vU64 x]) (fun _ => True) := fun fuel cs x h => by
  obtain ⟨n, h1, _, h3⟩ := DataW.trod_int ht h
  simp only [Lit.wf, Bool.and_eq_true, decide_eq_true_eq] at h3
  have h3 : 0 ≤ n ∧ n ≤ 18446744073709551615 := h3
  refine ⟨UInt64.ofNat n.toNat, ?_, trivial⟩
  rw [h1]
  show [Value.int .u64 n] = [.int .u64 ((UInt64.ofNat n.toNat).toNat : Int)]
  rw [UInt64.toNat_ofNat']
  congr 2
  omega
theorem Opn.u32 (ht : P.underlying t = some (.int .u32)) : Opn enc P W t (fun x : UInt32 => [vU32 x]) (fun _ => True) := fun fuel cs x h => by
  obtain ⟨n, h1, _, h3⟩ := DataW.trod_int ht h
  simp only [Lit.wf, Bool.and_eq_true, decide_eq_true_eq] at h3
  have h3 : 0 ≤ n ∧ n ≤ 4294967295 := h3
  refine ⟨UInt32.ofNat n.toNat, ?_, trivial⟩
  rw [h1]
  show [Value.int .u32 n] = [.int .u32 ((UInt32.ofNat n.toNat).toNat : Int)]
  rw [UInt32.toNat_ofNat']
  congr 2
  omega
theorem Opn.u8 (ht : P.underlying t = some (.int .u8)) : Opn enc P W t (fun x : UInt8 => [vU8 x]) (fun _ => True) := fun fuel cs x h => by
  obtain ⟨n, h1, _, h3⟩ := DataW.trod_int ht h
  simp only [Lit.wf, Bool.and_eq_true, decide_eq_true_eq] at h3
  have h3 : 0 ≤ n ∧ n ≤ 255 := h3
  refine ⟨UInt8.ofNat n.toNat, ?_, trivial⟩
  rw [h1]
  show [Value.int .u8 n] = [.int .u8 ((UInt8.ofNat n.toNat).toNat : Int)]
  rw [UInt8.toNat_ofNat']
  congr 2
  omega
theorem Opn.bool (ht : P.underlying t = some .bool) : Opn enc P W t (fun b : Bool => [.bool b]) (fun _ => True) := fun fuel cs x h => by
  obtain ⟨b, h1, _⟩ := DataW.trod_bool ht h
  exact ⟨b, h1, trivial⟩
theorem Opn.str (ht : P.underlying t = some .string) : Opn enc P W t (fun s : ByteArray => [.string s]) (fun s => s.size ≤ maxLen) := fun fuel cs x h => by
  obtain ⟨s, h1, _, h3⟩ := DataW.trod_string ht h
  exact ⟨s, h1, h3⟩
theorem spot_no {a : Addr} {v : Value} (h : W.cell? a = some v) : a.spot = none := by
  unfold World.cell? at h
  split at h
  · split at h
    · cases h
    · rename_i hs
      simpa using hs
  · cases h
theorem Opn.slice {α : Type} [Inhabited α] {f : α → List Value} {Q : α → Prop} {m : Nat} (ht : P.underlying t = some (.slice e)) (hm : P.cellsOf e = m) (h0 : 0 < m) (hf : ∀ a, (f a).length = m) (h : Opn enc P W e f Q) :
    Opn enc P W t (fun s : Slc α => [s.val]) (fun s => s.l.length ≤ s.c ∧ s.c ≤ maxLen ∧ RdV W W.heap.size s.A (s.l.flatMap f) ∧ ∀ a ∈ s.l, Q a) := fun fuel cs x hx => by
  rcases DataW.trod_slice ht hx with ⟨rfl, _⟩ | ⟨a, len, cap, elems, rest, n, _, rfl, _, _, hl, hc, hlen, hel, _, _⟩
  · exact ⟨⟨none, 0, []⟩, rfl, Nat.le_refl _, Nat.zero_le _, RdV.nil_, fun y h => by cases h⟩
  · have each : ∀ i, i < len → ∃ y : α, W.cells? 0 (a.add (i * m)) m = some (f y) ∧ Q y := by
      intro i hi
      have h1 := hel i hi
      rw [hm, List.getElem?_eq_getElem (by omega), Option.bind_eq_some_iff] at h1
      obtain ⟨ci, h2, h3⟩ := h1
      obtain ⟨y, h4, h5⟩ := h _ _ _ h3
      exact ⟨y, by rw [h2, h4], h5⟩
    let g : Nat → α := fun i => if h : i < len then Classical.choose (each i h) else default
    have hg : ∀ i, i < len → W.cells? 0 (a.add (i * m)) m = some (f (g i)) ∧ Q (g i) := by
      intro i hi
      simp only [g, dif_pos hi]
      exact Classical.choose_spec (each i hi)
    have hix : ∀ i, i < len → ix ((List.range len).map g) i = g i := fun i hi => by simp [ix, List.getD_eq_getElem?_getD, hi]
    have hgl : ((List.range len).map g).length = len := by simp
    refine ⟨⟨some a, cap, (List.range len).map g⟩, by simp [Slc.val], by simpa using hl, hc, fun hp => ?_, fun y hy => ?_⟩
    · have hp0 : 0 < len := by
        have hp : 0 < (((List.range len).map g).flatMap f).length := hp
        rw [flat_len hf, hgl] at hp
        exact Nat.pos_of_ne_zero fun e => by rw [e, Nat.zero_mul] at hp; exact Nat.lt_irrefl _ hp
      have hs : a.spot = none := by
        obtain ⟨_, h3⟩ := World.cells?_some (hg 0 hp0).1
        have h4 := h3.2 0 h0
        have h5 : (f (g 0))[0]? = some ((f (g 0))[0]'(by rw [hf]; exact h0)) := List.getElem?_eq_getElem _
        rw [h5] at h4
        simpa [Addr.add] using spot_no h4
      obtain ⟨xb, xo, xs⟩ := a
      subst hs
      have hb : xb < W.heap.size := by
        have := World.cells?_block (hg 0 hp0).1 h0
        simpa [Addr.add] using this
      refine ⟨xb, xo, rfl, hb, fun j u hu => ?_⟩
      have hj : j < len * m := by
        have := (List.getElem?_eq_some_iff.1 hu).1
        rwa [flat_len hf, hgl] at this
      have hjm : j = j / m * m + j % m := by rw [Nat.mul_comm]; exact (Nat.div_add_mod j m).symm
      have hi : j / m < len := Nat.div_lt_of_lt_mul (by rwa [Nat.mul_comm] at hj)
      have hr : j % m < m := Nat.mod_lt _ h0
      rw [hjm, flat_get hf _ _ _ (by rw [hgl]; exact hi) hr, hix _ hi] at hu
      obtain ⟨_, h3⟩ := World.cells?_some (hg _ hi).1
      have h4 := h3.2 _ hr
      rw [hu] at h4
      rw [add_plain, add_plain, Nat.add_assoc, ← hjm] at h4
      exact h4
    · obtain ⟨i, hi, rfl⟩ := List.mem_map.1 hy
      exact (hg i (List.mem_range.1 hi)).2
theorem flat_ones {α : Type} (f : α → Value) (l : List α) : l.flatMap (fun x => [f x]) = l.map f := by
  induction l with
  | nil => rfl
  | cons x l ih => rw [List.flatMap_cons, List.map_cons, ih]; rfl
/-- A slice of elements of one cell. -/
theorem Opn.ones {α : Type} [Inhabited α] {f : α → Value} {Q : α → Prop} (ht : P.underlying t = some (.slice e)) (hm : P.cellsOf e = 1) (h : Opn enc P W e (fun x => [f x]) Q) :
    Opn enc P W t (fun s : Slc α => [s.val]) (fun s => s.l.length ≤ s.c ∧ s.c ≤ maxLen ∧ RdV W W.heap.size s.A (s.l.map f) ∧ ∀ a ∈ s.l, Q a) := fun fuel cs x hx => by
  obtain ⟨s, h1, h2, h3, h4, h5⟩ := Opn.slice ht hm (by omega) (fun _ => rfl) h fuel cs x hx
  rw [flat_ones] at h4
  exact ⟨s, h1, h2, h3, h4, h5⟩
theorem OpnF.nil {off : Nat} : OpnF enc P W off [] 0 (fun _ : Unit => []) (fun _ => True) := fun _ _ _ => ⟨(), List.take_zero, trivial⟩
theorem OpnF.cons {off k m : Nat} {f : Field} {fs : List Field} {α β : Type} {e1 : α → List Value} {e2 : β → List Value} {Q1 : α → Prop} {Q2 : β → Prop} (ho : f.offset = off) (hc : P.cellsOf f.type = k) (h : Opn enc P W f.type e1 Q1) (hr : OpnF enc P W (off + k) fs m e2 Q2) :
    OpnF enc P W off (f :: fs) (k + m) (fun p : α × β => e1 p.1 ++ e2 p.2) (fun p => Q1 p.1 ∧ Q2 p.2) := fun n cs hall => by
  obtain ⟨y, hy⟩ := hall f (List.mem_cons_self ..)
  obtain ⟨a, h1, h2⟩ := h _ _ _ hy
  obtain ⟨b, h3, h4⟩ := hr n cs fun g hg => hall g (List.mem_cons_of_mem _ hg)
  refine ⟨(a, b), ?_, h2, h4⟩
  show _ = e1 a ++ e2 b
  rw [List.take_add, List.drop_drop, h3, ← h1, ho, hc]
theorem Opn.struct {fs : Array Field} {m : Nat} {α : Type} {f : α → List Value} {Q : α → Prop} (ht : P.underlying t = some (.struct fs)) (hm : P.cellsOf t = m) (h : OpnF enc P W 0 fs.toList m f Q) : Opn enc P W t f Q := fun fuel cs x hx => by
  obtain ⟨xs, n, _, _, hlen, hxl, hel⟩ := DataW.trod_struct ht hx
  obtain ⟨a, h1, h2⟩ := h n cs fun g hg => by
    obtain ⟨i, hi, he⟩ := List.getElem_of_mem hg
    have hi' : i < fs.size := by simpa using hi
    have := hel i g (by rw [Array.getElem?_eq_getElem hi']; simpa using he)
    rw [List.getElem?_eq_getElem (by omega)] at this
    exact ⟨_, this⟩
  refine ⟨a, ?_, h2⟩
  rw [← h1, List.drop_zero, List.take_of_length_le (by omega)]
theorem Opn.arr8 {n : Nat} (A : ArrKey P t e n) (he : P.underlying e = some (.int .u8)) : Opn enc P W t (fun l : List UInt8 => l.map vU8) (fun l => l.length = n) := fun fuel cs x hx => by
  obtain ⟨zs, h1, _, h3, h4⟩ := arr_ints A he hx
  obtain ⟨l, h5, h6⟩ := u8s zs h4
  exact ⟨l, h1.trans h5, by omega⟩
theorem u64s' : ∀ (zs : List Int), (∀ z ∈ zs, (Lit.int .u64 z).wf = true) → ∃ l : List UInt64, zs.map (Value.int .u64) = l.map vU64 ∧ l.length = zs.length
  | [], _ => ⟨[], rfl, rfl⟩
  | z :: zs, h => by
    obtain ⟨l, h1, h2⟩ := u64s' zs fun y hy => h y (List.mem_cons_of_mem _ hy)
    obtain ⟨b, hb⟩ : ∃ b : UInt64, Value.int .u64 z = vU64 b := by
      have hw := h z (List.mem_cons_self ..)
      simp only [Lit.wf, Bool.and_eq_true, decide_eq_true_eq] at hw
      have hw : 0 ≤ z ∧ z ≤ 18446744073709551615 := hw
      exact ⟨UInt64.ofNat z.toNat, by unfold vU64 n64; rw [UInt64.toNat_ofNat']; congr 1; omega⟩
    exact ⟨b :: l, by rw [List.map_cons, List.map_cons, h1, hb], by simp [h2]⟩
theorem Opn.arr64 {n : Nat} (A : ArrKey P t e n) (he : P.underlying e = some (.int .u64)) : Opn enc P W t (fun l : List UInt64 => l.map vU64) (fun l => l.length = n) := fun fuel cs x hx => by
  obtain ⟨zs, h1, _, h3, h4⟩ := arr_ints A he hx
  obtain ⟨l, h5, h6⟩ := u64s' zs h4
  exact ⟨l, h1.trans h5, by omega⟩
theorem u32s' : ∀ (zs : List Int), (∀ z ∈ zs, (Lit.int .u32 z).wf = true) → ∃ l : List UInt32, zs.map (Value.int .u32) = l.map vU32 ∧ l.length = zs.length
  | [], _ => ⟨[], rfl, rfl⟩
  | z :: zs, h => by
    obtain ⟨l, h1, h2⟩ := u32s' zs fun y hy => h y (List.mem_cons_of_mem _ hy)
    obtain ⟨b, hb⟩ : ∃ b : UInt32, Value.int .u32 z = vU32 b := by
      have hw := h z (List.mem_cons_self ..)
      simp only [Lit.wf, Bool.and_eq_true, decide_eq_true_eq] at hw
      have hw : 0 ≤ z ∧ z ≤ 4294967295 := hw
      exact ⟨UInt32.ofNat z.toNat, by unfold vU32 n32; rw [UInt32.toNat_ofNat']; congr 1; omega⟩
    exact ⟨b :: l, by rw [List.map_cons, List.map_cons, h1, hb], by simp [h2]⟩
theorem Opn.arr32 {n : Nat} (A : ArrKey P t e n) (he : P.underlying e = some (.int .u32)) : Opn enc P W t (fun l : List UInt32 => l.map vU32) (fun l => l.length = n) := fun fuel cs x hx => by
  obtain ⟨zs, h1, _, h3, h4⟩ := arr_ints A he hx
  obtain ⟨l, h5, h6⟩ := u32s' zs h4
  exact ⟨l, h1.trans h5, by omega⟩
theorem Opn.useA {n : Nat} {α : Type} {f : α → List Value} {Q : α → Prop} (h : Opn enc P W t f Q) (A : ArrKey P t e n) {v : Value} {r : Reach} {b : Nat} (hv : Value.okWide P W r b t v) {d : DataW H} {ps : List MemPlace} (hx : DataW.Trod enc P W 0 (fun _ => true) true t v d ps) : ∃ a, v = .agg (f a).toArray ∧ Q a := by
  obtain ⟨cs, rfl, _⟩ := okWide_arr A hv
  obtain ⟨fuel, hf⟩ := hx
  obtain ⟨a, h1, h2⟩ := h _ _ _ hf
  refine ⟨a, ?_, h2⟩
  have h1 : cs.toList = f a := h1
  rw [← h1]
/-- What was handed in. -/
theorem Opn.use {α : Type} {f : α → List Value} {Q : α → Prop} (h : Opn enc P W t f Q) {v : Value} {d : DataW H} {ps : List MemPlace} (hx : DataW.Trod enc P W 0 (fun _ => true) true t v d ps) : ∃ a, v.cells.toList = f a ∧ Q a := by
  obtain ⟨fuel, hf⟩ := hx
  exact h _ _ _ hf
theorem Opn.useS {α : Type} {f : α → List Value} {Q : α → Prop} (h : Opn enc P W t f Q) {fs : Array Field} (ht : P.underlying t = some (.struct fs)) {v : Value} {r : Reach} {b : Nat} (hv : Value.okWide P W r b t v) {d : DataW H} {ps : List MemPlace} (hx : DataW.Trod enc P W 0 (fun _ => true) true t v d ps) : ∃ a, v = .agg (f a).toArray ∧ Q a := by
  obtain ⟨cs, rfl, _⟩ := okWide_struct ht hv
  obtain ⟨a, h1, h2⟩ := h.use hx
  refine ⟨a, ?_, h2⟩
  rw [← h1]
  rfl
theorem Opn.use1 {α : Type} {f : α → Value} {Q : α → Prop} (h : Opn enc P W t (fun a => [f a]) Q) {v : Value} (hn : v.cells.toList = [v]) {d : DataW H} {ps : List MemPlace} (hx : DataW.Trod enc P W 0 (fun _ => true) true t v d ps) : ∃ a, v = f a ∧ Q a := by
  obtain ⟨a, h1, h2⟩ := h.use hx
  rw [hn] at h1
  exact ⟨a, by simpa using h1, h2⟩
theorem Opn.useL {α : Type} {f : α → Value} {Q : α → Prop} (h : Opn enc P W t (fun a => [f a]) Q) (ht : P.underlying t = some (.slice e)) {v : Value} {r : Reach} {b : Nat} (hv : Value.okWide P W r b t v) {d : DataW H} {ps : List MemPlace} (hx : DataW.Trod enc P W 0 (fun _ => true) true t v d ps) : ∃ a, v = f a ∧ Q a := by
  obtain ⟨A, n, c, rfl⟩ := okWide_slice ht hv
  exact h.use1 (by simp [Value.cells]) hx
end
end Go.Proofs.YtombphphaoeeiaaGreatDoor
