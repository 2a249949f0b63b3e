import Derived.Test.YtombphphaoeeiaaGreatDoorOpn
/- What opens arguments, with how long each slice of them may be. No program in sight. -/
namespace Go.Proofs.YtombphphaoeeiaaGreatDoor
open Go.ChangeShapes Go.WideShapes Go.ChangeAt Go.WideMaps Go.WideElems Go.RowKit
section
variable {H : Type} (enc : TypeId × Value → H) (P : Program) (W : World)
def Wgt (t : TypeId) (d : DataW H) : Prop := ∀ n ∈ d.weights P t, n ≤ reachBytes
def OpnW (t : TypeId) {α : Type} (e : α → List Value) (Q : α → Prop) : Prop :=
  ∀ fuel cs x, DataW.trod enc P W 0 (fun _ => true) true fuel t cs = some x → Wgt P t x.1 → ∃ a, cs = e a ∧ Q a
def OpnFW (off : Nat) (fs : List Field) (m : Nat) {α : Type} (e : α → List Value) (Q : α → Prop) : Prop :=
  ∀ (n : Nat) (cs : List Value) (xs : List (DataW H × List MemPlace)), xs.length = fs.length → (∀ (i : Nat) (f : Field), fs[i]? = some f → DataW.trod enc P W 0 (fun _ => true) true n f.type ((cs.drop f.offset).take (P.cellsOf f.type)) = xs[i]?) →
    (∀ k ∈ DataW.weightsEach P (fs.map (·.type)) (xs.map (·.1)), k ≤ reachBytes) → ∃ a, (cs.drop off).take m = e a ∧ Q a
end
section
variable {H : Type} {enc : TypeId × Value → H} {P : Program} {W : World} {t e : TypeId}
theorem Opn.w {α : Type} {f : α → List Value} {Q : α → Prop} (h : Opn enc P W t f Q) : OpnW enc P W t f Q := fun fuel cs x hx _ => h fuel cs x hx
theorem weightsAll_mem {l : List (DataW H)} {d : DataW H} (hd : d ∈ l) {n : Nat} (hn : n ∈ d.weights P e) : n ∈ DataW.weightsAll P e l := by
  induction l with
  | nil => cases hd
  | cons x l ih =>
    rw [DataW.weightsAll]
    rcases List.mem_cons.1 hd with rfl | hd
    · exact List.mem_append_left _ hn
    · exact List.mem_append_right _ (ih hd)
theorem OpnW.slice {α : Type} [Inhabited α] {f : α → List Value} {Q : α → Prop} {m : Nat} (ht : P.underlying t = some (.slice e)) (hm : P.cellsOf e = m) (h0 : 0 < m) (hf : ∀ a, (f a).length = m) (h : OpnW enc P W e f Q) :
    OpnW enc P W t (fun s : Slc α => [s.val]) (fun s => s.l.length ≤ s.c ∧ s.l.length * P.bytesOf e ≤ reachBytes ∧ RdV W W.heap.size s.A (s.l.flatMap f) ∧ ∀ a ∈ s.l, Q a) := fun fuel cs x hx hwg => by
  rcases DataW.trod_slice ht hx with ⟨rfl, _⟩ | ⟨a, len, cap, elems, rest, n, _, rfl, hxe, _, hl, hc, hlen, hel, _, _⟩
  · exact ⟨⟨none, 0, []⟩, rfl, Nat.le_refl _, by simp, RdV.nil_, fun y h => by cases h⟩
  · have hd : x.1 = .slice (elems.map (·.1)) (rest.map (·.1)) := congrArg Prod.fst hxe
    rw [hd] at hwg
    have hws : ∀ k ∈ ((elems.map (·.1)).length + (rest.map (·.1)).length) * P.bytesOf e :: (DataW.weightsAll P e (elems.map (·.1)) ++ DataW.weightsAll P e (rest.map (·.1))), k ≤ reachBytes := fun k hk => hwg k (by unfold DataW.weights; rw [ht]; exact hk)
    have hbl : len * P.bytesOf e ≤ reachBytes := by
      have h1 := hws _ (List.mem_cons_self ..)
      rw [List.length_map, hlen] at h1
      exact Nat.le_trans (Nat.mul_le_mul_right _ (Nat.le_add_right _ _)) h1
    have each : ∀ i, i < len → ∃ y : α, W.cells? 0 (a.add (i * m)) m = some (f y) ∧ Q y := by
      intro i hi
      have h1 := hel i hi
      rw [hm, List.getElem?_eq_getElem (by omega), Option.bind_eq_some_iff] at h1
      obtain ⟨ci, h2, h3⟩ := h1
      obtain ⟨y, h4, h5⟩ := h _ _ _ h3 fun k hk => hws k (List.mem_cons_of_mem _ (List.mem_append_left _ (weightsAll_mem (List.mem_map_of_mem (List.getElem_mem (by omega))) hk)))
      exact ⟨y, by rw [h2, h4], h5⟩
    let g : Nat → α := fun i => if h : i < len then Classical.choose (each i h) else default
    have hg : ∀ i, i < len → W.cells? 0 (a.add (i * m)) m = some (f (g i)) ∧ Q (g i) := by
      intro i hi
      simp only [g, dif_pos hi]
      exact Classical.choose_spec (each i hi)
    have hix : ∀ i, i < len → ix ((List.range len).map g) i = g i := fun i hi => by simp [ix, List.getD_eq_getElem?_getD, hi]
    have hgl : ((List.range len).map g).length = len := by simp
    refine ⟨⟨some a, cap, (List.range len).map g⟩, by simp [Slc.val], by simpa using hl, by rw [hgl]; exact hbl, fun hp => ?_, fun y hy => ?_⟩
    · have hp0 : 0 < len := by
        have hp : 0 < (((List.range len).map g).flatMap f).length := hp
        rw [flat_len hf, hgl] at hp
        exact Nat.pos_of_ne_zero fun e => by rw [e, Nat.zero_mul] at hp; exact Nat.lt_irrefl _ hp
      have hs : a.spot = none := by
        obtain ⟨_, h3⟩ := World.cells?_some (hg 0 hp0).1
        have h4 := h3.2 0 h0
        have h5 : (f (g 0))[0]? = some ((f (g 0))[0]'(by rw [hf]; exact h0)) := List.getElem?_eq_getElem _
        rw [h5] at h4
        simpa [Addr.add] using spot_no h4
      obtain ⟨xb, xo, xs⟩ := a
      subst hs
      have hb : xb < W.heap.size := by
        have := World.cells?_block (hg 0 hp0).1 h0
        simpa [Addr.add] using this
      refine ⟨xb, xo, rfl, hb, fun j u hu => ?_⟩
      have hj : j < len * m := by
        have := (List.getElem?_eq_some_iff.1 hu).1
        rwa [flat_len hf, hgl] at this
      have hjm : j = j / m * m + j % m := by rw [Nat.mul_comm]; exact (Nat.div_add_mod j m).symm
      have hi : j / m < len := Nat.div_lt_of_lt_mul (by rwa [Nat.mul_comm] at hj)
      have hr : j % m < m := Nat.mod_lt _ h0
      rw [hjm, flat_get hf _ _ _ (by rw [hgl]; exact hi) hr, hix _ hi] at hu
      obtain ⟨_, h3⟩ := World.cells?_some (hg _ hi).1
      have h4 := h3.2 _ hr
      rw [hu] at h4
      rw [add_plain, add_plain, Nat.add_assoc, ← hjm] at h4
      exact h4
    · obtain ⟨i, hi, rfl⟩ := List.mem_map.1 hy
      exact (hg i (List.mem_range.1 hi)).2
theorem OpnW.ones {α : Type} [Inhabited α] {f : α → Value} {Q : α → Prop} (ht : P.underlying t = some (.slice e)) (hm : P.cellsOf e = 1) (h : OpnW enc P W e (fun x => [f x]) Q) :
    OpnW enc P W t (fun s : Slc α => [s.val]) (fun s => s.l.length ≤ s.c ∧ s.l.length * P.bytesOf e ≤ reachBytes ∧ RdV W W.heap.size s.A (s.l.map f) ∧ ∀ a ∈ s.l, Q a) := fun fuel cs x hx hw => by
  obtain ⟨s, h1, h2, h3, h4, h5⟩ := OpnW.slice ht hm (by omega) (fun _ => rfl) h fuel cs x hx hw
  rw [flat_ones] at h4
  exact ⟨s, h1, h2, h3, h4, h5⟩
theorem OpnFW.nil {off : Nat} : OpnFW enc P W off [] 0 (fun _ : Unit => []) (fun _ => True) := fun _ _ _ _ _ _ => ⟨(), List.take_zero, trivial⟩
theorem OpnFW.cons {off k m : Nat} {f : Field} {fs : List Field} {α β : Type} {e1 : α → List Value} {e2 : β → List Value} {Q1 : α → Prop} {Q2 : β → Prop} (ho : f.offset = off) (hc : P.cellsOf f.type = k) (h : OpnW enc P W f.type e1 Q1) (hr : OpnFW enc P W (off + k) fs m e2 Q2) :
    OpnFW enc P W off (f :: fs) (k + m) (fun p : α × β => e1 p.1 ++ e2 p.2) (fun p => Q1 p.1 ∧ Q2 p.2) := fun n cs xs hlen hall hw => by
  rcases xs with _ | ⟨x, xs⟩
  · simp at hlen
  have hw : ∀ k ∈ x.1.weights P f.type ++ DataW.weightsEach P (fs.map (·.type)) (xs.map (·.1)), k ≤ reachBytes := fun k hk => hw k (by rw [List.map_cons, List.map_cons, DataW.weightsEach]; exact hk)
  obtain ⟨a, h1, h2⟩ := h _ _ _ (hall 0 f rfl) fun k hk => hw k (List.mem_append_left _ hk)
  obtain ⟨b, h3, h4⟩ := hr n cs xs (by simpa using hlen) (fun i g hg => hall (i + 1) g hg) fun k hk => hw k (List.mem_append_right _ hk)
  refine ⟨(a, b), ?_, h2, h4⟩
  show _ = e1 a ++ e2 b
  rw [List.take_add, List.drop_drop, h3, ← h1, ho, hc]
theorem OpnW.struct {fs : Array Field} {m : Nat} {α : Type} {f : α → List Value} {Q : α → Prop} (ht : P.underlying t = some (.struct fs)) (hm : P.cellsOf t = m) (h : OpnFW enc P W 0 fs.toList m f Q) : OpnW enc P W t f Q := fun fuel cs x hx hw => by
  obtain ⟨xs, n, _, hxe, hlen, hxl, hel⟩ := DataW.trod_struct ht hx
  have hd : x.1 = .agg (xs.map (·.1)) := congrArg Prod.fst hxe
  rw [hd] at hw
  obtain ⟨a, h1, h2⟩ := h n cs xs (by simpa using hxl) (fun i g hg => hel i g (by simpa using hg)) fun k hk => hw k (by unfold DataW.weights; rw [ht]; exact hk)
  refine ⟨a, ?_, h2⟩
  rw [← h1, List.drop_zero, List.take_of_length_le (by omega)]
theorem OpnW.useS {α : Type} {f : α → List Value} {Q : α → Prop} (h : OpnW enc P W t f Q) {fs : Array Field} (ht : P.underlying t = some (.struct fs)) {v : Value} {r : Reach} {b : Nat} (hv : Value.okWide P W r b t v) {d : DataW H} {ps : List MemPlace} (hx : DataW.Trod enc P W 0 (fun _ => true) true t v d ps) (hw : ∀ n ∈ d.weights P t, n ≤ reachBytes) : ∃ a, v = .agg (f a).toArray ∧ Q a := by
  obtain ⟨cs, rfl, _⟩ := okWide_struct ht hv
  obtain ⟨fuel, hf⟩ := hx
  obtain ⟨a, h1, h2⟩ := h _ _ _ hf hw
  refine ⟨a, ?_, h2⟩
  rw [← h1]
  rfl
theorem OpnW.useL {α : Type} {f : α → Value} {Q : α → Prop} (h : OpnW enc P W t (fun a => [f a]) Q) (ht : P.underlying t = some (.slice e)) {v : Value} {r : Reach} {b : Nat} (hv : Value.okWide P W r b t v) {d : DataW H} {ps : List MemPlace} (hx : DataW.Trod enc P W 0 (fun _ => true) true t v d ps) (hw : ∀ n ∈ d.weights P t, n ≤ reachBytes) : ∃ a, v = f a ∧ Q a := by
  obtain ⟨A, n, c, rfl⟩ := okWide_slice ht hv
  obtain ⟨fuel, hf⟩ := hx
  obtain ⟨a, h1, h2⟩ := h _ _ _ hf hw
  refine ⟨a, ?_, h2⟩
  have h1 : (Value.slice A n c).cells.toList = [f a] := h1
  have h3 : (Value.slice A n c).cells.toList = [.slice A n c] := by simp [Value.cells]
  rw [h3] at h1
  simpa using h1
end
end Go.Proofs.YtombphphaoeeiaaGreatDoor
