import Derived.Test.YtombphphaoeeiaaGreatDoorSetA
/- Rows that are hidden: what is plain of them. No program in sight. -/
namespace Go.Proofs.YtombphphaoeeiaaGreatDoor
open Go.RowKit
set_option linter.unusedSimpArgs false
/-! ### What a seed adds -/
def ownS : ByteArray := { data := #[111, 119, 110] }
theorem ownS_ok : labOk ownS = true := by decide +kernel
def ownW (seed : UInt64) (d : Nat) : List UInt32 := wTo seed ownS.data.toList d
theorem ownW_length (seed : UInt64) (d : Nat) : (ownW seed d).length = d := wTo_length _ _ _
theorem ownLit : ({ data := #[111, 119, 110] } : ByteArray) = ownS := rfl
theorem own_wOk (d : Nat) (h : d ≤ 32) : wOk ownS (d : Int) 32 = true := wOk_yes ownS_ok (by omega) (by omega)
theorem own_wOut (x : UInt64) (d : Nat) (h : d ≤ 32) : wOut x ownS (d : Int) = ownW x d := by rw [wOut_yes (own_wOk d h), Int.toNat_natCast]; rfl
/-! ### Peers, once more -/
def pOk (p : Pr) : Prop := 0 ≤ p.1 ∧ p.1 < 64 ∧ p.2 ≠ 0 ∧ p.2 < fpP
theorem may_pw {l : List Pr} : may l = true ↔ l.Pairwise (fun p q => p.1 < q.1) ∧ ∀ p ∈ l, pOk p := by
  rw [may_iff]
  constructor
  · intro h
    have step : ∀ j, j < l.length → ∀ i, i < j → (ix l i).1 < (ix l j).1 := by
      intro j
      induction j with
      | zero => intro _ i hi; omega
      | succ j ih =>
        intro hj i hi
        have h1 := (h (j + 1) hj).1
        rw [lastP_succ] at h1
        by_cases e : i = j
        · subst e; exact h1
        · have := ih (by omega) i (by omega); omega
    refine ⟨List.pairwise_iff_getElem.2 fun i j hi hj hij => ?_, fun p hp => ?_⟩
    · have := step j hj i hij
      simpa only [ix, List.getD_eq_getElem?_getD, List.getElem?_eq_getElem hi, List.getElem?_eq_getElem hj, Option.getD_some] using this
    · obtain ⟨i, hi, rfl⟩ := mem_ix hp
      obtain ⟨h1, h2, h3, h4⟩ := h i hi
      have := lastP_ge i fun j hj => h j (by omega)
      exact ⟨by omega, h2, h3, h4⟩
  · rintro ⟨h1, h2⟩ i hi
    obtain ⟨h3, h4, h5, h6⟩ := h2 _ (ix_mem hi)
    refine ⟨?_, h4, h5, h6⟩
    cases i with
    | zero => rw [lastP_zero]; omega
    | succ i =>
      rw [lastP_succ]
      have := List.pairwise_iff_getElem.1 h1 i (i + 1) (by omega) hi (by omega)
      simpa only [ix, List.getD_eq_getElem?_getD, List.getElem?_eq_getElem (show i < l.length by omega), List.getElem?_eq_getElem hi, Option.getD_some] using this
theorem may_filter {l : List Pr} (h : may l = true) (p : Pr → Bool) : may (l.filter p) = true := by
  obtain ⟨h1, h2⟩ := may_pw.1 h
  exact may_pw.2 ⟨h1.filter p, fun q hq => h2 q (List.mem_filter.1 hq).1⟩
theorem foundTo_iff {me : Int} {l : List Pr} : ∀ {i : Nat}, i ≤ l.length → (foundTo me l i = true ↔ ∃ k, k < i ∧ (ix l k).1 = me)
  | 0, _ => by rw [foundTo_zero]; exact ⟨fun h => by simp at h, fun ⟨k, hk, _⟩ => by omega⟩
  | i + 1, hi => by
    have ih := foundTo_iff (me := me) (l := l) (i := i) (by omega)
    by_cases e : (ix l i).1 = me
    · rw [foundTo_yes e]
      exact ⟨fun _ => ⟨i, by omega, e⟩, fun _ => rfl⟩
    · rw [foundTo_no e, ih]
      constructor
      · rintro ⟨k, h1, h2⟩
        exact ⟨k, by omega, h2⟩
      · rintro ⟨k, h1, h2⟩
        refine ⟨k, ?_, h2⟩
        by_cases e2 : k = i
        · subst e2; exact absurd h2 e
        · omega
theorem found_mem {l : List Pr} {p : Pr} (h : p ∈ l) : foundTo p.1 l l.length = true := by
  obtain ⟨i, hi, rfl⟩ := mem_ix h
  exact (foundTo_iff (Nat.le_refl _)).2 ⟨i, hi, rfl⟩
/-! ### Who came -/
def lastI (l : List Int) : Nat → Int
  | 0 => -1
  | i + 1 => ix l i
theorem lastI_zero (l : List Int) : lastI l 0 = -1 := rfl
theorem lastI_succ (l : List Int) (i : Nat) : lastI l (i + 1) = ix l i := rfl
/-- Does somebody have this number? -/
def hasId (l : List Pr) (n : Int) : Bool := l.any fun p => decide (p.1 = n)
theorem hasId_iff {l : List Pr} {n : Int} : hasId l n = true ↔ ∃ i, i < l.length ∧ (ix l i).1 = n := by
  unfold hasId
  rw [List.any_eq_true]
  constructor
  · rintro ⟨p, hp, h⟩
    obtain ⟨i, hi, rfl⟩ := mem_ix hp
    exact ⟨i, hi, of_decide_eq_true h⟩
  · rintro ⟨i, hi, h⟩
    exact ⟨_, ix_mem hi, decide_eq_true h⟩
def amGood (came : List Int) (l : List Pr) (i : Nat) : Bool := decide (lastI came i < ix came i) && hasId l (ix came i)
def among (came : List Int) (l : List Pr) : Bool := (List.range came.length).all fun i => amGood came l i
theorem among_iff {came : List Int} {l : List Pr} : among came l = true ↔ ∀ i, i < came.length → amGood came l i = true := by
  unfold among; simp [List.all_eq_true]
theorem among_no {came : List Int} {l : List Pr} {i : Nat} (hi : i < came.length) (h : amGood came l i = false) : among came l = false := by
  cases e : among came l
  · rfl
  · rw [among_iff.1 e i hi] at h; cases h
theorem among_mem {came : List Int} {l : List Pr} (h : among came l = true) {n : Int} (hn : n ∈ came) : hasId l n = true := by
  obtain ⟨i, hi, rfl⟩ := mem_ix hn
  have := among_iff.1 h i hi
  unfold amGood at this
  simp only [Bool.and_eq_true] at this
  exact this.2
def gvGood (came : List Int) (l : List Pr) (sf kf : Int → Option UInt64) (i : Nat) : Bool := if isIn came (ix l i).1 = true then (sf (ix l i).1).isSome else (kf (ix l i).1).isSome
def given (came : List Int) (l : List Pr) (sf kf : Int → Option UInt64) : Bool := (List.range l.length).all fun i => gvGood came l sf kf i
theorem given_iff {came : List Int} {l : List Pr} {sf kf : Int → Option UInt64} : given came l sf kf = true ↔ ∀ i, i < l.length → gvGood came l sf kf i = true := by
  unfold given; simp [List.all_eq_true]
theorem given_no {came : List Int} {l : List Pr} {sf kf : Int → Option UInt64} {i : Nat} (hi : i < l.length) (h : gvGood came l sf kf i = false) : given came l sf kf = false := by
  cases e : given came l sf kf
  · rfl
  · rw [given_iff.1 e i hi] at h; cases h
theorem given_seed {came : List Int} {l : List Pr} {sf kf : Int → Option UInt64} (h : given came l sf kf = true) (ha : among came l = true) {i : Nat} (hi : i < came.length) : ∃ v, sf (ix came i) = some v := by
  obtain ⟨k, hk, e⟩ := hasId_iff.1 (among_mem ha (ix_mem hi))
  have := given_iff.1 h k hk
  unfold gvGood at this
  rw [e, if_pos (isIn_iff.2 (ix_mem hi))] at this
  exact Option.isSome_iff_exists.1 this
theorem given_key {came : List Int} {l : List Pr} {sf kf : Int → Option UInt64} (h : given came l sf kf = true) {i : Nat} (hi : i < l.length) (hn : isIn came (ix l i).1 = false) : ∃ v, kf (ix l i).1 = some v := by
  have := given_iff.1 h i hi
  unfold gvGood at this
  rw [hn] at this
  exact Option.isSome_iff_exists.1 this
/-! ### What hides the sum -/
def ocTo (d : Nat) (f : Int → UInt64) (came : List Int) : Nat → List UInt32
  | 0 => List.replicate d 0
  | i + 1 => opTo (· + ·) (ocTo d f came i) (ownW (f (ix came i)) d) d
theorem ocTo_zero (d : Nat) (f : Int → UInt64) (came : List Int) : ocTo d f came 0 = List.replicate d 0 := rfl
theorem ocTo_succ (d : Nat) (f : Int → UInt64) (came : List Int) (i : Nat) : ocTo d f came (i + 1) = opTo (· + ·) (ocTo d f came i) (ownW (f (ix came i)) d) d := rfl
theorem ocTo_length (d : Nat) (f : Int → UInt64) (came : List Int) (i : Nat) : (ocTo d f came i).length = d := by
  cases i with
  | zero => simp [ocTo]
  | succ i => rw [ocTo_succ, opTo_length]
def withB (came : List Int) (one p : Pr) : Bool := decide (p = one) || isIn came p.1
def withTo (one : Pr) (came : List Int) (l : List Pr) (i : Nat) : List Pr := (l.take i).filter (withB came one)
def withL (one : Pr) (came : List Int) (l : List Pr) : List Pr := l.filter (withB came one)
theorem withTo_zero (one : Pr) (came : List Int) (l : List Pr) : withTo one came l 0 = [] := rfl
theorem withTo_yes {one : Pr} {came : List Int} {l : List Pr} {i : Nat} (hi : i < l.length) (h : withB came one (ix l i) = true) : withTo one came l (i + 1) = withTo one came l i ++ [ix l i] := by
  unfold withTo
  rw [take_ix _ _ hi, List.filter_append]
  simp [List.filter, h]
theorem withTo_no {one : Pr} {came : List Int} {l : List Pr} {i : Nat} (hi : i < l.length) (h : withB came one (ix l i) = false) : withTo one came l (i + 1) = withTo one came l i := by
  unfold withTo
  rw [take_ix _ _ hi, List.filter_append]
  simp [List.filter, h]
theorem withTo_all (one : Pr) (came : List Int) (l : List Pr) : withTo one came l l.length = withL one came l := by unfold withTo withL; rw [List.take_length]
theorem withTo_length (one : Pr) (came : List Int) (l : List Pr) (i : Nat) : (withTo one came l i).length ≤ i := by
  unfold withTo
  exact Nat.le_trans (List.length_filter_le _ _) (by rw [List.length_take]; omega)
theorem withL_ok {l : List Pr} {came : List Int} {i d : Nat} (h : may l = true) (hi : i < l.length) (hd : d ≤ 32) : prOk (ix l i).1 (withL (ix l i) came l) d = true :=
  prOk_of d (may_filter h _) hd (found_mem (List.mem_filter.2 ⟨ix_mem hi, by simp [withB]⟩))
def hidW (came : List Int) (l : List Pr) (d : Nat) (f : Int → UInt64) (i : Nat) : List UInt32 := pairTo (ix l i).1 (f (ix l i).1) (withL (ix l i) came l) d (withL (ix l i) came l).length
theorem hidW_length (came : List Int) (l : List Pr) (d : Nat) (f : Int → UInt64) (i : Nat) : (hidW came l d f i).length = d := pairTo_length _ _ _ _ _
theorem hidW_out {l : List Pr} {came : List Int} {i d : Nat} (f : Int → UInt64) (h : may l = true) (hi : i < l.length) (hd : d ≤ 32) : prOut (ix l i).1 (f (ix l i).1) (withL (ix l i) came l) d = hidW came l d f i := prTo_eq (withL_ok h hi hd)
def soTo (d : Nat) (f : Int → UInt64) (came : List Int) (l : List Pr) (s : List UInt32) : Nat → List UInt32
  | 0 => s
  | i + 1 => if isIn came (ix l i).1 = true then soTo d f came l s i else opTo (· - ·) (soTo d f came l s i) (hidW came l d f i) d
theorem soTo_zero (d : Nat) (f : Int → UInt64) (came : List Int) (l : List Pr) (s : List UInt32) : soTo d f came l s 0 = s := rfl
theorem soTo_in {d : Nat} {f : Int → UInt64} {came : List Int} {l : List Pr} {s : List UInt32} {i : Nat} (h : isIn came (ix l i).1 = true) : soTo d f came l s (i + 1) = soTo d f came l s i := by simp only [soTo, h, if_true]
theorem soTo_out {d : Nat} {f : Int → UInt64} {came : List Int} {l : List Pr} {s : List UInt32} {i : Nat} (h : isIn came (ix l i).1 = false) : soTo d f came l s (i + 1) = opTo (· - ·) (soTo d f came l s i) (hidW came l d f i) d := by simp only [soTo, h, Bool.false_eq_true, if_false]
theorem soTo_length {d : Nat} {f : Int → UInt64} {came : List Int} {l : List Pr} {s : List UInt32} (hs : s.length = d) (i : Nat) : (soTo d f came l s i).length = d := by
  induction i with
  | zero => exact hs
  | succ i ih =>
    cases h : isIn came (ix l i).1
    · rw [soTo_out h, opTo_length]
    · rw [soTo_in h, ih]
def fd (f : Int → Option UInt64) (n : Int) : UInt64 := (f n).getD 0
theorem fd_some {f : Int → Option UInt64} {n : Int} {v : UInt64} (h : f n = some v) : fd f n = v := by unfold fd; rw [h]; rfl
def opnVal (came : List Int) (l : List Pr) (sf kf : Int → Option UInt64) (d : Nat) : List UInt32 := soTo d (fd kf) came l (ocTo d (fd sf) came came.length) l.length
theorem opnVal_eq (came : List Int) (l : List Pr) (sf kf : Int → Option UInt64) (d : Nat) : soTo d (fd kf) came l (ocTo d (fd sf) came came.length) l.length = opnVal came l sf kf d := rfl
theorem opnVal_length (came : List Int) (l : List Pr) (sf kf : Int → Option UInt64) (d : Nat) : (opnVal came l sf kf d).length = d := soTo_length (ocTo_length _ _ _ _) _
def opnNum (came : List Int) (l : List Pr) (sf kf : Int → Option UInt64) (dim : Int) : Int := if (zOk dim && may l && among came l) = true then (if given came l sf kf = true then 0 else 6) else 1
def opnOut (came : List Int) (l : List Pr) (sf kf : Int → Option UInt64) (dim : Int) : List UInt32 := if opnNum came l sf kf dim = 0 then opnVal came l sf kf dim.toNat else []
section
variable {came : List Int} {l : List Pr} {sf kf : Int → Option UInt64} {dim : Int}
theorem opnNum_dim (h : zOk dim = false) : opnNum came l sf kf dim = 1 := by unfold opnNum; simp [h]
theorem opnNum_may (h : may l = false) : opnNum came l sf kf dim = 1 := by unfold opnNum; simp [h]
theorem opnNum_among (h : among came l = false) : opnNum came l sf kf dim = 1 := by unfold opnNum; simp [h]
theorem opnNum_given (h1 : zOk dim = true) (h2 : may l = true) (h3 : among came l = true) (h4 : given came l sf kf = false) : opnNum came l sf kf dim = 6 := by unfold opnNum; simp [h1, h2, h3, h4]
theorem opnNum_yes (h1 : zOk dim = true) (h2 : may l = true) (h3 : among came l = true) (h4 : given came l sf kf = true) : opnNum came l sf kf dim = 0 := by unfold opnNum; simp [h1, h2, h3, h4]
theorem opnOut_no (h : ¬ opnNum came l sf kf dim = 0) : opnOut came l sf kf dim = [] := by unfold opnOut; rw [if_neg h]
theorem opnOut_yes (h : opnNum came l sf kf dim = 0) : opnOut came l sf kf dim = opnVal came l sf kf dim.toNat := by unfold opnOut; rw [if_pos h]
end
/-! ### A row that is hidden -/
def brOk (me : Int) (l : List Pr) (d : Nat) : Bool := decide (d ≤ 32) && prOk me l d
def brOut (x : List UInt32) (me : Int) (seed key : UInt64) (l : List Pr) : List UInt32 := if brOk me l x.length = true then sumR x.length [x, ownW seed x.length, prOut me key l x.length] 3 else []
/-! ### Numbers of clients, as a map -/
def findTo (l : List Pr) (id : Int) : Nat → Option UInt64
  | 0 => none
  | i + 1 => if (ix l i).1 = id then some (ix l i).2 else findTo l id i
theorem lookI_putI (m : List (Int × Sc)) (i k : Int) (x : Sc) : lookI (putI m i x) k = if i = k then some x else lookI m k := by
  induction m with
  | nil => simp [putI, lookI]
  | cons p m ih =>
    by_cases hp : p.1 = i
    · by_cases hk : i = k
      · simp [putI, lookI, hp, hk]
      · simp [putI, lookI, hp, hk]
    · by_cases hk : p.1 = k
      · have : ¬ i = k := fun e => hp (hk.trans e.symm)
        simp only [putI, if_neg hp, lookI, if_pos hk, if_neg this]
      · simp only [putI, if_neg hp, lookI, if_neg hk, ih]
def numTo (l : List Pr) : Nat → List (Int × Sc)
  | 0 => []
  | i + 1 => putI (numTo l i) (ix l i).1 (.a (.v (vU64 (ix l i).2)))
theorem putI_bnd {m : List (Int × Sc)} {n : Nat} {i : Int} {x : Sc} (h : ∀ p ∈ m, Sc.bnd n p.2) (hx : x.bnd n) : ∀ p ∈ putI m i x, Sc.bnd n p.2 := by
  induction m with
  | nil => intro p hp; simp only [putI, List.mem_singleton] at hp; subst hp; exact hx
  | cons q m ih =>
    intro p hp
    simp only [putI] at hp
    split at hp
    · rcases List.mem_cons.1 hp with rfl | hp
      · exact hx
      · exact h p (List.mem_cons_of_mem _ hp)
    · rcases List.mem_cons.1 hp with rfl | hp
      · exact h _ (List.mem_cons_self ..)
      · exact ih (fun p hp => h p (List.mem_cons_of_mem _ hp)) p hp
theorem putI_ren (ρ : List Nat) (m : List (Int × Sc)) (i : Int) (x : Sc) : (putI m i x).map (fun p => (p.1, p.2.ren ρ)) = putI (m.map fun p => (p.1, p.2.ren ρ)) i (x.ren ρ) := by
  induction m with
  | nil => rfl
  | cons q m ih =>
    simp only [putI, List.map_cons]
    split
    · rfl
    · rw [List.map_cons, ih]
/-- A map of numbers, as it lies there. -/
structure RawU (w : World) (x : Value) (f : Int → Option UInt64) : Prop where
  raw : RawM w No .i64 x
  look : ∀ i, lookX w x i = (f i).map vU64
theorem rawU_later {w0 w : World} {γ : List Nm} {hp : List Res} {x : Value} {f : Int → Option UInt64} (h : RawU w0 x f) (hS : Sat w0 No γ hp w) : RawU w x f := by
  obtain ⟨h1, h2⟩ := h
  rcases h1 with rfl | ⟨g, es, c, rfl, h3, h4, h5⟩
  · exact ⟨.inl rfl, h2⟩
  · have h6 : w.heap[g]? = some (.map es c) := (hS.keeps.block g (lt_heap h3) h4).trans h3
    refine ⟨.inr ⟨g, es, c, rfl, h6, h4, h5⟩, fun i => ?_⟩
    rw [← h2 i]
    simp only [lookX, mapEs, h6, h3]
def ShowsM (w0 : World) (ow : Nat → Prop) (hp : List Res) (sv : Sv) (f : Int → Option UInt64) : Prop := ∀ γ w, Sat w0 ow γ hp w → RawU w (sv.val γ) f
theorem lookE_mpE {γ : List Nm} {q : IntKind} (l : List (Int × Sc)) (i : Int) : lookE (mpE γ q l) i = (lookI l i).map (Sc.val γ) := by
  induction l with
  | nil => rfl
  | cons p l ih =>
    show lookE ((Value.int q p.1, p.2.val γ) :: mpE γ q l) i = _
    by_cases h : p.1 = i
    · simp [lookE, lookI, h]
    · simp only [lookE, lookI, if_neg h, ih]
theorem showsM_mp {w0 : World} {ow : Nat → Prop} {hp : List Res} {k : Nat} {m : List (Int × Sc)} {f : Int → Option UInt64} (hr : hp[k]? = some (.mp .i64 m)) (hf : ∀ i, lookI m i = (f i).map fun v => .a (.v (vU64 v))) : ShowsM w0 ow hp (.x (.a (.o k))) f := fun γ w hS => by
  obtain ⟨_, g, es, h1, h2, _, h3⟩ := hS.holds k _ hr
  have hv : (Sv.x (.a (.o k))).val γ = .map (some g) := h1
  rw [hv]
  refine ⟨.inr ⟨g, es, es.size, rfl, h2, fun h => h, fun e he => ?_⟩, fun i => ?_⟩
  · have : (e.key, e.val) ∈ mpE γ .i64 m := by rw [← h3]; exact List.mem_map.2 ⟨e, he, rfl⟩
    obtain ⟨p, _, hp⟩ := List.mem_map.1 this
    exact ⟨p.1, (congrArg Prod.fst hp).symm⟩
  · unfold lookX mapEs
    simp only [h2, h3]
    rw [lookE_mpE, hf i]
    cases f i <;> rfl
end Go.Proofs.YtombphphaoeeiaaGreatDoor
