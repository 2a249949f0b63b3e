/- The engine: small rules for simp. No program in sight. -/
import Derived.Test.YtkchdhkpjnnliaaDoorEf
namespace Go.Proofs.YtkchdhkpjnnliaaDoor
open Go.RowKit
theorem toU8_n8 (x : UInt8) : toU8 (n8 x) = x := by unfold toU8 n8; simp
theorem toU32_n32 (x : UInt32) : toU32 (n32 x) = x := by unfold toU32 n32; simp
theorem toU64_n64 (x : UInt64) : toU64 (n64 x) = x := by unfold toU64 n64; simp
theorem inU8_n8 (x : UInt8) : inU8 (n8 x) = True := by have := n8_bd x; unfold inU8; simp; omega
theorem inU32_n32 (x : UInt32) : inU32 (n32 x) = True := by have := n32_bd x; unfold inU32; simp; omega
theorem inU64_n64 (x : UInt64) : inU64 (n64 x) = True := by have := n64_bd x; unfold inU64; simp; omega
theorem toU8_lit (c : Nat) : toU8 (no_index (OfNat.ofNat c)) = OfNat.ofNat c := rfl
theorem toU32_lit (c : Nat) : toU32 (no_index (OfNat.ofNat c)) = OfNat.ofNat c := rfl
theorem toU64_lit (c : Nat) : toU64 (no_index (OfNat.ofNat c)) = OfNat.ofNat c := rfl
theorem inU8_lit (c : Nat) : inU8 (no_index (OfNat.ofNat c)) = (c < 256) := by unfold inU8; show (0 ≤ (c : Int) ∧ (c : Int) < 256) = _; apply propext; omega
theorem inU32_lit (c : Nat) : inU32 (no_index (OfNat.ofNat c)) = (c < 4294967296) := by unfold inU32; show (0 ≤ (c : Int) ∧ (c : Int) < 4294967296) = _; apply propext; omega
theorem inU64_lit (c : Nat) : inU64 (no_index (OfNat.ofNat c)) = (c < 18446744073709551616) := by unfold inU64; show (0 ≤ (c : Int) ∧ (c : Int) < 18446744073709551616) = _; apply propext; omega
theorem ite_litT {α : Sort _} (a b : α) : (if (true = true) then a else b) = a := rfl
theorem ite_litF {α : Sort _} (a b : α) : (if (false = true) then a else b) = b := rfl

/-! ### The beginnings and ends of calls -/
def No : Nat → Prop := fun _ => False
theorem keeps_below {w w' : World} (h : Keeps No w w') : Below w.heap.size w w' := h.below (Nat.le_refl _) (fun _ h => h.elim)
section
variable {P : Program} {n : Nat} {f : FuncId} {fn : Func} {c : Code} {w : World}
/-- A call that takes what it reads as it stands, and hands back a value. -/
theorem calls_v (hf : P.funcs[f]? = some fn) (hb : fn.body = some c) (hn : fn.ntmps = n) (svs : List Sv) (hl : svs.length ≤ n) (sv0 : Sv) {v : Value} (hv : ∀ γ, sv0.val γ = v)
    (h : symC P w No n c ⟨argFr 0 svs, []⟩ (Fin P w No fn.results.toList (fun sv _ => sv = sv0))) : Calls P f (svs.map (Sv.val [])).toArray w fun e w' => e = .returned v ∧ Below w.heap.size w w' :=
  calls_sym hf hb hn svs (Sat.init w No) hl (fun sv _ => sv = sv0) (fun γ sv hp' w' hS hT => ⟨by rw [hT, hv], keeps_below hS.keeps⟩) h
/-- What is handed back is a slice of the call's own. -/
def ownT (e : TypeId) (c : Cont) : Sv → List Res → Prop
  | .x (.a (.o k)), hp => hp[k]? = some (.own e c)
  | .x (.a (.v (.slice none m cap))), _ => m = 0 ∧ cap = 0 ∧ c.len = 0
  | _, _ => False
theorem Own.rebase {w : World} {b : Nat} {e : TypeId} {v : Value} {vs : List Value} (h : Own w 0 e v vs) (hb : ∀ n, v.ownBlock = some n → b ≤ n) : Own w b e v vs :=
  ⟨h.1, h.2.imp id fun ⟨g, cap, cur, h1, _, h3⟩ => ⟨g, cap, cur, h1, hb g (by rw [h1]; rfl), h3⟩⟩
theorem ownT_spec {ow : Nat → Prop} {w0 : World} {γ : List Nm} {hp : List Res} {e : TypeId} {c : Cont} {sv : Sv} (hS : Sat w0 ow γ hp w) (h : ownT e c sv hp) : Own w 0 e (sv.val γ) (c.vals γ) ∧ ∀ n, (sv.val γ).ownBlock = some n → Owned w0 ow n := by
  unfold ownT at h
  split at h
  · exact ⟨(hS.own h).2, fun n hn => (hS.mine _ _ n h hn).1⟩
  · obtain ⟨rfl, rfl, h0⟩ := h
    rw [show c.vals γ = [] from List.eq_nil_of_length_eq_zero (by rw [Cont.len_vals, h0])]
    exact ⟨Own.nil_ _ _ _, fun n hn => by simp [Sv.val, Sc.val, At.val, Value.ownBlock] at hn⟩
  · exact h.elim
theorem calls_own (hf : P.funcs[f]? = some fn) (hb : fn.body = some c) (hn : fn.ntmps = n) (svs : List Sv) (hl : svs.length ≤ n) (e : TypeId) (k : Cont) {vs : List Value} (hv : ∀ γ, k.vals γ = vs)
    (h : symC P w No n c ⟨argFr 0 svs, []⟩ (Fin P w No fn.results.toList (ownT e k))) : Calls P f (svs.map (Sv.val [])).toArray w fun en w' => ∃ v', en = .returned v' ∧ Own w' w.heap.size e v' vs ∧ Below w.heap.size w w' :=
  calls_sym hf hb hn svs (Sat.init w No) hl (ownT e k) (fun γ sv hp' w' hS hT => by
    obtain ⟨h1, h2⟩ := ownT_spec hS hT
    rw [hv] at h1
    exact ⟨_, rfl, h1.rebase fun n hn => (h2 n hn).resolve_left id, keeps_below hS.keeps⟩) h
/-- The same, and something beside it. -/
def ownT2 (e : TypeId) (c : Cont) (y : Value) : Sv → List Res → Prop
  | .t [.a x, .a (.v z)], hp => ownT e c (.x (.a x)) hp ∧ z = y
  | _, _ => False
theorem calls_own2 (hf : P.funcs[f]? = some fn) (hb : fn.body = some c) (hn : fn.ntmps = n) (svs : List Sv) (hl : svs.length ≤ n) (e : TypeId) (k : Cont) (y : Value) {vs : List Value} (hv : ∀ γ, k.vals γ = vs)
    (h : symC P w No n c ⟨argFr 0 svs, []⟩ (Fin P w No fn.results.toList (ownT2 e k y))) : Calls P f (svs.map (Sv.val [])).toArray w fun en w' => ∃ v', en = .returned (.tuple #[v', y]) ∧ Own w' w.heap.size e v' vs ∧ Below w.heap.size w w' :=
  calls_sym hf hb hn svs (Sat.init w No) hl (ownT2 e k y) (fun γ sv hp' w' hS hT => by
    unfold ownT2 at hT
    split at hT
    · obtain ⟨h0, rfl⟩ := hT
      obtain ⟨h1, h2⟩ := ownT_spec hS h0
      rw [hv] at h1
      exact ⟨_, rfl, h1.rebase fun n hn => (h2 n hn).resolve_left id, keeps_below hS.keeps⟩
    · exact hT.elim) h
/-- A call that takes a slice of its caller's own and hands it back, longer. -/
def Eats (v : Value) : Nat → Prop := fun n => v.ownBlock = some n
theorem Sat.ofOwn {e : TypeId} {v : Value} {k : Cont} {vs : List Value} (hv : ∀ γ, k.vals γ = vs) (ho : Own w 0 e v vs) : Sat w (Eats v) [.s v] [.own e k] w := by
  have one : ∀ (j : Nat) (r : Res), [Res.own e k][j]? = some r → j = 0 ∧ r = .own e k := by
    intro j r hr
    cases j with
    | zero => simp at hr; exact ⟨rfl, hr.symm⟩
    | succ j => simp at hr
  refine ⟨Keeps.refl _ _, rfl, ?_, ?_, ?_⟩
  · intro j r hr
    obtain ⟨rfl, rfl⟩ := one j r hr
    exact ⟨rfl, by rw [hv]; exact ho⟩
  · intro j r b hr hb
    obtain ⟨rfl, rfl⟩ := one j r hr
    exact ⟨.inl hb, (ho.lt b hb).2⟩
  · intro i j r r' b hr hr' hij
    obtain ⟨rfl, _⟩ := one i r hr
    obtain ⟨rfl, _⟩ := one j r' hr'
    exact absurd rfl hij
theorem calls_eat (hf : P.funcs[f]? = some fn) (hb : fn.body = some c) (hn : fn.ntmps = n) {e : TypeId} {v : Value} {k0 : Cont} {vs0 : List Value} (h0 : ∀ γ, k0.vals γ = vs0) (ho : Own w 0 e v vs0) (svs : List Sv) (hl : svs.length ≤ n) (k : Cont) {vs : List Value} (hv : ∀ γ, k.vals γ = vs)
    (h : symC P w (Eats v) n c ⟨argFr 0 svs, [.own e k0]⟩ (Fin P w (Eats v) fn.results.toList (ownT e k))) : Calls P f (svs.map (Sv.val [.s v])).toArray w fun en w' => ∃ v', en = .returned v' ∧ Own w' 0 e v' vs ∧ Keeps (fun n => v.ownBlock = some n) w w' ∧ ∀ n, v'.ownBlock = some n → v.ownBlock = some n ∨ w.heap.size ≤ n :=
  calls_sym hf hb hn svs (Sat.ofOwn h0 ho) hl (ownT e k) (fun γ sv hp' w' hS hT => by
    obtain ⟨h1, h2⟩ := ownT_spec hS hT
    rw [hv] at h1
    exact ⟨_, rfl, h1, hS.keeps, h2⟩) h
end
/-! ### A slice that is read -/
theorem cell_of_rd {w0 : World} {B : Nat} {A : Option Addr} {vs : List Value} (hR : RdV w0 B A vs) {i : Nat} {u : Value} (hi : vs[i]? = some u) : ∃ a, A = some a ∧ a.block < B ∧ pAdd A i = some (a.add i) ∧ (a.add i).block = a.block ∧ w0.cell? (a.add i) = some u := by
  obtain ⟨b, off, hA, hb, hc⟩ := hR (by have := lt_of_get hi; omega)
  subst hA
  refine ⟨⟨b, off, none⟩, rfl, hb, rfl, by rw [add_plain], ?_⟩
  rw [add_plain]
  exact hc i _ hi
/-- Where a slice shows values that the call does not own. -/
structure FV (w0 : World) (ow : Nat → Prop) (A : Option Addr) (vs : List Value) : Prop where
  rdo : RdO w0 ow A vs
theorem FV.some_ {w0 : World} {ow : Nat → Prop} {A : Option Addr} {vs : List Value} (h : FV w0 ow A vs) (hp : 0 < vs.length) : A.isSome = true := by
  obtain ⟨a, h1, _⟩ := cell_of_rd h.rdo.1 (List.getElem?_eq_getElem hp)
  rw [h1]; rfl
theorem FV.cell {w0 : World} {ow : Nat → Prop} {A : Option Addr} {vs : List Value} (h : FV w0 ow A vs) {i : Nat} {u : Value} (hi : vs[i]? = some u) : cellOf w0 (pAdd A i) = u ∧ rawOk w0 ow (pAdd A i) := by
  obtain ⟨a, h1, h2, h3, h4, h5⟩ := cell_of_rd h.rdo.1 hi
  refine ⟨by rw [h3]; simp [cellOf, h5], _, _, h3, by rw [h4]; exact h2, ?_, h5⟩
  rw [h4]
  exact h.rdo.2 a h1
theorem FV.no {w0 : World} {A : Option Addr} {vs : List Value} (h : RdV w0 w0.heap.size A vs) : FV w0 No A vs := ⟨h, fun _ _ h => h.elim⟩
/-- What the engine asks of a slice of bytes that came in, told one by one. -/
structure F8 (w0 : World) (ow : Nat → Prop) (A : Option Addr) (l : List UInt8) : Prop where
  some_ : 0 < l.length → A.isSome = true
  cell : ∀ i, i < l.length → cellOf w0 (pAdd A i) = vU8 (ix l i)
  ok : ∀ i, i < l.length → rawOk w0 ow (pAdd A i)
  rd : rd8 w0 A l.length = l
  rdOk : Rd8 w0 ow A l.length
theorem F8.of {w0 : World} {ow : Nat → Prop} {A : Option Addr} {l : List UInt8} (h : FV w0 ow A (l.map vU8)) : F8 w0 ow A l := by
  have hcell : ∀ i, i < l.length → cellOf w0 (pAdd A i) = vU8 (ix l i) := fun i hi => (h.cell (ix_map vU8 l i hi)).1
  have hrd : rd8 w0 A l.length = l := by
    unfold rd8
    apply List.ext_getElem
    · simp
    · intro i h1 h2
      simp only [List.getElem_map, List.getElem_range, hcell i h2]
      rw [toU8_n8]
      simp [ix, List.getD_eq_getElem?_getD, List.getElem?_eq_getElem h2]
  refine ⟨fun hp => h.some_ (by simpa using hp), hcell, fun i hi => (h.cell (ix_map vU8 l i hi)).2, hrd, ?_⟩
  unfold Rd8
  rw [hrd]
  exact h.rdo
structure F32 (w0 : World) (ow : Nat → Prop) (A : Option Addr) (l : List UInt32) : Prop where
  some_ : 0 < l.length → A.isSome = true
  cell : ∀ i, i < l.length → cellOf w0 (pAdd A i) = vU32 (ix l i)
  ok : ∀ i, i < l.length → rawOk w0 ow (pAdd A i)
theorem F32.of {w0 : World} {ow : Nat → Prop} {A : Option Addr} {l : List UInt32} (h : FV w0 ow A (l.map vU32)) : F32 w0 ow A l :=
  ⟨fun hp => h.some_ (by simpa using hp), fun i hi => (h.cell (ix_map vU32 l i hi)).1, fun i hi => (h.cell (ix_map vU32 l i hi)).2⟩
/-! ### What the caller shows of its own to whom it calls -/
theorem Sat.rdBlk {w0 w : World} {ow : Nat → Prop} {γ : List Nm} {hp : List Res} {k : Nat} {t : TypeId} {c : Cont} (h : Sat w0 ow γ hp w) (hr : hp[k]? = some (.blk t c)) (off : Nat) : RdV w w.heap.size (some ⟨nmB γ k, off, none⟩) ((c.vals γ).drop off) :=
  fun _ => ⟨nmB γ k, off, rfl, (h.blk hr).2.lt, fun j u hu => by rw [(h.blk hr).2.cell (off + j), List.getElem?_toArray]; rwa [List.getElem?_drop] at hu⟩
theorem Sat.rdOwn {w0 w : World} {ow : Nat → Prop} {γ : List Nm} {hp : List Res} {k : Nat} {e : TypeId} {c : Cont} (h : Sat w0 ow γ hp w) (hr : hp[k]? = some (.own e c)) : ∃ A cap, nmS γ k = .slice A c.len cap ∧ c.len ≤ cap ∧ cap ≤ maxLen ∧ RdV w w.heap.size A (c.vals γ) := by
  obtain ⟨A, m, h1, h2, h3, h4, _⟩ := own_rd h hr
  exact ⟨A, m, h1, h2, h3, h4⟩
theorem Drawn.below_self {w w' : World} (h : Drawn w w') : Below w.heap.size w w' := h.below (Below.refl _ _)
/-! ### The commonest calls -/
theorem dOk_lt {n d : Nat} (h : Nat.blt d n = true) : dOk n (some d) := by rw [Nat.blt_eq] at h; exact h
section
variable {P : Program} {w0 : World} {ow : Nat → Prop} {n : Nat} {ops rest : List Oper} {o : Oper} {p : List (Nat × Bool)} {f : FuncId} {xs : List Operand} {tys : Array TypeId} {s : S} {svs : List Sv} {K : S → Prop} {sv : Sv}
theorem callG_v (ho : o.op = .call { callee := .value (.func f), args := xs.toArray, argTypes := tys }) (hcb : Callable P f) (hev : evs s.fr xs = some svs) (hc : CallOK P w0 ow f svs s.hp sv s.hp) (hd : dOk n o.dst)
    (h : symR P w0 ow n ops rest (S.put ⟨s.fr, s.hp⟩ o.dst sv) K) : CallG P w0 ow n ops o rest s K := callG_rule ho hcb hev hc hd (fun h => absurd h (Nat.lt_irrefl _)) h
theorem callM_v (ho : o.op = .call { callee := .value (.func f), args := xs.toArray, argTypes := tys }) (hcb : Callable P f) (hev : evs s.fr xs = some svs) (hc : CallOK P w0 ow f svs s.hp sv s.hp) (hd : dOk n o.dst)
    (h : symM P w0 ow n ops p (S.put ⟨s.fr, s.hp⟩ o.dst sv) K) : CallM P w0 ow n ops o p s K := callM_rule ho hcb hev hc hd (fun h => absurd h (Nat.lt_irrefl _)) (List.take_length) h
theorem callG_x {r : Res} (ho : o.op = .call { callee := .value (.func f), args := xs.toArray, argTypes := tys }) (hcb : Callable P f) (hev : evs s.fr xs = some svs) (hc : CallOK P w0 ow f svs s.hp sv (s.hp ++ [r])) (hd : dOk n o.dst) (hb : s.bnd)
    (h : symR P w0 ow n ops rest (S.put ⟨s.fr, s.hp ++ [r]⟩ o.dst sv) K) : CallG P w0 ow n ops o rest s K := callG_rule ho hcb hev hc hd (fun _ => hb) h
theorem callM_x {r : Res} (ho : o.op = .call { callee := .value (.func f), args := xs.toArray, argTypes := tys }) (hcb : Callable P f) (hev : evs s.fr xs = some svs) (hc : CallOK P w0 ow f svs s.hp sv (s.hp ++ [r])) (hd : dOk n o.dst) (hb : s.bnd)
    (h : symM P w0 ow n ops p (S.put ⟨s.fr, s.hp ++ [r]⟩ o.dst sv) K) : CallM P w0 ow n ops o p s K := callM_rule ho hcb hev hc hd (fun _ => hb) (List.take_left' rfl) h
end
theorem Sat.zRd {w0 w : World} {ow : Nat → Prop} {γ : List Nm} {hp : List Res} {k : Nat} {e : TypeId} {c : Cont} (h : Sat w0 ow γ hp w) (hr : hp[k]? = some (.own e c)) (l m : Nat) : ∃ A cap, (At.z k l m).val γ = .slice A m cap ∧ c.len - l ≤ cap ∧ cap ≤ maxLen ∧ RdV w w.heap.size A (((c.vals γ).drop l).take m) := by
  obtain ⟨A, cap, h1, h2, h3, h4⟩ := h.rdOwn hr
  refine ⟨pCut A l cap, cap - l, by simp [At.val, h1], by omega, by unfold maxLen at *; omega, ?_⟩
  exact RdV.take' (h4.cut (k := l) (c := cap) (by rw [Cont.len_vals]; exact h2)) m
end Go.Proofs.YtkchdhkpjnnliaaDoor
