import Derived.Test.YtiaeollemmkclaaDoorShA
/- copy, as the engine sees it: onto a slice of the call's own, a part of one, or an array. No program in sight. -/
namespace Go.Proofs.YtiaeollemmkclaaDoor
open Go.RowKit
set_option linter.unusedSimpArgs false
section
variable {P : Program} {w0 w : World} {ow : Nat → Prop} {γ : List Nm} {hp hp' : List Res} {c : Prop} {v : Sv} {t : TypeId}
/-- The numbers of a row from a place on, replaced. -/
def Cont.lay (l : Nat) : Cont → Cont → Option Cont
  | .u8 a, .u8 b => some (.u8 (a.take l ++ (b ++ a.drop (l + b.length))))
  | .i64 a, .i64 b => some (.i64 (a.take l ++ (b ++ a.drop (l + b.length))))
  | _, _ => none
theorem Cont.lay_vals {ct m c' : Cont} {l : Nat} (h : ct.lay l m = some c') : c'.vals γ = (ct.vals γ).take l ++ (m.vals γ ++ (ct.vals γ).drop (l + (m.vals γ).length)) := by
  unfold Cont.lay at h
  split at h <;> simp only [Option.some.injEq, reduceCtorEq] at h <;> subst h <;> simp [Cont.vals, List.map_take, List.map_drop]
theorem Cont.lay_one {ct m c' : Cont} {l : Nat} (h : ct.lay l m = some c') : ∀ u ∈ m.vals γ, u.oneCell' = true := by
  unfold Cont.lay at h
  split at h <;> simp only [Option.some.injEq, reduceCtorEq] at h <;> simp [Cont.vals, Value.oneCell']
def Res.with (hp : List Res) (k : Nat) (c : Cont) : Res := match hp[k]? with
  | some (.own e _) => .own e c
  | some (.pin g t _) => .pin g t c
  | some (.blk t _) => .blk t c
  | _ => .gone
/-- Onto what is copied: which one, what it holds, from where on, and how many at most. -/
def dstS (hp : List Res) : Sv → Option (Nat × Cont × Nat × Nat)
  | .x (.a (.o k)) => match hp[k]? with | some (.own _ ct) => some (k, ct, 0, ct.len) | _ => none
  | .x (.a (.z k l m)) => match hp[k]? with | some (.own _ ct) => some (k, ct, l, m) | _ => none
  | .x (.a (.s k off m _)) => match hp[k]? with | some (.blk _ ct) => some (k, ct, off, m) | some (.pin _ _ ct) => some (k, ct, off, m) | _ => none
  | _ => none
def copyS (P : Program) (w0 : World) (ow : Nat → Prop) (t : TypeId) (hp : List Res) (b x : Sv) : R :=
  match P.underlying t with
  | some (.slice e) => match dstS hp b, srcS w0 ow hp (P.underlying e) x with
    | some (k, ct, off, m), some (h, q) => match q.cut 0 (min q.len m) with
      | some q' => match ct.lay off q' with
        | some c' => some (h ∧ off + m ≤ ct.len ∧ sz P e = 1, .x (.a (.v (.int .i64 ((min q.len m : Nat) : Int)))), hp.set k (Res.with hp k c'))
        | none => none
      | none => none
    | _, _ => none
  | _ => none
theorem dst_spec {b : Sv} {k off m : Nat} {ct : Cont} (hS : Sat w0 ow γ hp w) (h : dstS hp b = some (k, ct, off, m)) (hm : off + m ≤ ct.len) (h0 : 0 < m) :
    ∃ g e cur cap2, b.val γ = .slice (some ⟨g, off, none⟩) m cap2 ∧ Blk w g e (cur : List Value).toArray ∧ ct.len ≤ cur.length ∧ cur.take ct.len = ct.vals γ ∧
      ∀ (c' : Cont) (w' : World) (q : List Value), c'.vals γ = (ct.vals γ).take off ++ (q ++ (ct.vals γ).drop (off + q.length)) → q.length ≤ m → Blk w' g e (cur.take off ++ (q ++ cur.drop (off + q.length))).toArray → Keeps (· = g) w w' → Sat w0 ow γ (hp.set k (Res.with hp k c')) w' := by
  have own : ∀ {k : Nat} {e : TypeId} {ct : Cont} (off m : Nat), hp[k]? = some (.own e ct) → off + m ≤ ct.len → 0 < m → ∃ g cap cur, nmS γ k = .slice (some ⟨g, 0, none⟩) ct.len cap ∧ ct.len ≤ cap ∧ Blk w g e (cur : List Value).toArray ∧ ct.len ≤ cur.length ∧ cur.take ct.len = ct.vals γ ∧
      ∀ (c' : Cont) (w' : World) (q : List Value), c'.vals γ = (ct.vals γ).take off ++ (q ++ (ct.vals γ).drop (off + q.length)) → q.length ≤ m → Blk w' g e (cur.take off ++ (q ++ cur.drop (off + q.length))).toArray → Keeps (· = g) w w' → Sat w0 ow γ (hp.set k (Res.with hp k c')) w' := by
    intro k e ct off m hr hm h0
    obtain ⟨hn, ho⟩ := hS.own hr
    have ho' := ho
    obtain ⟨h1, ⟨h2, h3⟩ | ⟨g, cap, cur, hv, hb, hh, hnc, hcap, hs, ht⟩⟩ := ho
    · rw [Cont.len_vals] at h3; omega
    rw [Nat.mul_one] at ht hs
    have hcl : (ct.vals γ).length = ct.len := Cont.len_vals ct
    rw [hcl] at hv hnc ht
    refine ⟨g, cap, cur.toList, hv, hnc, hh, by simp; omega, ht, fun c' w' q hc' hq hb' hk => ?_⟩
    have hlq : (c'.vals γ).length = ct.len := by rw [hc']; simp [hcl]; omega
    refine hS.update hr (b := g) (by simp [Res.has, hv, Value.ownBlock]) hk ?_ (.inl (by simp [Res.with, hr, Res.has, hv, Value.ownBlock]))
    simp only [Res.with, hr]
    refine ⟨hn, ?_⟩
    unfold Own World.ownsRow
    refine ⟨by rw [Nat.mul_one], .inr ⟨g, cap, _, by rw [hlq]; exact hv, hb, hb', by omega, hcap, by simp; omega, ?_⟩⟩
    rw [Nat.mul_one, hlq, hc', ← ht]
    simp only [List.take_append, List.take_take, List.drop_take, List.length_take, Array.length_toList]
    rw [Nat.min_eq_left (by omega : off ≤ ct.len), Nat.min_eq_right (by omega : off ≤ ct.len), Nat.min_eq_left (by omega : off ≤ cur.size), List.take_of_length_le (i := ct.len - off) (by omega : q.length ≤ _), Nat.sub_sub]
  unfold dstS at h
  split at h
  · rename_i k'
    split at h <;> simp only [Option.some.injEq, Prod.mk.injEq, reduceCtorEq] at h
    rename_i hr
    obtain ⟨rfl, rfl, rfl, rfl⟩ := h
    obtain ⟨g, cap, cur, h1, _, h2, h3, h4, h5⟩ := own 0 _ hr hm h0
    exact ⟨g, _, cur, cap, h1, h2, h3, h4, h5⟩
  · rename_i k' l' m'
    split at h <;> simp only [Option.some.injEq, Prod.mk.injEq, reduceCtorEq] at h
    rename_i hr
    obtain ⟨rfl, rfl, rfl, rfl⟩ := h
    obtain ⟨g, cap, cur, h1, h6, h2, h3, h4, h5⟩ := own l' m' hr hm h0
    refine ⟨g, _, cur, cap - l', ?_, h2, h3, h4, h5⟩
    show (match nmS γ k' with | .slice A _ cap => Value.slice (pCut A l' cap) m' (cap - l') | _ => undef) = _
    rw [h1]
    simp only [pCut, if_neg (by omega : ¬ cap = l'), pAdd, Option.map_some, add_plain, Nat.zero_add]
  · rename_i k' off' m' cap'
    have blk : ∀ {t : TypeId} {ct : Cont}, bview hp[k']? = some (t, ct) → (∀ c', Res.with hp k' c' = bput hp[k']? t c') → off' + m' ≤ ct.len → ∃ g e cur cap2, (Sv.x (.a (.s k' off' m' cap'))).val γ = .slice (some ⟨g, off', none⟩) m' cap2 ∧ Blk w g e (cur : List Value).toArray ∧ ct.len ≤ cur.length ∧ cur.take ct.len = ct.vals γ ∧
      ∀ (c' : Cont) (w' : World) (q : List Value), c'.vals γ = (ct.vals γ).take off' ++ (q ++ (ct.vals γ).drop (off' + q.length)) → q.length ≤ m' → Blk w' g e (cur.take off' ++ (q ++ cur.drop (off' + q.length))).toArray → Keeps (· = g) w w' → Sat w0 ow γ (hp.set k' (Res.with hp k' c')) w' := by
      intro t ct hr hw hm
      obtain ⟨hn, hb, r, hr0, h1, h2, h3⟩ := hS.bv hr
      refine ⟨nmB γ k', t, ct.vals γ, cap', rfl, hb, by rw [Cont.len_vals]; exact Nat.le_refl _, by rw [← Cont.len_vals (γ := γ), List.take_length], fun c' w' q hc' hq hb' hk => ?_⟩
      rw [← hc'] at hb'
      rw [hw]
      exact hS.update hr0 (b := nmB γ k') (by rw [h1]) hk (h3 _ _ hb') (.inl (h2 _))
    split at h <;> simp only [Option.some.injEq, Prod.mk.injEq, reduceCtorEq] at h <;> rename_i hr <;> obtain ⟨rfl, rfl, rfl, rfl⟩ := h
    · exact blk (by rw [hr]; rfl) (fun c' => by simp [Res.with, bput, hr]) hm
    · exact blk (by rw [hr]; rfl) (fun c' => by simp [Res.with, bput, hr]) hm
  · cases h
theorem set_same {α : Type} {l : List α} {k : Nat} {r : α} (h : l[k]? = some r) : l.set k r = l := by
  obtain ⟨hk, rfl⟩ := List.getElem?_eq_some_iff.1 h
  simp
theorem dst_zero {b : Sv} {k off m : Nat} {ct : Cont} (hS : Sat w0 ow γ hp w) (h : dstS hp b = some (k, ct, off, m)) : (∃ A cap, b.val γ = .slice A m cap) ∧ hp.set k (Res.with hp k ct) = hp := by
  unfold dstS at h
  split at h
  · rename_i k'
    split at h <;> simp only [Option.some.injEq, Prod.mk.injEq, reduceCtorEq] at h
    rename_i hr
    obtain ⟨rfl, rfl, rfl, rfl⟩ := h
    obtain ⟨A, cap, h1, _⟩ := hS.rdOwn hr
    exact ⟨⟨A, cap, h1⟩, by simp only [Res.with, hr]; exact set_same hr⟩
  · rename_i k' l' m'
    split at h <;> simp only [Option.some.injEq, Prod.mk.injEq, reduceCtorEq] at h
    rename_i hr
    obtain ⟨rfl, rfl, rfl, rfl⟩ := h
    obtain ⟨A, cap, h1, _⟩ := hS.rdOwn hr
    exact ⟨⟨pCut A l' cap, cap - l', by simp only [Sv.val, Sc.val, At.val, h1]⟩, by simp only [Res.with, hr]; exact set_same hr⟩
  · split at h <;> simp only [Option.some.injEq, Prod.mk.injEq, reduceCtorEq] at h <;> rename_i hr <;> obtain ⟨rfl, rfl, rfl, rfl⟩ := h
    · exact ⟨⟨_, _, rfl⟩, by simp only [Res.with, hr]; exact set_same hr⟩
    · exact ⟨⟨_, _, rfl⟩, by simp only [Res.with, hr]; exact set_same hr⟩
  · cases h
theorem Cont.lay_nil {ct m c' : Cont} {l : Nat} (h : ct.lay l m = some c') (hm : m.len = 0) : c' = ct := by
  unfold Cont.lay at h
  split at h <;> simp only [Option.some.injEq, reduceCtorEq] at h <;> subst h
  · rename_i a b
    obtain rfl : b = [] := List.eq_nil_of_length_eq_zero hm
    simp
  · rename_i a b
    obtain rfl : b = [] := List.eq_nil_of_length_eq_zero hm
    simp
theorem copyS_sound {b x : Sv} {t' ty : TypeId} (hS : Sat w0 ow γ hp w) (hbr : ∀ r ∈ hp, Res.bnd hp.length r) (h : copyS P w0 ow t hp b x = some (c, v, hp')) (hc : c) :
    ∃ w', (Builtin.copy_ #[t, t'] ty #[b.val γ, x.val γ]).run P w = .ok (v.val γ) w' ∧ Sat w0 ow γ hp' w' ∧ hp'.length = hp.length := by
  unfold copyS at h
  split at h
  · rename_i e hu
    split at h
    · rename_i k ct off m hq q hd hs
      split at h
      · rename_i q' hcut
        split at h
        · rename_i c' hlay
          simp only [Option.some.injEq, Prod.mk.injEq] at h
          obtain ⟨rfl, rfl, rfl⟩ := h
          obtain ⟨h1, h2, h3⟩ := hc
          obtain ⟨A, cap, B, hx, hR, _⟩ := srcS_spec hS hbr hs h1
          have hqv := Cont.cut_vals (γ := γ) hcut
          rw [List.drop_zero] at hqv
          have hql : (q'.vals γ).length = min q.len m := by rw [hqv, List.length_take, Cont.len_vals]; omega
          obtain ⟨i, hi, hsz⟩ := sz_info h3 (by omega)
          have hinf : (P.info? e).map (·.size) = some 1 := by rw [hi]; simp [hsz]
          have hR' : RdV w B A (q'.vals γ) := by rw [hqv]; exact hR.take' _
          rcases Nat.eq_zero_or_pos m with rfl | hm
          · obtain ⟨⟨A2, cap2, hb⟩, hsame⟩ := dst_zero hS hd
            have hc' : c' = ct := Cont.lay_nil hlay (by rw [← Cont.len_vals (γ := γ), hql]; omega)
            subst hc'
            refine ⟨w, ?_, by rw [hsame]; exact hS, by simp⟩
            rw [hb, hx]
            rw [run_copy_none (P := P) w t t' ty e A2 A 0 cap2 q.len cap hu hinf (by simp)]
            simp [Sv.val, Sc.val, At.val, goInt]
          · obtain ⟨g, ee, cur, cap2, hb, hblk, hl, ht, hK⟩ := dst_spec hS hd h2 hm
            obtain ⟨w2, hr, hb2, hk2⟩ := run_copyR (P := P) w t t' e g off m cap2 A q.len cap B cur ee (q'.vals γ) hu hinf hblk (by rw [hql]) hR' (by rw [hql]; omega) (Cont.lay_one hlay)
            refine ⟨w2, ?_, hK c' w2 (q'.vals γ) (Cont.lay_vals hlay) (by rw [hql]; omega) hb2 hk2, by simp⟩
            rw [hb, hx, hr ty, hql]
            rfl
        · cases h
      · cases h
    · cases h
  · cases h
end
section
variable {P : Program} {w0 : World} {ow : Nat → Prop} {n : Nat} {s : S}
theorem copyG {ops : List Oper} {o : Oper} {rest : List Oper} {x y : Operand} {t t' : TypeId} {K : S → Prop} {a b v : Sv} {hp' : List Res} {c : Prop} (ho : o.op = .call { callee := .builtin .copy, args := #[x, y], argTypes := #[t, t'] })
    (h1 : Fr.ev s.fr x = some a) (h2 : Fr.ev s.fr y = some b) (hcp : copyS P w0 ow t s.hp a b = some (c, v, hp')) (hc : c) (hd : dOk n o.dst) (hb : s.bnd) (h : symR P w0 ow n ops rest (S.put ⟨s.fr, hp'⟩ o.dst v) K) : CallG P w0 ow n ops o rest s K := by
  rintro A w ⟨γ, hfit⟩ hw
  unfold wpList
  rw [if_pos hw]
  refine .inl ?_
  obtain ⟨w', hr, hS', _⟩ := copyS_sound (P := P) (t' := t') (ty := o.type) hfit.sat hb.2 hcp hc
  unfold Oper.wp
  rw [exec_copy x y t t' ho _ _ (hfit.ev h1) (hfit.ev h2) _ _ hr]
  exact symR_sound rest _ _ _ h ⟨γ, hfit.put hS' (fun t sv ht => rfl) hd rfl⟩
end
end Go.Proofs.YtiaeollemmkclaaDoor
