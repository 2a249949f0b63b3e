import Derived.Test.YtiaeollemmkclaaDoorPkJ
/- law 13's calls, as PackBack sees them. -/
namespace Go.Proofs.YtiaeollemmkclaaDoor
open Go.RowKit
set_option linter.unusedSimpArgs false
set_option linter.unusedVariables false
section
variable {w0 w : World} {γ : List Nm} {hp : List Res} {k0 k1 n : Nat} {r : List (List UInt8)} {s : RS} {f : FdR}
theorem FdR.Ok.later (h : f.Ok w0) (hS : Sat w0 No γ hp w) : f.Ok w :=
  ⟨⟨h.l.len, rd_later h.l.rd hS⟩, ⟨h.b.len, rd_later h.b.rd hS⟩, h.s, ⟨h.x.len, rd_later h.x.rd hS⟩, h.many⟩
theorem FdR.Ok.okX {X : Nat → Prop} (h : f.Ok w0) (hS : Sat w0 No γ hp w) (hX : ∀ b, X b → ∃ (k : Nat) (r : Res), hp[k]? = some r ∧ r.has γ k b) : f.OkX X w :=
  ⟨h.later hS, (FW.no h.l.rd).call hS hX, (FW.no h.b.rd).call hS hX, (FW.no h.x.rd).call hS hX⟩
theorem fdA_same (f : FdR) (γ γ' : List Nm) : List.map (Sv.val γ) [.x (.g (fdA f))] = List.map (Sv.val γ') [.x (.g (fdA f))] := by
  rw [List.map_cons, List.map_cons, fdA_sv, fdA_sv]
  rfl
theorem write13K (hn : n + (putF f.fd).length ≤ 1000000000) (hn1 : k0 ≠ k1) (hbr : ∀ r ∈ hp, Res.bnd hp.length r) (hk : bview hp[k0]? = some (47, .c [.o k1, .v (.int .i64 (n : Int))])) (h1 : hp[k1]? = some (.abs (ChR 125 r)))
    (h : f.Ok w0) (hl : f.l.l.length ≤ 10000000) (hb : f.b.l.length ≤ 10000000) (hx : f.x.l.length ≤ 10000000) :
    CallOK Tryd.prog w0 No 9 [.x (.a (.p k0 0)), .x (.g (fdA f))] hp (.t []) (wrS hp k0 [k0, k1] r n (putF f.fd)) :=
  methK (f := 9) (args := [.x (.g (fdA f))]) hn hn1 hbr hk h1 (fdA_same f) fun γ w hS X hX => write13_any f (h.okX hS fun b hb => by
    obtain ⟨k, r, _, h⟩ := hX b hb
    exact ⟨k, r, h⟩) hl hb hx
theorem read13K (hbr : ∀ r ∈ hp, Res.bnd hp.length r) (hk : bview hp[k0]? = some (132, .c [.v (.slice s.A s.l.length s.c), .v (.bool s.bad)])) (h : f.Ok w0) (hs : s.Far w0 No hp k0) :
    CallOK Tryd.prog w0 No 24 [.x (.a (.p k0 0)), .x (.g (fdA f))] hp (rdV hp k0 [.own (rdT f) (rdC f s)] (.x (.g (rdA f s 1)))) (rdS hp k0 (rdN f s) [.own (rdT f) (rdC f s)]) :=
  readerK (f := 24) (args := [.x (.g (fdA f))]) hbr hk (fun r hr => by
    obtain rfl : r = _ := by simpa using hr
    show Cont.bnd _ _
    rw [rdC_bnd]
    trivial) (by
    show ∀ x ∈ rdA f s 1, x.bnd 2
    rw [rdA_bnd f s (show 1 < 2 by decide)]
    trivial) (fdA_same f) fun γ w hS X hX => read13_all f (h.later hS) (hs γ w hS X hX)
theorem great13K {l : List FdR} {A : Option Addr} {c : Nat} (hR : RdV w0 w0.heap.size A (l.flatMap fdW)) (hs : ∀ f ∈ l, f.s.length = 32) :
    CallOK Tryd.prog w0 No 18 [.x (.a (.v (.slice A l.length c)))] hp (.x (.a (.v (.bool (greatF (l.map FdR.fd)))))) hp := callOK_v fun γ w hS => great13_any l A c w (rd_later hR hS) hs
theorem blank13K (hf : f.s.length = 32) : CallOK Tryd.prog w0 No 25 [.x (.g (fdA f))] hp (.x (.a (.v (.bool (blankF f.fd))))) hp := callOK_v fun γ w hS => by
  rw [fdA_same f γ []]
  exact blank13_any f w hf
end
theorem numsB_max (l : List UInt64) : (numsB l).length ≤ 10 * l.length := by
  induction l with
  | nil => simp [numsB]
  | cons v l ih =>
    have := (putV_length v).2
    simp only [numsB, List.flatMap_cons, List.length_append, List.length_cons] at ih ⊢
    omega
theorem putF_max {f : Fd} (h : f.l.length ≤ 60 ∧ f.b.length ≤ 300 ∧ f.x.length ≤ 60) (hs : f.s.length = 32) : (putF f).length ≤ 700 := by
  have v1 := (putV_length f.n).2
  have v2 := (putV_length (UInt64.ofNat f.l.length)).2
  have v3 := (putV_length (UInt64.ofNat f.b.length)).2
  have v4 := (putV_length (UInt64.ofNat f.x.length)).2
  have v5 := numsB_max f.l
  have v6 := rowB_length f.x
  obtain ⟨h1, h2, h3⟩ := h
  unfold putF lenV
  split
  · omega
  · split
    · rw [List.length_append]; omega
    · split
      · rw [List.length_append]; omega
      · split
        · omega
        · rw [List.length_append]; omega
/-- What was read of a field is the field, unless it has what its kind does not write. -/
theorem same_or_blank (f : Fd) : sameF (kindF f) f = true ∨ blankF f = true := by
  by_cases h : blankF f = true
  · exact .inr h
  · refine .inl (decide_eq_true ?_)
    have hb : ¬ (f.k ≠ 0 ∧ f.n ≠ 0 ∨ f.k ≠ 1 ∧ 0 < f.l.length ∨ f.k ≠ 2 ∧ 0 < f.b.length ∨ f.k ≠ 3 ∧ f.s ≠ List.replicate 32 0 ∨ f.k < 4 ∧ 0 < f.x.length) := fun hq => h (decide_eq_true hq)
    have nil : ∀ {α : Type} {l : List α}, ¬ 0 < l.length → l = [] := fun h => List.length_eq_zero_iff.1 (by omega)
    have n0 : f.k ≠ 0 → f.n = 0 := fun hk => Classical.byContradiction fun hq => hb (.inl ⟨hk, hq⟩)
    have n1 : f.k ≠ 1 → f.l = [] := fun hk => nil fun hq => hb (.inr (.inl ⟨hk, hq⟩))
    have n2 : f.k ≠ 2 → f.b = [] := fun hk => nil fun hq => hb (.inr (.inr (.inl ⟨hk, hq⟩)))
    have n3 : f.k ≠ 3 → f.s = List.replicate 32 0 := fun hk => Classical.byContradiction fun hq => hb (.inr (.inr (.inr (.inl ⟨hk, hq⟩))))
    have n4 : f.k < 4 → f.x = [] := fun hk => nil fun hq => hb (.inr (.inr (.inr (.inr ⟨hk, hq⟩))))
    unfold kindF
    split
    · rename_i k0
      exact ⟨rfl, (n1 (by rw [k0]; decide)).symm, (n2 (by rw [k0]; decide)).symm, (n3 (by rw [k0]; decide)).symm, (n4 (by rw [k0]; decide)).symm⟩
    · rename_i k0
      split
      · rename_i k1
        exact ⟨(n0 k0).symm, rfl, (n2 (by rw [k1]; decide)).symm, (n3 (by rw [k1]; decide)).symm, (n4 (by rw [k1]; decide)).symm⟩
      · rename_i k1
        split
        · rename_i k2
          exact ⟨(n0 k0).symm, (n1 k1).symm, rfl, (n3 (by rw [k2]; decide)).symm, (n4 (by rw [k2]; decide)).symm⟩
        · rename_i k2
          split
          · rename_i k3
            exact ⟨(n0 k0).symm, (n1 k1).symm, (n2 k2).symm, rfl, (n4 (by rw [k3]; decide)).symm⟩
          · rename_i k3
            exact ⟨(n0 k0).symm, (n1 k1).symm, (n2 k2).symm, (n3 k3).symm, rfl⟩
end Go.Proofs.YtiaeollemmkclaaDoor
