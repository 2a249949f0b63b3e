/- A slice of slices of bytes, read; a slice literal told as one of the call's own ahead of a loop. No program in sight. -/
import Derived.Test.YtkchdhkpjnnliaaDoorEn3
namespace Go.Proofs.YtkchdhkpjnnliaaDoor
open Go.RowKit
theorem loop_own {P : Program} {w0 : World} {ow : Nat → Prop} {n : Nat} {c : Code} {s : S} {K : Exit → S → Prop} (t k len : Nat) {e : TypeId} {ct : Cont} (ht : Fr.get s.fr t = some (.x (.a (.s k 0 len len)))) (hr : s.hp[k]? = some (.blk e ct)) (hl : ct.len = len) (hm : len ≤ maxLen) (hb : s.bnd)
    (h : LoopG P w0 ow n c ⟨Fr.put s.fr t (.x (.a (.o s.hp.length))), s.hp.set k .gone ++ [.own e ct]⟩ K) : LoopG P w0 ow n c s K :=
  fun a w hf => h a w (leads_own t k len ht hr hl hm hb a w hf)
theorem ren_f8 (ρ : List Nat) (l : List UInt8) : (l.map f8).map (At.ren ρ) = l.map f8 := by rw [List.map_map]; rfl
/-- A slice of bytes, as it stands in another slice. -/
structure Sl where
  A : Option Addr
  c : Nat
  l : List UInt8
deriving Inhabited
def Sl.val (x : Sl) : Value := .slice x.A x.l.length x.c
structure FS (w0 : World) (ow : Nat → Prop) (A : Option Addr) (L : List Sl) : Prop where
  some_ : 0 < L.length → A.isSome = true
  cell : ∀ i, i < L.length → cellOf w0 (pAdd A i) = .slice (ix L i).A (ix L i).l.length (ix L i).c
  ok : ∀ i, i < L.length → rawOk w0 ow (pAdd A i)
  rd : ∀ i, i < L.length → rd8 w0 (ix L i).A (ix L i).l.length = (ix L i).l
  rdOk : ∀ i, i < L.length → Rd8 w0 ow (ix L i).A (ix L i).l.length
theorem ix_mem {α : Type} [Inhabited α] {L : List α} {i : Nat} (h : i < L.length) : ix L i ∈ L := by
  rw [ix, List.getD_eq_getElem?_getD, List.getElem?_eq_getElem h]
  exact List.getElem_mem h
theorem FS.of {w0 : World} {ow : Nat → Prop} {A : Option Addr} {L : List Sl} (h : FV w0 ow A (L.map Sl.val)) (h2 : ∀ x ∈ L, FV w0 ow x.A (x.l.map vU8)) : FS w0 ow A L :=
  ⟨fun hp => h.some_ (by simpa using hp), fun i hi => (h.cell (ix_map Sl.val L i hi)).1, fun i hi => (h.cell (ix_map Sl.val L i hi)).2,
    fun i hi => (F8.of (h2 _ (ix_mem hi))).rd, fun i hi => (F8.of (h2 _ (ix_mem hi))).rdOk⟩
end Go.Proofs.YtkchdhkpjnnliaaDoor
