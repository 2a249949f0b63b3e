import Derived.Test.YtombphphaoeeiaaGreatDoorEn3
import Derived.Maps.RangeRun
/- A map that came in (or nil), walked: every entry comes once, in whatever order; and how many there are. No program in sight. -/
namespace Go.Proofs.YtombphphaoeeiaaGreatDoor
open Go.RowKit Go.ChangeMaps
set_option linter.unusedSimpArgs false
set_option linter.unusedVariables false
/-- What stands in it is spelled without names. -/
def McOk (l : List (Int × Sc)) : Prop := ∀ p ∈ l, ∀ γ, p.2.val γ = p.2.val []
theorem mpE_closed {l : List (Int × Sc)} (h : McOk l) (γ : List Nm) (q : IntKind) : mpE γ q l = mpE [] q l := List.map_congr_left fun p hp => by rw [h p hp γ]
theorem ents {es : Array MapEntry} {q : IntKind} {l : List (Int × Sc)} (hb : ∀ (i : Nat) (e : MapEntry), es[i]? = some e → e.born = i) (h3 : es.toList.map (fun e => (e.key, e.val)) = mpE [] q l) :
    es.size = l.length ∧ (∀ e ∈ es.toList, e.born < es.size) ∧ (es.toList.map (·.born)).Nodup ∧ (∀ e ∈ es.toList, ∃ p, l[e.born]? = some p ∧ e.key = .int q p.1 ∧ e.val = p.2.val []) ∧ ∀ i, i < l.length → ∃ e ∈ es.toList, e.born = i := by
  have hl : es.size = l.length := by
    have := congrArg List.length h3
    simpa [mpE] using this
  have hm : ∀ e ∈ es.toList, ∃ i : Nat, es[i]? = some e ∧ i < es.size := fun e he => by
    obtain ⟨i, hi⟩ := List.getElem?_of_mem he
    rw [Array.getElem?_toList] at hi
    exact ⟨i, hi, (Array.getElem?_eq_some_iff.1 hi).1⟩
  refine ⟨hl, fun e he => ?_, ?_, fun e he => ?_, fun i hi => ?_⟩
  · obtain ⟨i, h1, h2⟩ := hm e he
    rw [hb i e h1]
    exact h2
  · have : es.toList.map (·.born) = List.range es.size := by
      refine List.ext_getElem? fun i => ?_
      rw [List.getElem?_map, Array.getElem?_toList]
      by_cases hi : i < es.size
      · rw [Array.getElem?_eq_getElem hi, List.getElem?_range hi]
        exact congrArg some (hb i _ (Array.getElem?_eq_getElem hi))
      · rw [Array.getElem?_eq_none (by omega), List.getElem?_eq_none (by simp; omega)]
        rfl
    rw [this]
    exact List.nodup_range
  · obtain ⟨i, h1, h2⟩ := hm e he
    have h4 := hb i e h1
    have h5 : (es.toList.map (fun e => (e.key, e.val)))[i]? = some (e.key, e.val) := by rw [List.getElem?_map, Array.getElem?_toList, h1]; rfl
    rw [h3] at h5
    unfold mpE at h5
    rw [List.getElem?_map] at h5
    cases hp : l[i]? with
    | none => rw [hp] at h5; cases h5
    | some p =>
      rw [hp] at h5
      have h5 := Option.some.inj h5
      refine ⟨p, by rw [h4]; exact hp, ?_, ?_⟩
      · exact (congrArg Prod.fst h5).symm
      · exact (congrArg Prod.snd h5).symm
  · have hi' : i < es.size := by omega
    exact ⟨es[i], by rw [Array.mem_toList_iff]; exact Array.getElem_mem hi', hb i _ (Array.getElem?_eq_getElem hi')⟩
theorem keeps_setBlock (w : World) (r : Nat) (o : Obj) : Keeps (· = r) w (setBlock w r o) := by
  refine ⟨rfl, rfl, rfl, ?_, fun i hi hn => ?_⟩
  · show _ ≤ (w.heap.setIfInBounds r o).size
    simp
  · show (w.heap.setIfInBounds r o)[i]? = _
    rw [Array.getElem?_setIfInBounds_ne (fun e => hn e.symm)]
def mcl (L : List (Int × Value)) : List (Int × Sc) := L.map fun p => (p.1, .a (.v p.2))
/-- A map that came in, or nil: what stands in it. -/
def RawG (w : World) (x : Value) (q : IntKind) (L : List (Int × Value)) : Prop :=
  (x = .map none ∧ L = []) ∨ ∃ g es, x = .map (some g) ∧ w.heap[g]? = some (.map es es.size) ∧ (∀ (i : Nat) (e : MapEntry), es[i]? = some e → e.born = i) ∧ es.toList.map (fun e => (e.key, e.val)) = mpE [] q (mcl L)
theorem rawG_later {w0 w : World} {γ : List Nm} {hp : List Res} {x : Value} {q : IntKind} {L : List (Int × Value)} (h : RawG w0 x q L) (hS : Sat w0 No γ hp w) : RawG w x q L := by
  rcases h with h | ⟨g, es, h1, h2, h3⟩
  · exact .inl h
  · exact .inr ⟨g, es, h1, (hS.keeps.block g (lt_heap h2) (fun h => h)).trans h2, h3⟩
/-- Of a map of the call's own whose entries are spelled without names. -/
theorem rawG_mp {w0 w : World} {ow : Nat → Prop} {γ : List Nm} {hp : List Res} {k : Nat} {q : IntKind} {L : List (Int × Value)} (hS : Sat w0 ow γ hp w) (hr : hp[k]? = some (.mp q (mcl L))) : RawG w ((Sv.x (.a (.o k))).val γ) q L := by
  obtain ⟨_, g, es, h1, h2, hb, h3⟩ := hS.holds k _ hr
  refine .inr ⟨g, es, h1, h2, hb, ?_⟩
  rw [h3]
  exact mpE_closed (fun p hp γ => by
    obtain ⟨x, _, rfl⟩ := List.mem_map.1 hp
    rfl) γ q
def mapOf : Value → Option Nat | .map o => o | _ => none
/-- Who walks it: what was handed out. -/
structure ItG (mv : Value) (m r : Nat) (seen : List Nat) (x : Value) (B : Nat → Prop) (w : World) : Prop where
  val : x = .bool true
  hr : B r
  ex : ∃ c, w.heap[r]? = some (.mapIter (mapOf mv) c seen.toArray c) ∧ (mv = .map none ∨ c = m)
def ItR (mv : Value) (m r : Nat) (seen : List Nat) : Rep where
  H := ItG mv m r seen
  one := fun {v B w} h => by rw [h.val]; exact ⟨rfl, trivial⟩
  keep := fun {v B own w w'} h hlt hk hn => by
    obtain ⟨c, h1, h2⟩ := h.ex
    exact ⟨h.val, h.hr, c, (hk.block r (hlt r h.hr) (hn r h.hr)).trans h1, h2⟩
section
variable {P : Program} {w0 : World} {n : Nat}
theorem callG_rangeR {q : IntKind} {L : List (Int × Value)} {mv : Value} {t kt et : TypeId} {x : Operand} {ops : List Oper} {o : Oper} {rest : List Oper} {s : S} {K : S → Prop} (ho : o.op = .range t x) (hx : Fr.ev s.fr x = some (.x (.a (.v mv)))) (hm : RawG w0 mv q L) (ht : P.underlying t = some (.map kt et)) (hd : dOk n o.dst) (hb : s.bnd)
    (h : ∀ r, symR P w0 No n ops rest (S.put ⟨s.fr, s.hp ++ [.abs (ItR mv L.length r [])]⟩ o.dst (.x (.a (.v (.pointer (some ⟨r, 0, none⟩)))))) K) : CallG P w0 No n ops o rest s K := by
  rintro a w ⟨γ, hfit⟩ hw
  have hev : a.eval x = mv := hfit.ev hx
  have hm' := rawG_later hm hfit.sat
  have key : ∃ c, (execOp a.eval o).run P w = .ok (.value (.pointer (some ⟨w.heap.size, 0, none⟩))) (w.alloc (.mapIter (mapOf mv) c #[] c)) ∧ (mv = .map none ∨ c = L.length) := by
    rcases hm' with ⟨rfl, _⟩ | ⟨g, es, rfl, h2, h3, h4⟩
    · refine ⟨0, ?_, .inl rfl⟩
      unfold execOp
      simp only [ho, hev]
      exact run_v (run_range_nilMap w t kt et ht)
    · refine ⟨es.size, ?_, .inr ?_⟩
      · unfold execOp
        simp only [ho, hev]
        exact run_v (run_range_map w t kt et g es es.size ht h2)
      · have := congrArg List.length h4
        simpa [mpE, mcl] using this
  obtain ⟨c, hrun, hc⟩ := key
  have hl := hfit.sat.len
  obtain ⟨nm, hnm⟩ : ∃ nm, nm = Nm.m (.bool true) (fun b => b = w.heap.size) := ⟨_, rfl⟩
  have e1 : (γ ++ [nm])[s.hp.length]? = some nm := by rw [← hl]; simp
  have e2 : nmS (γ ++ [nm]) s.hp.length = .bool true := by unfold nmS; rw [e1, hnm]
  have e3 : nmM (γ ++ [nm]) s.hp.length = fun b => b = w.heap.size := by unfold nmM; rw [e1, hnm]
  have hsz : (w.alloc (.mapIter (mapOf mv) c #[] c)).heap.size = w.heap.size + 1 := by
    show (w.heap.push _).size = _
    simp
  have hS' : Sat w0 No (γ ++ [nm]) (s.hp ++ [.abs (ItR mv L.length w.heap.size [])]) (w.alloc (.mapIter (mapOf mv) c #[] c)) := by
    refine hfit.sat.push (X := fun _ => False) (Keeps.of_below ((Below.refl _ _).alloc (Nat.le_refl _) _)) (fun b h => h.elim) hb.2 ⟨by rw [e1, e2, e3, hnm], fun b hb => ?_, ?_⟩ fun b hb => ?_
    · rw [e3] at hb
      rw [hsz, hb]
      omega
    · rw [e2, e3]
      exact ⟨rfl, rfl, c, heap_alloc_new w _, hc⟩
    · have hb : nmM _ _ b := hb
      rw [e3] at hb
      rw [hsz, hb]
      exact ⟨.inr (Nat.le_refl _), by omega⟩
  unfold wpList
  rw [if_pos hw]
  refine .inl ?_
  unfold Oper.wp
  rw [hrun]
  simp only [Oper.upon]
  exact symR_sound rest _ _ _ (h w.heap.size) ⟨_, hfit.put hS' (fun u sv hu => Sv.ext (by rw [hl]; exact hb.1 _ (Fr.get_mem hu))) hd rfl⟩
theorem callG_nextR {k : Nat} {q : IntKind} {L : List (Int × Value)} {mv : Value} {r : Nat} {seen : List Nat} {x : Operand} {ops : List Oper} {o : Oper} {rest : List Oper} {s : S} {K : S → Prop} (ho : o.op = .next x false) (hx : Fr.ev s.fr x = some (.x (.a (.v (.pointer (some ⟨r, 0, none⟩)))))) (hm : RawG w0 mv q L) (hk : s.hp[k]? = some (.abs (ItR mv L.length r seen))) (hd : dOk n o.dst)
    (h0 : (∀ i, i < L.length → i ∈ seen) → symR P w0 No n ops rest (S.put s o.dst (.t [.a (.v (.bool false))])) K)
    (h1 : ∀ i p, L[i]? = some p → i ∉ seen → symR P w0 No n ops rest (S.put ⟨s.fr, s.hp.set k (.abs (ItR mv L.length r (seen ++ [i])))⟩ o.dst (.t [.a (.v (.bool true)), .a (.v (.int q p.1)), .a (.v p.2)])) K) : CallG P w0 No n ops o rest s K := by
  rintro a w ⟨γ, hfit⟩ hw
  obtain ⟨a1, a2, a3⟩ := hfit.sat.holds _ _ hk
  obtain ⟨c, b4, b5⟩ := a3.ex
  have hev : a.eval x = .pointer (some ⟨r, 0, none⟩) := hfit.ev hx
  unfold wpList
  rw [if_pos hw]
  refine .inl ?_
  unfold Oper.wp
  rcases rawG_later hm hfit.sat with ⟨rfl, rfl⟩ | ⟨g, es, rfl, b1, b2, b3⟩
  · have d2 : (Instr.next (.pointer (some ⟨r, 0, none⟩)) false o.type).run P w = .ok (.tuple #[.bool false]) w := by
      simp only [Instr.next, getObj, Sem.run_bind, Sem.run, b4, Result.andThen]
      rfl
    have hrun : (execOp a.eval o).run P w = .ok (.value (.tuple #[.bool false])) w := by
      unfold execOp
      simp only [ho, hev]
      exact run_v d2
    rw [hrun]
    simp only [Oper.upon]
    exact symR_sound rest _ _ _ (h0 fun i hi => by simp at hi) ⟨γ, hfit.put hfit.sat (fun _ _ _ => rfl) hd rfl⟩
  · obtain ⟨c1, c2, c3, c4, c5⟩ := ents b2 b3
    have hml : (mcl L).length = L.length := List.length_map ..
    rw [hml] at c1
    have b5 : c = es.size := by rcases b5 with h | h; · cases h
                                · rw [h, c1]
    subst b5
    rcases run_next_at (P := P) w o.type r g es.size es.size seen.toArray es es.size b4 b1 c2 (Nat.le_refl _) with ⟨d1, d2⟩ | ⟨e, d1, w1, d2, d3⟩
    · have hrun : (execOp a.eval o).run P w = .ok (.value (.tuple #[.bool false])) w := by
        unfold execOp
        simp only [ho, hev]
        exact run_v d2
      rw [hrun]
      simp only [Oper.upon]
      refine symR_sound rest _ _ _ (h0 fun i hi => ?_) ⟨γ, hfit.put hfit.sat (fun _ _ _ => rfl) hd rfl⟩
      obtain ⟨e, h2, h3⟩ := c5 i (by rw [hml]; exact hi)
      have h4 : leftOf es seen.toArray = #[] := Array.eq_empty_of_size_eq_zero d1
      by_cases hs : i ∈ seen
      · exact hs
      · have : e ∈ leftOf es seen.toArray := by
          unfold leftOf
          rw [Array.mem_filter]
          refine ⟨Array.mem_toList_iff.1 h2, ?_⟩
          rw [h3]
          simp [hs]
        rw [h4] at this
        simp at this
    · have hem : e ∈ es.toList ∧ e.born ∉ seen := by
        rw [Array.mem_toList_iff] at d1
        unfold leftOf at d1
        rw [Array.mem_filter] at d1
        refine ⟨Array.mem_toList_iff.2 d1.1, fun hs => ?_⟩
        have := d1.2
        simp [hs] at this
      obtain ⟨p, e1, e2, e3⟩ := c4 e hem.1
      obtain ⟨p', f1, f2⟩ : ∃ p', L[e.born]? = some p' ∧ p = (p'.1, .a (.v p'.2)) := by
        unfold mcl at e1
        rw [List.getElem?_map] at e1
        cases hL : L[e.born]? with
        | none => rw [hL] at e1; cases e1
        | some p' => rw [hL] at e1; exact ⟨p', rfl, (Option.some.inj e1).symm⟩
      have hrun : (execOp a.eval o).run P w = .ok (.value (.tuple #[.bool true, e.key, e.val])) (setBlock w1 r (.mapIter (some g) es.size (seen.toArray.push e.born) es.size)) := by
        unfold execOp
        simp only [ho, hev]
        exact run_v d3
      rw [hrun]
      simp only [Oper.upon]
      have hw1 : Keeps (fun _ => False) w w1 ∧ w1.heap = w.heap := by
        rcases d2 with rfl | rfl
        · exact ⟨Keeps.refl _ _, rfl⟩
        · exact ⟨⟨rfl, rfl, rfl, Nat.le_refl _, fun _ _ _ => rfl⟩, rfl⟩
      have hk2 : Keeps (· = r) w (setBlock w1 r (.mapIter (some g) es.size (seen.toArray.push e.born) es.size)) := by
        have := keeps_setBlock w1 r (.mapIter (some g) es.size (seen.toArray.push e.born) es.size)
        exact ⟨this.os.trans hw1.1.os, this.tape.trans hw1.1.tape, this.output.trans hw1.1.output, Nat.le_trans hw1.1.size this.size, fun i hi hn => (this.block i (Nat.lt_of_lt_of_le hi hw1.1.size) hn).trans (by rw [hw1.2])⟩
      have hS' : Sat w0 No γ (s.hp.set k (.abs (ItR (.map (some g)) L.length r (seen ++ [e.born])))) (setBlock w1 r (.mapIter (some g) es.size (seen.toArray.push e.born) es.size)) := by
        refine hfit.sat.update hk (show (Res.abs (ItR (.map (some g)) L.length r seen)).has γ k r from a3.hr) hk2 ⟨a1, fun b hb => Nat.lt_of_lt_of_le (a2 b hb) hk2.size, a3.val, a3.hr, es.size, ?_, .inr c1⟩ (.inl rfl)
        show (w1.heap.setIfInBounds r _)[r]? = _
        rw [Array.getElem?_setIfInBounds_self_of_lt (by rw [hw1.2]; exact a2 r a3.hr)]
        simp [mapOf]
      refine symR_sound rest _ _ _ (h1 e.born p' f1 hem.2) ⟨γ, hfit.put hS' (fun _ _ _ => rfl) hd ?_⟩
      show _ = Value.tuple #[.bool true, .int q p'.1, p'.2]
      rw [e2, e3, f2]
      rfl
theorem callG_entryR {k : Nat} {q : IntKind} {L : List (Int × Value)} {mv : Value} {r i : Nat} {p : Int × Value} {seen : List Nat} {x : Operand} {ops : List Oper} {o : Oper} {rest : List Oper} {s : S} {K : S → Prop} (ho : o.op = .entry x) (hx : Fr.ev s.fr x = some (.x (.a (.v (.pointer (some ⟨r, 0, none⟩)))))) (hm : RawG w0 mv q L) (hk : s.hp[k]? = some (.abs (ItR mv L.length r (seen ++ [i])))) (hp : L[i]? = some p) (hd : dOk n o.dst)
    (h : symR P w0 No n ops rest (S.put s o.dst (.t [.a (.v (.int q p.1)), .a (.v p.2)])) K) : CallG P w0 No n ops o rest s K := by
  rintro a w ⟨γ, hfit⟩ hw
  obtain ⟨a1, a2, a3⟩ := hfit.sat.holds _ _ hk
  obtain ⟨c, b4, b5⟩ := a3.ex
  have hev : a.eval x = .pointer (some ⟨r, 0, none⟩) := hfit.ev hx
  rcases rawG_later hm hfit.sat with ⟨rfl, rfl⟩ | ⟨g, es, rfl, b1, b2, b3⟩
  · simp at hp
  obtain ⟨c1, c2, c3, c4, c5⟩ := ents b2 b3
  have hml : (mcl L).length = L.length := List.length_map ..
  rw [hml] at c1
  have b5 : c = es.size := by rcases b5 with h | h; · cases h
                              · rw [h, c1]
  subst b5
  obtain ⟨e, h2, h3⟩ := c5 i (by rw [hml]; exact (List.getElem?_eq_some_iff.1 hp).1)
  obtain ⟨p', e1, e2, e3⟩ := c4 e h2
  have e0 : (mcl L)[i]? = some (p.1, .a (.v p.2)) := by unfold mcl; rw [List.getElem?_map, hp]; rfl
  rw [h3, e0] at e1
  obtain rfl := Option.some.inj e1
  have hrun : (execOp a.eval o).run P w = .ok (.value (.tuple #[e.key, e.val])) w := by
    unfold execOp
    simp only [ho, hev]
    refine run_v (run_entry_at w r g es.size seen.toArray es es.size e ?_ b1 h2 c3)
    rw [b4, h3]
    simp [mapOf]
  unfold wpList
  rw [if_pos hw]
  refine .inl ?_
  unfold Oper.wp
  rw [hrun]
  simp only [Oper.upon]
  refine symR_sound rest _ _ _ h ⟨γ, hfit.put hfit.sat (fun _ _ _ => rfl) hd ?_⟩
  show _ = Value.tuple #[.int q p.1, p.2]
  rw [e2, e3]
  rfl
theorem callG_lenR {q : IntKind} {L : List (Int × Value)} {mv : Value} {t kt et : TypeId} {x : Operand} {ops : List Oper} {o : Oper} {rest : List Oper} {s : S} {K : S → Prop} (ho : o.op = .call { callee := .builtin .len, args := #[x], argTypes := #[t] }) (hx : Fr.ev s.fr x = some (.x (.a (.v mv)))) (hm : RawG w0 mv q L) (ht : P.underlying t = some (.map kt et)) (hd : dOk n o.dst)
    (h : symR P w0 No n ops rest (S.put s o.dst (.x (.a (.v (.int .i64 L.length))))) K) : CallG P w0 No n ops o rest s K := by
  rintro a w ⟨γ, hfit⟩ hw
  have hev : a.eval x = mv := hfit.ev hx
  have hr : (Builtin.len_ #[t] o.type #[mv]).run P w = .ok (.int .i64 L.length) w := by
    rcases rawG_later hm hfit.sat with ⟨rfl, rfl⟩ | ⟨g, es, rfl, h2, _, h3⟩
    · unfold Builtin.len_
      simp [Sem.run_bind, run_underlying ht, goInt]
    · have h4 : es.size = L.length := by
        have := congrArg List.length h3
        simpa [mpE, mcl] using this
      unfold Builtin.len_
      simp [Sem.run_bind, run_underlying ht, goInt, run_getMap h2, h4]
  have hrun : (execOp a.eval o).run P w = .ok (.value (.int .i64 L.length)) w := by
    unfold execOp
    simp only [ho]
    simp only [resolve, Sem.run_bind, Sem.run_pure, Result.andThen_ok, invoke, builtin]
    have := run_v hr
    simpa [hev] using this
  unfold wpList
  rw [if_pos hw]
  refine .inl ?_
  unfold Oper.wp
  rw [hrun]
  simp only [Oper.upon]
  exact symR_sound rest _ _ _ h ⟨γ, hfit.put hfit.sat (fun _ _ _ => rfl) hd rfl⟩
end
end Go.Proofs.YtombphphaoeeiaaGreatDoor
