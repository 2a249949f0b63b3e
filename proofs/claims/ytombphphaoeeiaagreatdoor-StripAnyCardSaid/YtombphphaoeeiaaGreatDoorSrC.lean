import Derived.Test.YtombphphaoeeiaaGreatDoorPreH
import Derived.Test.YtombphphaoeeiaaGreatDoorSr7
import Derived.Test.YtombphphaoeeiaaGreatDoorSr9
/- An error's number (law 10's num): nil's is nought, an Errno's is its own. -/
namespace Go.Proofs.YtombphphaoeeiaaGreatDoor
open Go.RowKit Go.Extern.Stop Go.Stop Go.Extern
set_option maxRecDepth 100000 in
set_option maxHeartbeats 4000000 in
theorem nm32_err (n : Int) (w : World) (hg : Handle w) : Calls Tryz.prog 13 #[.iface 63 (.int .i64 n)] w fun e w' => e = .returned (.int .i64 n) ∧ Below w.heap.size w w' := by
  have hlt : 0 < w.heap.size := block_lt_of_cell hg
  have hgA : (w.alloc (.cells #[.int .i64 0] 63)).cell? ⟨0, 0, none⟩ = some (.iface 134 (.agg #[.pointer (some ⟨2, 39, none⟩)])) := by
    rw [World.cell?_alloc_lt _ _ ⟨0, 0, none⟩ hlt]; exact hg
  have htA : (w.alloc (.cells #[.int .i64 0] 63)).cell? ⟨w.heap.size, 0, none⟩ = some (.int .i64 0) := by simp
  have hfA : (w.alloc (.cells #[.int .i64 0] 63)).frozen? ⟨w.heap.size, 0, none⟩ = false := by simp
  go_enter Tryz.func13, Tryz.ntmps13
  go_wp2_with (go_at_call 26; refine (as_hit n _ (.int .i64 0) _ hgA htA hfA).mono ?_; rintro e w' ⟨rfl, rfl⟩)
  go_ret
  refine ⟨rfl, ?_⟩
  exact (((((Below.refl w.heap.size w).alloc (Nat.le_refl _) _).alloc (by simp) _).alloc (by simp; omega) _).alloc (by simp; omega) _).alloc (by simp; omega) _
theorem nmOK32 {w0 : World} {hp : List Res} (n : Int) (hg : Handle w0) : CallOK Tryz.prog w0 No 13 [.x (.a (.v (.iface 63 (.int .i64 n))))] hp (.x (.a (.v (.int .i64 n)))) hp := callOK_v fun _ w hS => nm32_err n w (handle_sat hg hS)
end Go.Proofs.YtombphphaoeeiaaGreatDoor
/- Law 32's areNums and sure. -/
namespace Go.Proofs.YtombphphaoeeiaaGreatDoor
open Go.RowKit
set_option linter.unusedSimpArgs false
set_option linter.unusedVariables false
attribute [local irreducible] Callable CallOK CallG CallM DrawG LoopG symR symM
theorem rawG_rawM {w : World} {x : Value} {q : IntKind} {L : List (Int × Value)} (h : RawG w x q L) : RawM w No q x := by
  rcases h with ⟨h, _⟩ | ⟨g, es, h1, h2, _, h3⟩
  · exact .inl h
  · refine .inr ⟨g, es, es.size, h1, h2, fun h => h, fun e he => ?_⟩
    have : (e.key, e.val) ∈ mpE [] q (mcl L) := by rw [← h3]; exact List.mem_map.2 ⟨e, he, rfl⟩
    obtain ⟨p, _, hp⟩ := List.mem_map.1 this
    exact ⟨p.1, (congrArg Prod.fst hp).symm⟩
theorem rawG_look {w : World} {x : Value} {q : IntKind} {L : List (Int × Value)} (h : RawG w x q L) (i : Int) : lookX w x i = lookE (mpE [] q (mcl L)) i := by
  rcases h with ⟨rfl, rfl⟩ | ⟨g, es, rfl, h2, _, h3⟩
  · rfl
  · unfold lookX mapEs
    simp only [h2, h3]
set_option maxRecDepth 100000 in
set_option maxHeartbeats 4000000 in
theorem areNums_any (o : Option Nat) (A : Option Addr) (c : Nat) (w : World) (hm : RawG w (.map o) .i64 [(4, vU64 9)]) (hR : RdV w w.heap.size A (pvs [(4, 9)])) :
    Calls Tryz.prog 12 #[.map o, .slice A 1 c] w fun e w' => e = .returned (.bool true) ∧ Below w.heap.size w w' := by
  have F := FP.of hR
  have hraw := rawG_rawM hm
  have hX : lookX w (.map o) 4 = some (vU64 9) := by rw [rawG_look hm]; rfl
  refine calls_v (n := 40) Tryz.func12 rfl Tryz.ntmps12 [.x (.a (.v (.map o))), .x (.a (.v (.slice A 1 c)))] (by simp) (.x (.a (.v (.bool true)))) (fun _ => rfl) ?_
  simp (config := { maxSteps := 1000000 }) only [push_cast, ↓reduceIte, Nat.reduceLT]
  refine loop_rule (ι := Nat) (fun i => ⟨[(0, .x (.a (.v (.map o)))), (1, .x (.a (.v (.slice A 1 c)))), (5, .x (.a (.v (.int .i64 i))))], []⟩) (fun i => i ≤ 1) (fun i => 1 - i) 0 [] (Nat.zero_le _) ?_ ?_
  · simp (config := { maxSteps := 1000000 }) only [push_cast, ↓Int.cast_ofNat_Int, Int.cast_ofNat_Int, ↓reduceIte, reduceCtorEq, Nat.reduceEqDiff]
  intro i hi
  by_cases hlt : i = 0
  · subst hlt
    have c0 : cellOf w (pAdd A 0) = .int .i64 4 := F.c0 0 (by decide)
    have c1 : cellOf w (pAdd A 1) = vU64 9 := F.c1 0 (by decide)
    have o0 : rawOk w No (pAdd A 0) := F.ok0 0 (by decide)
    have o1 : rawOk w No (pAdd A 1) := F.ok1 0 (by decide)
    have hA := F.some_ (by decide)
    rw [pAdd_zero] at c0 o0
    simp (config := { maxSteps := 1000000 }) only [c0, c1, o0, o1, hA, hX, hraw, Nat.zero_mul, pAdd_zero, push_cast, ↓Int.cast_ofNat_Int, Int.cast_ofNat_Int, ↓reduceIte, reduceCtorEq, Nat.reduceEqDiff, Nat.reduceLT, Int.reduceNeg, Int.reduceLE, Int.reduceLT, Int.reduceAdd]
    (repeat (refine And.intro (by first | omega | decide) ?_))
    refine loopK_normal 1 [] (by omega) (by omega) ?_
    simp (config := { maxSteps := 1000000 }) only [push_cast, ↓Int.cast_ofNat_Int, Int.cast_ofNat_Int, ↓reduceIte, reduceCtorEq, Nat.reduceEqDiff]
  · have e1 : i = 1 := by omega
    subst e1
    simp (config := { maxSteps := 1000000 }) only [push_cast, ↓Int.cast_ofNat_Int, Int.cast_ofNat_Int, ↓reduceIte, reduceCtorEq, Nat.reduceEqDiff, Nat.reduceLT, Int.reduceLT]
    (repeat (refine And.intro (by first | omega | decide) ?_))
    refine callG_lenR rfl rfl hm Tryz.underlying43 (dOk_lt rfl) ?_
    simp (config := { maxSteps := 1000000 }) only [push_cast, ↓Int.cast_ofNat_Int, Int.cast_ofNat_Int, ↓reduceIte, reduceCtorEq, Nat.reduceEqDiff, Nat.reduceLT]
theorem areNumsK {w0 : World} {hp : List Res} {k : Nat} {s2 : Sv} (hk : hp[k]? = some (.mp .i64 [((4 : Int), .a (.v (vU64 9)))])) (h2 : ShowsR w0 No hp s2 1 (pvs [(4, 9)])) : CallOK Tryz.prog w0 No 12 [.x (.a (.o k)), s2] hp (.x (.a (.v (.bool true)))) hp := callOK_v fun γ w hS => by
  have hr := rawG_mp (L := [(4, vU64 9)]) hS hk
  obtain ⟨_, g, es, h1, _⟩ := hS.holds k _ hk
  have hv : (Sv.x (.a (.o k))).val γ = .map (some g) := h1
  obtain ⟨A, c, e1, b1, r1⟩ := h2 γ w hS
  rw [hv] at hr
  show Calls _ _ #[(Sv.x (.a (.o k))).val γ, s2.val γ] w _
  rw [hv, e1]
  exact areNums_any _ A c w hr r1
section
variable {w0 : World} {hp : List Res} {p c x : At} {k : Nat} {ps : List Pr} {cm : List Int} {nd id : Int} {l : List UInt64}
theorem showsG_one (h1 : ShowsR w0 No hp (.x (.a p)) ps.length (pvs ps)) (h2 : Shows w0 No hp (.x (.a c)) (cm.map vI64)) (hk : hp[k]? = some (.mp .i64 [(id, .a x)])) (h3 : Shows w0 No hp (.x (.a x)) (l.map vU64)) (hf : ps.length ≤ 1000 ∧ cm.length ≤ 1000 ∧ l.length ≤ 1000) :
    ShowsG w0 hp (.x (.g [p, c, .v (.int .i64 nd), .o k])) ⟨ps, cm, nd, [(id, l)]⟩ := fun γ w hS => by
  obtain ⟨A1, c1, e1, b1, r1⟩ := h1 γ w hS
  obtain ⟨A2, c2, e2, b2, r2⟩ := h2 γ w hS
  obtain ⟨A3, c3, e3, b3, r3⟩ := h3 γ w hS
  rw [List.length_map] at e2 b2 e3 b3
  obtain ⟨_, g, es, q1, q2, hb, q3⟩ := hS.holds k _ hk
  have e1 : p.val γ = .slice A1 ps.length c1 := e1
  have e2 : c.val γ = .slice A2 cm.length c2 := e2
  have e3 : x.val γ = .slice A3 l.length c3 := e3
  refine ⟨⟨A1, c1, ps, A2, c2, cm, nd, some g, [⟨id, A3, c3, l⟩]⟩, ?_, ⟨b1, r1, b2, r2, .inr ⟨g, es, rfl, q2, hb, ?_⟩, fun e he => ?_, ?_, hf.1, hf.2.1, ?_, fun e he => ?_⟩, rfl⟩
  · show Value.agg #[p.val γ, c.val γ, _, nmS γ k] = _
    rw [e1, e2, q1]
    rfl
  · rw [q3]
    show [(Value.int .i64 id, x.val γ)] = _
    rw [e3]
    rfl
  · rw [List.mem_singleton.1 he]; exact ⟨b3, r3⟩
  · exact List.nodup_cons.2 ⟨by simp, List.nodup_nil⟩
  · show 1 ≤ 1000; omega
  · rw [List.mem_singleton.1 he]; exact hf.2.2
theorem showsG_none (h1 : ShowsR w0 No hp (.x (.a p)) ps.length (pvs ps)) (hf : ps.length ≤ 1000) : ShowsG w0 hp (.x (.g [p, .v (.slice none 0 0), .v (.int .i64 nd), .v (.map none)])) ⟨ps, [], nd, []⟩ := fun γ w hS => by
  obtain ⟨A1, c1, e1, b1, r1⟩ := h1 γ w hS
  have e1 : p.val γ = .slice A1 ps.length c1 := e1
  refine ⟨⟨A1, c1, ps, none, 0, [], nd, none, []⟩, ?_, ⟨b1, r1, Nat.le_refl _, RdV.nil_, .inl ⟨rfl, rfl⟩, fun e he => (by cases he), List.nodup_nil, hf, Nat.zero_le _, Nat.zero_le _, fun e he => (by cases he)⟩, rfl⟩
  show Value.agg #[p.val γ, _, _, _] = _
  rw [e1]
  rfl
/-- Groups in a slice of the call's own. -/
theorem showsGs_of {e : TypeId} {cs : List At} {gs : List Gr} (hk : hp[k]? = some (.onn e 4 (.c cs))) (hf : gs.length ≤ 1000) (h : ∀ γ w, Sat w0 No γ hp w → ∃ L : List Grp, cs.map (At.val γ) = grVs L ∧ (∀ G ∈ L, G.Ok w) ∧ grs L = gs) :
    ∀ γ w, Sat w0 No γ hp w → ∃ (A : Option Addr) (c : Nat) (L : List Grp), (Sv.x (.a (.o k))).val γ = .slice A L.length c ∧ GrsOk w A c L ∧ grs L = gs := fun γ w hS => by
  obtain ⟨L, h1, h2, h3⟩ := h γ w hS
  obtain ⟨A, n, cp, q1, q2, q3, _, q5, _⟩ := OwnN.rd (hS.holds k _ hk).2
  have hv : (Cont.c cs).vals γ = grVs L := h1
  rw [hv, grVs_len] at q2
  have hn : n = L.length := by omega
  subst hn
  rw [hv] at q5
  exact ⟨A, cp, L, q1, ⟨q3, q5, h2, by rw [← grs_len, h3]; exact hf⟩, h3⟩
theorem showsGs_one {e : TypeId} {cs : List At} {g : Gr} (hk : hp[k]? = some (.onn e 4 (.c cs))) (h : ShowsG w0 hp (.x (.g cs)) g) : ∀ γ w, Sat w0 No γ hp w → ∃ (A : Option Addr) (c : Nat) (L : List Grp), (Sv.x (.a (.o k))).val γ = .slice A L.length c ∧ GrsOk w A c L ∧ grs L = [g] :=
  showsGs_of hk (by show 1 ≤ 1000; omega) fun γ w hS => by
    obtain ⟨G, h1, h2, h3⟩ := h γ w hS
    have h1 : Value.agg (cs.map (At.val γ)).toArray = .agg G.vals.toArray := h1
    injection h1 with h1
    have h1 := congrArg Array.toList h1
    simp only [] at h1
    exact ⟨[G], by rw [h1]; unfold grVs; rw [List.flatMap_cons, List.flatMap_nil, List.append_nil], fun x hx => by rw [List.mem_singleton.1 hx]; exact h2, by rw [← h3]; rfl⟩
theorem showsGs_two {e : TypeId} {cs ds : List At} {g g' : Gr} (hk : hp[k]? = some (.onn e 4 (.c (cs ++ ds)))) (h : ShowsG w0 hp (.x (.g cs)) g) (h' : ShowsG w0 hp (.x (.g ds)) g') : ∀ γ w, Sat w0 No γ hp w → ∃ (A : Option Addr) (c : Nat) (L : List Grp), (Sv.x (.a (.o k))).val γ = .slice A L.length c ∧ GrsOk w A c L ∧ grs L = [g, g'] :=
  showsGs_of hk (by show 2 ≤ 1000; omega) fun γ w hS => by
    obtain ⟨G, h1, h2, h3⟩ := h γ w hS
    obtain ⟨G', h4, h5, h6⟩ := h' γ w hS
    have h1 : Value.agg (cs.map (At.val γ)).toArray = .agg G.vals.toArray := h1
    have h4 : Value.agg (ds.map (At.val γ)).toArray = .agg G'.vals.toArray := h4
    injection h1 with h1
    injection h4 with h4
    have h1 := congrArg Array.toList h1
    have h4 := congrArg Array.toList h4
    simp only [] at h1 h4
    exact ⟨[G, G'], by rw [List.map_append, h1, h4]; unfold grVs; rw [List.flatMap_cons, List.flatMap_cons, List.flatMap_nil, List.append_nil], fun x hx => by
      rcases List.mem_cons.1 hx with rfl | hx
      · exact h2
      · rw [List.mem_singleton.1 hx]; exact h5, by rw [← h3, ← h6]; rfl⟩
theorem showsGs_nil : ∀ γ w, Sat w0 No γ hp w → ∃ (A : Option Addr) (c : Nat) (L : List Grp), (Sv.x (.a (.v (.slice none 0 0)))).val γ = .slice A L.length c ∧ GrsOk w A c L ∧ grs L = [] := fun γ w hS =>
  ⟨none, 0, [], rfl, ⟨Nat.le_refl _, RdV.nil_, fun G h => (by cases h), Nat.zero_le _⟩, rfl⟩
end
attribute [local irreducible] powU rowN rowO Gr.sd Gr.ky ownW wOut wErr gA32 gB32 gC32
set_option maxRecDepth 100000 in
set_option maxHeartbeats 8000000 in
theorem sure32_any (w : World) (hk : LaidK 1 w) (hg : Handle w) : Calls Tryz.prog 5 #[] w fun e w' => e = .returned (.bool true) ∧ Below w.heap.size w w' := by
  refine calls_v (n := 111) Tryz.func5 rfl Tryz.ntmps5 [] (by simp) (.x (.a (.v (.bool true)))) (fun _ => rfl) ?_
  have gA : gA32 = ⟨[(4, powU 3 7)], [4], 1, [(4, [9])]⟩ := by unfold gA32; rfl
  have gB : gB32 = ⟨[(4, powU 3 7)], [], 1, []⟩ := by unfold gB32; rfl
  have gC : gC32 = ⟨[(4, powU 3 7)], [], 1, [(4, [8])]⟩ := by unfold gC32; rfl
  have nA : gA32.ps.length = 1 := by rw [gA]; rfl
  have sA : gA32.sd gA32.ps.length = [((4 : Int), .a (.v (vU64 9)))] := by rw [nA]; exact sdA
  have kA : gA32.ky gA32.ps.length = [] := by rw [nA]; exact kyA
  simp (config := { maxSteps := 1000000 }) only [push_cast, ↓reduceIte, Nat.reduceLT]
  (repeat (refine And.intro (by first | omega | decide) ?_))
  refine callG_v rfl cb10 rfl (publicK 7) (dOk_lt rfl) ?_
  simp (config := { maxSteps := 1000000 }) only [undef, push_cast, ↓reduceIte, reduceCtorEq, Nat.reduceEqDiff, Nat.reduceLT, Nat.reduceLeDiff, Nat.reduceAdd, Nat.reduceMul]
  (repeat (refine And.intro (by first | omega | decide) ?_))
  refine callG_rule rfl cb8 rfl (secretsYes (g := gA32) (by rw [gA]; exact showsG_one (ps := [(4, powU 3 7)]) (showsR_onn rfl (fun _ => rfl) rfl) (shows_blk_all (vs := [vI64 4]) rfl (fun _ => rfl) 1 1 rfl (by decide)) rfl (shows_blk_all (vs := [vU64 9]) rfl (fun _ => rfl) 1 1 rfl (by decide)) (by decide)) errA (by simp (config := { maxSteps := 1000000 }) only [push_cast, Nat.reduceLT, Nat.reduceAdd])) (dOk_lt rfl) (fun _ => by simp (config := { maxSteps := 1000000 }) only [push_cast, Nat.reduceLT, Nat.reduceAdd]) ?_
  rw [sA, kA]
  simp (config := { maxSteps := 1000000 }) only [List.nil_append, List.cons_append, push_cast, ↓reduceIte, Nat.reduceEqDiff, Nat.reduceLT, Nat.reduceAdd]
  (repeat (refine And.intro (by first | omega | decide) ?_))
  have w1 : wErr ownS 2 32 = .nilIface := by unfold wErr; rw [show wOk ownS 2 32 = true from own_wOk 2 (by decide)]; rfl
  have w2 : wOut 9 ownS 2 = ownW 9 2 := own_wOut 9 2 (by decide)
  obtain ⟨o, ho⟩ : ∃ o, o = ownW 9 2 := ⟨_, rfl⟩
  obtain ⟨ra, rb⟩ := rowA (d := 0) ho
  have ol : o.length = 2 := by rw [ho]; exact ownW_length _ _
  have ez : erV 0 = .nilIface := rfl
  refine callG_x rfl cb11 rfl (own10OK 9 2 hk (by simp (config := { maxSteps := 1000000 }) only [push_cast, Nat.reduceLT, Nat.reduceAdd])) (dOk_lt rfl) (by simp (config := { maxSteps := 1000000 }) only [push_cast, Nat.reduceLT, Nat.reduceAdd]) ?_
  rw [w1, w2, ← ho]
  simp (config := { maxSteps := 1000000 }) only [push_cast, ↓reduceIte, Nat.reduceEqDiff, Nat.reduceLT, Nat.reduceLeDiff, Nat.reduceAdd, Nat.reduceMul]
  (repeat (refine And.intro (by first | omega | decide) ?_))
  refine callG_x rfl cb7 rfl (row32K (l := [gA32]) (row := o) (by omega) (showsGs_one (g := gA32) rfl (by rw [gA]; exact showsG_one (ps := [(4, powU 3 7)]) (showsR_onn rfl (fun _ => rfl) rfl) (shows_blk_all (vs := [vI64 4]) rfl (fun _ => rfl) 1 1 rfl (by decide)) rfl (shows_blk_all (vs := [vU64 9]) rfl (fun _ => rfl) 1 1 rfl (by decide)) (by decide))) (shows_own rfl fun _ => rfl) hk (by simp (config := { maxSteps := 1000000 }) only [push_cast, Nat.reduceLT, Nat.reduceAdd])) (dOk_lt rfl) (by simp (config := { maxSteps := 1000000 }) only [push_cast, Nat.reduceLT, Nat.reduceAdd]) ?_
  rw [ra, rb]
  simp (config := { maxSteps := 1000000 }) only [ez, undef, push_cast, ↓reduceIte, reduceCtorEq, Nat.reduceEqDiff, Nat.reduceLT, Nat.reduceAdd]
  (repeat (refine And.intro (by first | omega | decide) ?_))
  refine callG_v rfl cb8 rfl (secretsNo (g := gB32) (by rw [gB]; exact showsG_none (ps := [(4, powU 3 7)]) (showsR_onn rfl (fun _ => rfl) rfl) (by decide)) (by rw [errB]; decide)) (dOk_lt rfl) ?_
  rw [errB]
  simp (config := { maxSteps := 1000000 }) only [push_cast, ↓reduceIte, Nat.reduceEqDiff, Nat.reduceLT, Nat.reduceLeDiff, Nat.reduceAdd]
  (repeat (refine And.intro (by first | omega | decide) ?_))
  refine callG_x rfl cb7 rfl (row32K (l := []) (row := [5]) (by decide) showsGs_nil (shows_blk_all (vs := [vU32 5]) rfl (fun _ => rfl) 1 1 rfl (by decide)) hk (by simp (config := { maxSteps := 1000000 }) only [push_cast, Nat.reduceLT, Nat.reduceAdd])) (dOk_lt rfl) (by simp (config := { maxSteps := 1000000 }) only [push_cast, Nat.reduceLT, Nat.reduceAdd]) ?_
  rw [rowB.1, rowB.2]
  simp (config := { maxSteps := 1000000 }) only [ez, undef, push_cast, ↓reduceIte, reduceCtorEq, Nat.reduceEqDiff, Nat.reduceLT, Nat.reduceLeDiff, Nat.reduceAdd]
  (repeat (refine And.intro (by first | omega | decide) ?_))
  refine callG_v rfl cb8 rfl (secretsNo (g := gC32) (by rw [gC]; exact showsG_one (ps := [(4, powU 3 7)]) (showsR_onn rfl (fun _ => rfl) rfl) shows_nil rfl (shows_blk_all (vs := [vU64 8]) rfl (fun _ => rfl) 1 1 rfl (by decide)) (by decide)) (by rw [errC]; decide)) (dOk_lt rfl) ?_
  rw [errC]
  simp (config := { maxSteps := 1000000 }) only [push_cast, ↓reduceIte, reduceCtorEq, Nat.reduceEqDiff, Nat.reduceLT, Nat.reduceLeDiff, Nat.reduceAdd, Nat.reduceMul]
  (repeat (refine And.intro (by first | omega | decide) ?_))
  refine callG_v rfl cb12 rfl (areNumsK rfl (showsR_onn rfl (fun _ => rfl) rfl)) (dOk_lt rfl) ?_
  simp (config := { maxSteps := 1000000 }) only [push_cast, ↓Int.cast_ofNat_Int, Int.cast_ofNat_Int, ↓reduceIte, Nat.reduceEqDiff, Nat.reduceLT, Nat.reduceLeDiff, Nat.reduceAdd]
  (repeat (refine And.intro (by first | omega | decide) ?_))
  refine callG_v rfl cb9 rfl (same32OK (a := [0, 0]) (b := [0, 0]) (by decide) (shows_own rfl fun _ => rfl) (shows_blk_all (vs := [vU32 0, vU32 0]) rfl (fun _ => rfl) 2 2 rfl (by decide))) (dOk_lt rfl) ?_
  simp (config := { maxSteps := 1000000 }) only [decide_true, push_cast, ↓reduceIte, Nat.reduceEqDiff, Nat.reduceLT, Nat.reduceAdd]
  (repeat (refine And.intro (by first | omega | decide) ?_))
  refine callG_v rfl cb13 rfl (nmOK32 7 hg) (dOk_lt rfl) ?_
  simp (config := { maxSteps := 1000000 }) only [push_cast, ↓reduceIte, Nat.reduceEqDiff, Nat.reduceLT, Nat.reduceLeDiff, Nat.reduceAdd]
  (repeat (refine And.intro (by first | omega | decide) ?_))
  refine callG_v rfl cb9 rfl (same32OK (a := [5]) (b := [5]) (by decide) (shows_own rfl fun _ => rfl) (shows_blk_all (vs := [vU32 5]) rfl (fun _ => rfl) 1 1 rfl (by decide))) (dOk_lt rfl) ?_
  simp (config := { maxSteps := 1000000 }) only [decide_true, push_cast, ↓reduceIte, Nat.reduceEqDiff, Nat.reduceLT, Nat.reduceAdd]
  (repeat (refine And.intro (by first | omega | decide) ?_))
  refine callG_v rfl cb13 rfl (nmOK32 13 hg) (dOk_lt rfl) ?_
  simp (config := { maxSteps := 1000000 }) only [push_cast, ↓reduceIte, Nat.reduceEqDiff, Nat.reduceLT, Nat.reduceAdd]
theorem sure32K {w0 : World} {hp : List Res} (hk : LaidK 1 w0) (hg : Handle w0) : CallOK Tryz.prog w0 No 5 [] hp (.x (.a (.v (.bool true)))) hp := callOK_v fun _ w hS => sure32_any w (laid_later hk hS) (handle_sat hg hS)
end Go.Proofs.YtombphphaoeeiaaGreatDoor
