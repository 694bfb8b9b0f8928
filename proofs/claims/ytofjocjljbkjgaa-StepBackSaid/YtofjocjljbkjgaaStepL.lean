import Derived.Test.YtofjocjljbkjgaaStepW
import Derived.Test.YtofjocjljbkjgaaTreeO
/- The walk of the law StepBack. -/
set_option linter.unusedVariables false
set_option linter.unusedSimpArgs false
namespace Go.Proofs.Ytofjocjljbkjgaa
open Go.RowKit
section
variable {P : Program} {ops : Array Oper} {Q : Exit → Act → World → Prop} {md : Region.Mode} {S T : World → Prop} {eff brk : Nat → Bool}
/-- What is known of the world from here on, beside. -/
theorem M_more (hb : ∀ i, brk i = false) : ∀ (fuel : Nat) (listed : Array Bool) (a : Act) (w : World), S w → T w → wpAnyM P md ops Q (fun W => S W ∧ T W) eff brk fuel listed a w → wpAnyM P md ops Q S eff brk fuel listed a w
  | 0, _, _, _, _, _, h => h
  | fuel + 1, _, _, _, hS, hT, h => ⟨h.1, fun i hi => wpOp_mono (fun a' w' h' => ⟨h'.1, fun _ hs => (h'.2.1 (hb i) ⟨hS, hT⟩).1, M_more hb fuel _ a' w' (h'.2.1 (hb i) ⟨hS, hT⟩).1 (h'.2.1 (hb i) ⟨hS, hT⟩).2 h'.2.2⟩) (h.2 i hi)⟩
theorem exec_len_map {o : Oper} {a : Act} {w : World} {T K E : TypeId} (x : Operand) (ho : o.op = .call { callee := .builtin .len, args := #[x], argTypes := #[T] }) (hT : P.underlying T = some (.map K E)) (b : Nat) (es : Array MapEntry) (clock : Nat) (hx : a.eval x = .map (some b)) (hb : w.heap[b]? = some (.map es clock)) :
    (execOp a.eval o).run P w = .ok (.value (.int .i64 es.size)) w := by
  have hrun : (Builtin.len_ #[T] o.type #[.map (some b)]).run P w = .ok (.int .i64 es.size) w := by
    simp [Builtin.len_, run_underlying hT, Go.MapKept.run_getObj_map hb, goInt, Result.andThen]
  simp [execOp, ho, resolve, invoke, builtin, hx, hrun, Result.andThen]
end
theorem erase_len {a : Int} {M : List Int} (h : a ∈ M) : (M.erase a).length + 1 = M.length := by
  rw [List.length_erase_of_mem h]; have := List.length_pos_of_mem h; omega
theorem nodup_len : ∀ (K M : List Int), K.Nodup → (∀ x ∈ K, x ∈ M) → K.length ≤ M.length
  | [], M, _, _ => Nat.zero_le _
  | a :: K, M, hn, hs => by
    rw [List.nodup_cons] at hn
    have ha := hs a (by simp)
    have := nodup_len K (M.erase a) hn.2 (fun x hx => (List.mem_erase_of_ne (fun e => hn.1 (by rw [← e]; exact hx))).2 (hs x (by simp [hx])))
    have := erase_len ha
    simp; omega
theorem nodup_of : ∀ (K M : List Int), K.Nodup → (∀ x ∈ K, x ∈ M) → M.length ≤ K.length → M.Nodup
  | [], M, _, _, h => by rw [List.length_eq_zero_iff.1 (Nat.le_zero.1 h)]; simp
  | a :: K, M, hn, hs, h => by
    have hn' := hn
    rw [List.nodup_cons] at hn
    have ha := hs a (by simp)
    have he := erase_len ha
    have hsub : ∀ x ∈ K, x ∈ M.erase a := fun x hx => (List.mem_erase_of_ne (fun e => hn.1 (by rw [← e]; exact hx))).2 (hs x (by simp [hx]))
    have hN := nodup_of K (M.erase a) hn.2 hsub (by simp at h; omega)
    have hna : a ∉ M.erase a := fun hm => by
      have := nodup_len (a :: K) (M.erase a) hn' (fun x hx => by rcases List.mem_cons.1 hx with rfl | hx; exact hm; exact hsub x hx)
      simp at this h; omega
    exact (List.perm_cons_erase ha).nodup_iff.2 (List.nodup_cons.2 ⟨hna, hN⟩)
theorem lastOf_none (n : Int) : ∀ l : List Tr, lastOf n l = none ↔ n ∉ l.map (·.id)
  | [] => by simp [lastOf]
  | x :: l => by
    have ih := lastOf_none n l
    rw [lastOf]
    cases h : lastOf n l with
    | some y =>
      rw [h] at ih
      simp only [List.map_cons, List.mem_cons, not_or]
      constructor
      · intro e; cases e
      · intro e; exact absurd e.2 (fun h' => by have := ih.2 h'; cases this)
    | none =>
      rw [h] at ih
      have := ih.1 rfl
      simp only [List.map_cons, List.mem_cons, not_or]
      by_cases hx : x.id = n
      · simp [hx]
      · simp only [hx, if_false, true_iff]; exact ⟨fun e => hx e.symm, this⟩
theorem findI_iff (n : Int) : ∀ es : List MapEntry, (findI es n).isSome = true ↔ n ∈ es.map (fun e => keyInt e.key)
  | [] => by simp [findI]
  | e :: es => by
    rw [findI]
    by_cases h : keyInt e.key = n
    · simp [h]
    · rw [if_neg h, findI_iff n es]; simp [Ne.symm h]
theorem map_count {B : Nat} {w : World} {b : Nat} {L : List Tr} (h : MapT B w b L) : ∃ es clock, w.heap[b]? = some (.map es clock) ∧ (es.size = L.length → (L.map (·.id)).Nodup) := by
  obtain ⟨m, ⟨es, clock, hb, hk, hm⟩, hv⟩ := h
  refine ⟨es, clock, hb, fun hsz => ?_⟩
  have hiff : ∀ n, n ∈ es.toList.map (fun e => keyInt e.key) ↔ n ∈ L.map (·.id) := fun n => by
    rw [← findI_iff, hm]
    have h1 := hv n
    have h2 := lastOf_none n L
    cases hl : lastOf n L with
    | none =>
      rw [hl] at h1 h2
      have : m n = none := h1
      rw [this]
      have := h2.1 rfl
      simp only [Option.isSome_none, Bool.false_eq_true, false_iff]; exact this
    | some x =>
      rw [hl] at h1 h2
      obtain ⟨A, c, h1, _⟩ := h1
      rw [h1]
      simp only [Option.isSome_some, true_iff]
      exact Classical.byContradiction fun hn => by have := h2.2 hn; cases this
  refine nodup_of (es.toList.map (fun e => keyInt e.key)) _ ?_ (fun x hx => (hiff x).1 hx) (by simp; omega)
  exact List.pairwise_map.2 hk.apart
theorem ids_length (t : Tr) : t.ids.length = t.nodes := by rw [← Tr.walk_ids t 1, List.length_map, Tr.walk_length]
theorem leaf_nodes (i : Int) : (leafT i).nodes = 1 := by simp [leafT, Tr.nodes, nodesL]
theorem apply_eq {t : Tr} {id par pl : Int} (h : t.nodes ≤ 2000) : applyMove t id par pl (leafT 0) = moveT t id par pl := by
  unfold applyMove; rw [if_pos ⟨h, by rw [leaf_nodes]; omega⟩]
set_option maxHeartbeats 8000000 in
set_option maxRecDepth 100000 in
theorem stepBack_walk (t : Tr) (s : Stp) (A : Option Addr) (c : Nat) (As : Option Addr) (cs : Nat) (w : World) (hT : TrC (fun b => b < w.heap.size) w t [.int .i64 (Tr.id t), .int .i64 (Tr.kind t), .string (Tr.text t), .slice A (Tr.kids t).length c]) :
    Calls Try.prog 3 #[.agg #[.int .i64 (Tr.id t), .int .i64 (Tr.kind t), .string (Tr.text t), .slice A (Tr.kids t).length c], .agg #[.int .i8 (Stp.op s), .int .i64 (Stp.id s), .int .i64 (Stp.par s), .int .i64 (Stp.place s), .string (Stp.text s), .int .i64 (Stp.sub s).id, .int .i64 (Stp.sub s).kind, .string (Stp.sub s).text, .slice As (Stp.sub s).kids.length cs]] w fun e w' => e = .returned (.bool true) ∧ Chg [] w w' := by
  have HT := Lib.hid hT
  clear hT
  go_enter Try.func3, Try.ntmps3
  go_wp2_with fail
  refine wp_world (fun X => X.heap[w.heap.size]? = some (.cells #[.int .i64 (Tr.id t), .int .i64 (Tr.kind t), .string (Tr.text t), .slice A (Tr.kids t).length c] 24 (0, 0)) ∧ X.heap[w.heap.size + 1]? = some (.cells #[.int .i8 (Stp.op s), .int .i64 (Stp.id s), .int .i64 (Stp.par s), .int .i64 (Stp.place s), .string (Stp.text s), .int .i64 (Stp.sub s).id, .int .i64 (Stp.sub s).kind, .string (Stp.sub s).text, .slice As (Stp.sub s).kids.length cs] 27 (0, 0)) ∧ Chg [] w X) ⟨heap_old (heap_new _ _ rfl) _, heap_new _ _ (by simp), (by with_reducible repeat (first | exact Chg.refl _ _ | apply Chg.alloc | apply Chg.drew | apply Chg.drewN | (refine Chg.setCell ?_ _ _ (by simp))))⟩ ?_
  rintro X ⟨hb0, hb1, hX⟩
  have x0 := blk4 hb0
  have x1 : X.cell? ⟨w.heap.size + 1, 0, none⟩ = some (.int .i8 s.op) := by simp [World.cell?, hb1]
  have HX := Lib.hid (And.intro hb0 (And.intro hb1 hX))
  have hg := great_t t A c X.drew ((HT.out.kept hX.drew (by simp)).weak (fun b hb _ => by have := hX.size; show b < X.heap.size; omega))
  have HG := Lib.hid hg
  clear hb0 hb1 hX hg
  refine wp_region_M (fun W => (W.cell? ⟨w.heap.size, 0, none⟩ = some (.int .i64 t.id) ∧ W.cell? ⟨w.heap.size, 1, none⟩ = some (.int .i64 t.kind) ∧ W.cell? ⟨w.heap.size, 2, none⟩ = some (.string t.text) ∧ W.cell? ⟨w.heap.size, 3, none⟩ = some (.slice A t.kids.length c)) ∧ W.cell? ⟨w.heap.size + 1, 0, none⟩ = some (.int .i8 s.op) ∧ Chg [] X W) (fun k => [1, 4, 7].contains k) (fun k => false) (by kernel_rfl) ?_
  ((try dsimp only); (try simp only [Act.put, List.setIfInBounds_toArray, List.set_cons_zero, List.set_cons_succ]))
  obtain ⟨x00, x01, x02, x03⟩ := x0
  refine M_take (i := 0) (v := ?_) rfl (by kernel_rfl) (by kernel_rfl) (by kernel_rfl) (by kernel_rfl) (fun _ _ _ h => h) (by rfl) ?hy ?_; (case hy => (go_simp; with_reducible rfl)); ((try dsimp only); (try simp only [Act.put, List.setIfInBounds_toArray, List.set_cons_zero, List.set_cons_succ]))
  refine M_eff (i := 1) rfl (by kernel_rfl) (by rfl) ?_
  go_wp2_with (go_at_call 14; refine HG.out.mono ?_; rintro e Y ⟨r, rfl, hr, hY⟩)
  have hXY : Chg [] X Y := (Chg.drew (Chg.refl [] X)).trans hY
  have hSY : (Y.cell? ⟨w.heap.size, 0, none⟩ = some (.int .i64 t.id) ∧ Y.cell? ⟨w.heap.size, 1, none⟩ = some (.int .i64 t.kind) ∧ Y.cell? ⟨w.heap.size, 2, none⟩ = some (.string t.text) ∧ Y.cell? ⟨w.heap.size, 3, none⟩ = some (.slice A t.kids.length c)) ∧ Y.cell? ⟨w.heap.size + 1, 0, none⟩ = some (.int .i8 s.op) ∧ Chg [] X Y := ⟨⟨hXY.cell x00 (by simp), hXY.cell x01 (by simp), hXY.cell x02 (by simp), hXY.cell x03 (by simp)⟩, hXY.cell x1 (by simp), hXY⟩
  refine ⟨hSY, ?_⟩
  ((try dsimp only); (try simp only [Act.put, List.setIfInBounds_toArray, List.set_cons_zero, List.set_cons_succ]))
  refine M_pure (i := 2) (v := ?_) rfl (by kernel_rfl) (by kernel_rfl) (by kernel_rfl) (fun _ _ _ h => h) (by rfl) ?hy ?_; (case hy => (intro w; go_simp; with_reducible rfl)); ((try dsimp only); (try simp only [Act.put, List.setIfInBounds_toArray, List.set_cons_zero, List.set_cons_succ]))
  cases r with
  | true =>
    refine M_skip (i := 3) rfl (by kernel_rfl) (by kernel_rfl) (by kernel_rfl) (fun _ _ _ h => h) (by rfl) ?_; ((try dsimp only); (try simp only [Act.put, List.setIfInBounds_toArray, List.set_cons_zero, List.set_cons_succ]))
    refine M_skip (i := 4) rfl (by kernel_rfl) (by kernel_rfl) (by kernel_rfl) (fun _ _ _ h => h) (by rfl) ?_; ((try dsimp only); (try simp only [Act.put, List.setIfInBounds_toArray, List.set_cons_zero, List.set_cons_succ]))
    refine M_skip (i := 5) rfl (by kernel_rfl) (by kernel_rfl) (by kernel_rfl) (fun _ _ _ h => h) (by rfl) ?_; ((try dsimp only); (try simp only [Act.put, List.setIfInBounds_toArray, List.set_cons_zero, List.set_cons_succ]))
    refine M_skip (i := 6) rfl (by kernel_rfl) (by kernel_rfl) (by kernel_rfl) (fun _ _ _ h => h) (by rfl) ?_; ((try dsimp only); (try simp only [Act.put, List.setIfInBounds_toArray, List.set_cons_zero, List.set_cons_succ]))
    refine M_skip (i := 7) rfl (by kernel_rfl) (by kernel_rfl) (by kernel_rfl) (fun _ _ _ h => h) (by rfl) ?_; ((try dsimp only); (try simp only [Act.put, List.setIfInBounds_toArray, List.set_cons_zero, List.set_cons_succ]))
    refine M_skip (i := 8) rfl (by kernel_rfl) (by kernel_rfl) (by kernel_rfl) (fun _ _ _ h => h) (by rfl) ?_; ((try dsimp only); (try simp only [Act.put, List.setIfInBounds_toArray, List.set_cons_zero, List.set_cons_succ]))
    refine M_skip (i := 9) rfl (by kernel_rfl) (by kernel_rfl) (by kernel_rfl) (fun _ _ _ h => h) (by rfl) ?_; ((try dsimp only); (try simp only [Act.put, List.setIfInBounds_toArray, List.set_cons_zero, List.set_cons_succ]))
    refine M_pure (i := 10) (v := ?_) rfl (by kernel_rfl) (by kernel_rfl) (by kernel_rfl) (fun _ _ _ h => h) (by rfl) ?hy ?_; (case hy => (intro w; go_simp; with_reducible rfl)); ((try dsimp only); (try simp only [Act.put, List.setIfInBounds_toArray, List.set_cons_zero, List.set_cons_succ]))
    refine M_pure (i := 11) (v := ?_) rfl (by kernel_rfl) (by kernel_rfl) (by kernel_rfl) (fun _ _ _ h => h) (by rfl) ?hy ?_; (case hy => (intro w; go_simp; with_reducible rfl)); ((try dsimp only); (try simp only [Act.put, List.setIfInBounds_toArray, List.set_cons_zero, List.set_cons_succ]))
    refine M_skip (i := 12) rfl (by kernel_rfl) (by kernel_rfl) (by kernel_rfl) (fun _ _ _ h => h) (by rfl) ?_; ((try dsimp only); (try simp only [Act.put, List.setIfInBounds_toArray, List.set_cons_zero, List.set_cons_succ]))
    refine M_skip (i := 13) rfl (by kernel_rfl) (by kernel_rfl) (by kernel_rfl) (fun _ _ _ h => h) (by rfl) ?_; ((try dsimp only); (try simp only [Act.put, List.setIfInBounds_toArray, List.set_cons_zero, List.set_cons_succ]))
    refine M_skip (i := 14) rfl (by kernel_rfl) (by kernel_rfl) (by kernel_rfl) (fun _ _ _ h => h) (by rfl) ?_; ((try dsimp only); (try simp only [Act.put, List.setIfInBounds_toArray, List.set_cons_zero, List.set_cons_succ]))
    refine M_pure (i := 15) (v := ?_) rfl (by kernel_rfl) (by kernel_rfl) (by kernel_rfl) (fun _ _ _ h => h) (by rfl) ?hy ?_; (case hy => (intro w; go_simp; with_reducible rfl)); ((try dsimp only); (try simp only [Act.put, List.setIfInBounds_toArray, List.set_cons_zero, List.set_cons_succ]))
    refine M_done (by kernel_rfl) ?_ _
    have HF := Lib.hid (HX.out.2.2.trans hXY)
    clear hXY hSY hr hY x00 x01 x02 x03 x1
    go_wp2_with (go_at_call 17; refine (swakes_any _).mono ?_; rintro e V ⟨rfl, hV⟩; have HV := Lib.hid hV; clear hV)
    go_ret
    exact ⟨rfl, HF.out.trans HV.out⟩
  | false =>
    have hn250 := hr rfl
    obtain ⟨⟨y00, y01, y02, y03⟩, y1, _⟩ := id hSY
    have hids := ids_any t A c Y ((HT.out.kept (HX.out.2.2.trans hXY) (by simp)).weak (fun b hb _ => by have := HX.out.2.2.size; have := hXY.size; omega))
    have HI := Lib.hid hids
    clear hids hr hY x00 x01 x02 x03 x1
    refine M_take (i := 3) (v := ?_) rfl (by kernel_rfl) (by kernel_rfl) (by kernel_rfl) (by kernel_rfl) (fun _ _ _ h => h) (by rfl) ?hy ?_; (case hy => (go_simp; with_reducible rfl)); ((try dsimp only); (try simp only [Act.put, List.setIfInBounds_toArray, List.set_cons_zero, List.set_cons_succ]))
    refine M_semi (i := 6) (v := ?_) rfl (by kernel_rfl) (by kernel_rfl) (by kernel_rfl) (by kernel_rfl) (fun _ _ _ h => h) (by rfl) hSY ?hy ?_; (case hy => (intro w hS; go_simp; with_reducible rfl)); ((try dsimp only); (try simp only [Act.put, List.setIfInBounds_toArray, List.set_cons_zero, List.set_cons_succ]))
    refine M_eff (i := 4) rfl (by kernel_rfl) (by rfl) ?_
    go_wp2_with (go_at_call 15; refine HI.out.mono ?_; rintro e Z ⟨b, rfl, hMT, _, hZ⟩)
    have hXZ := hXY.trans hZ
    obtain ⟨es, clock, hes, hcount⟩ := map_count hMT
    have hSZ : (Z.cell? ⟨w.heap.size, 0, none⟩ = some (.int .i64 t.id) ∧ Z.cell? ⟨w.heap.size, 1, none⟩ = some (.int .i64 t.kind) ∧ Z.cell? ⟨w.heap.size, 2, none⟩ = some (.string t.text) ∧ Z.cell? ⟨w.heap.size, 3, none⟩ = some (.slice A t.kids.length c)) ∧ Z.cell? ⟨w.heap.size + 1, 0, none⟩ = some (.int .i8 s.op) ∧ Chg [] X Z := ⟨⟨hZ.cell y00 (by simp), hZ.cell y01 (by simp), hZ.cell y02 (by simp), hZ.cell y03 (by simp)⟩, hZ.cell y1 (by simp), hXZ⟩
    refine ⟨hSZ, ?_⟩
    refine M_more (fun _ => rfl) _ _ _ _ hSZ (T := fun W => W.heap[b]? = some (.map es clock)) hes ?_
    ((try dsimp only); (try simp only [Act.put, List.setIfInBounds_toArray, List.set_cons_zero, List.set_cons_succ]))
    refine M_semi (i := 5) rfl (by kernel_rfl) (by kernel_rfl) (by kernel_rfl) (by kernel_rfl) (fun _ _ _ h => h) (by rfl) ⟨hSZ, hes⟩ (fun w hS => exec_len_map (.tmp 16) rfl Try.underlying29 b es clock rfl hS.2) ?_
    ((try dsimp only); (try simp only [Act.put, List.setIfInBounds_toArray, List.set_cons_zero, List.set_cons_succ]))
    have hwk := walkT_any w.heap.size 251 (by omega) t A c Z (HT.out.kept (HX.out.2.2.trans hXZ) (by simp)) (by have := HX.out.2.2.size; have := hXZ.size; omega)
    have HW := Lib.hid hwk
    clear hwk
    refine M_eff (i := 7) rfl (by kernel_rfl) (by rfl) ?_
    go_wp2_with (go_at_call 16; refine HW.out.mono ?_; rintro e V ⟨v, rfl, hR, hV⟩)
    obtain ⟨Av, cv, rfl⟩ := hR.slice
    have hXV := hXZ.trans hV
    have hSV : (V.cell? ⟨w.heap.size, 0, none⟩ = some (.int .i64 t.id) ∧ V.cell? ⟨w.heap.size, 1, none⟩ = some (.int .i64 t.kind) ∧ V.cell? ⟨w.heap.size, 2, none⟩ = some (.string t.text) ∧ V.cell? ⟨w.heap.size, 3, none⟩ = some (.slice A t.kids.length c)) ∧ V.cell? ⟨w.heap.size + 1, 0, none⟩ = some (.int .i8 s.op) ∧ Chg [] X V := ⟨⟨hV.cell hSZ.1.1 (by simp), hV.cell hSZ.1.2.1 (by simp), hV.cell hSZ.1.2.2.1 (by simp), hV.cell hSZ.1.2.2.2 (by simp)⟩, hV.cell hSZ.2.1 (by simp), hXV⟩
    have v1 := hSV.2.1
    have hesV := hV.at hes (by simp)
    refine ⟨⟨hSV, hesV⟩, ?_⟩
    have hwl : ((t.walk 1).take 251) = t.walk 1 := List.take_of_length_le (by rw [Tr.walk_length]; omega)
    have hwl2 : ((t.walk 1).take 251).length = t.nodes := by rw [hwl, Tr.walk_length]
    rw [hwl2]
    have hnd : es.size = t.nodes → t.ids.Nodup := fun h => by
      have h1 : ((t.walk 1).take 1000) = t.walk 1 := List.take_of_length_le (by rw [Tr.walk_length]; omega)
      rw [h1] at hcount
      have := hcount (by rw [List.length_map, Tr.walk_length]; exact h)
      rw [List.map_map] at this
      rw [← Tr.walk_ids t 1]; exact this
    have HN := Lib.hid (And.intro hnd (And.intro hwl (HX.out.2.2.trans hXV)))
    have hbV0 := hXV.at HX.out.1 (by simp)
    have hbV1 := hXV.at HX.out.2.1 (by simp)
    have HB := Lib.hid (And.intro hbV0 hbV1)
    ((try dsimp only); (try simp only [Act.put, List.setIfInBounds_toArray, List.set_cons_zero, List.set_cons_succ]))
    refine M_pure (i := 8) (v := ?_) rfl (by kernel_rfl) (by kernel_rfl) (by kernel_rfl) (fun _ _ _ h => h) (by rfl) ?hy ?_; (case hy => (intro w; go_simp; with_reducible rfl)); ((try dsimp only); (try simp only [Act.put, List.setIfInBounds_toArray, List.set_cons_zero, List.set_cons_succ]))
    refine M_pure (i := 9) (v := ?_) rfl (by kernel_rfl) (by kernel_rfl) (by kernel_rfl) (fun _ _ _ h => h) (by rfl) ?hy ?_; (case hy => (intro w; go_simp; with_reducible rfl)); ((try dsimp only); (try simp only [Act.put, List.setIfInBounds_toArray, List.set_cons_zero, List.set_cons_succ]))
    by_cases hcnt : es.size = t.nodes
    · have hbb : ((es.size : Int) != (t.nodes : Int)) = false := by simp; omega
      rw [hbb]
      have HCn := Lib.hid hcnt
      clear hnd hwl hwl2 hbV0 hbV1 hR hes hcount hMT hZ hXZ hXY hSY hSZ hcnt y00 y01 y02 y03 y1
      refine M_pure (i := 10) (v := ?_) rfl (by kernel_rfl) (by kernel_rfl) (by kernel_rfl) (fun _ _ _ h => h) (by rfl) ?hy ?_; (case hy => (intro w; go_simp; with_reducible rfl)); ((try dsimp only); (try simp only [Act.put, List.setIfInBounds_toArray, List.set_cons_zero, List.set_cons_succ]))
      refine M_pure (i := 11) (v := ?_) rfl (by kernel_rfl) (by kernel_rfl) (by kernel_rfl) (fun _ _ _ h => h) (by rfl) ?hy ?_; (case hy => (intro w; go_simp; with_reducible rfl)); ((try dsimp only); (try simp only [Act.put, List.setIfInBounds_toArray, List.set_cons_zero, List.set_cons_succ]))
      refine M_pure (i := 12) (v := ?_) rfl (by kernel_rfl) (by kernel_rfl) (by kernel_rfl) (fun _ _ _ h => h) (by rfl) ?hy ?_; (case hy => (intro w; go_simp; with_reducible rfl)); ((try dsimp only); (try simp only [Act.put, List.setIfInBounds_toArray, List.set_cons_zero, List.set_cons_succ]))
      refine M_semi (i := 13) (v := ?_) rfl (by kernel_rfl) (by kernel_rfl) (by kernel_rfl) (by kernel_rfl) (fun _ _ _ h => h) (by rfl) ⟨hSV, hesV⟩ ?hy13 ?_
      case hy13 => (intro w hS; have hS1 := hS.1.2.1; clear hS; go_simp; with_reducible rfl)
      ((try dsimp only); (try simp only [Act.put, List.setIfInBounds_toArray, List.set_cons_zero, List.set_cons_succ]))
      refine M_pure (i := 14) (v := ?_) rfl (by kernel_rfl) (by kernel_rfl) (by kernel_rfl) (fun _ _ _ h => h) (by rfl) ?hy ?_; (case hy => (intro w; go_simp; with_reducible rfl)); ((try dsimp only); (try simp only [Act.put, List.setIfInBounds_toArray, List.set_cons_zero, List.set_cons_succ]))
      refine M_pure (i := 15) (v := ?_) rfl (by kernel_rfl) (by kernel_rfl) (by kernel_rfl) (fun _ _ _ h => h) (by rfl) ?hy ?_; (case hy => (intro w; go_simp; with_reducible rfl)); ((try dsimp only); (try simp only [Act.put, List.setIfInBounds_toArray, List.set_cons_zero, List.set_cons_succ]))
      refine M_done (by kernel_rfl) ?_ _
      clear hSV v1 hV hXV hesV hbb
      by_cases hop : s.op = 3
      · have e3 : (s.op != 3) = false := by simpa using hop
        obtain ⟨v0, v1, v2, v3⟩ := blk4 HB.out.1
        have s0 : V.cell? ⟨w.heap.size + 1, 1, none⟩ = some (.int .i64 s.id) := by simp [World.cell?, HB.out.2]
        have hVs : w.heap.size ≤ V.heap.size := HN.out.2.2.size
        have hpl := place_any t A c s.id V ((HT.out.kept HN.out.2.2 (by simp)).weak (fun b hb _ => by omega))
        rw [HN.out.2.1] at hpl
        have HP := Lib.hid hpl
        clear hpl
        have hnd := HN.out.1 HCn.out
        have back : ∀ t', moveT t s.id s.par s.place = .ok t' → ∃ P k, placeL s.id (t.walk 1) = some (P, k) ∧ moveT t' s.id P (k : Nat) = .ok t ∧ t'.ids.Perm t.ids := fun t' h => move_back hnd h
        have HBk := Lib.hid back
        clear hnd back hop
        have place4 : ∀ U, Chg [] V U → (U.cell? ⟨w.heap.size, 0, none⟩ = some (.int .i64 t.id) ∧ U.cell? ⟨w.heap.size, 1, none⟩ = some (.int .i64 t.kind) ∧ U.cell? ⟨w.heap.size, 2, none⟩ = some (.string t.text) ∧ U.cell? ⟨w.heap.size, 3, none⟩ = some (.slice A t.kids.length c)) ∧ U.cell? ⟨w.heap.size + 1, 1, none⟩ = some (.int .i64 s.id) ∧ U.cell? ⟨w.heap.size + 1, 2, none⟩ = some (.int .i64 s.par) ∧ U.cell? ⟨w.heap.size + 1, 3, none⟩ = some (.int .i64 s.place) := fun U hU => by
          have h0 := hU.at HB.out.1 (by simp)
          have h1 := hU.at HB.out.2 (by simp)
          exact ⟨blk4 h0, by simp [World.cell?, h1], by simp [World.cell?, h1], by simp [World.cell?, h1]⟩
        have H4 := Lib.hid place4
        clear place4
        have app : ∀ U, Chg [] V U → Calls Try.prog 19 #[.agg #[.int .i64 (Tr.id t), .int .i64 (Tr.kind t), .string (Tr.text t), .slice A (Tr.kids t).length c], .agg #[.int .i8 3, .int .i64 s.id, .int .i64 s.par, .int .i64 s.place, .string ⟨#[]⟩, .int .i64 0, .int .i64 0, .string ⟨#[]⟩, .slice none 0 0]] U (ApplyPost (moveT t s.id s.par s.place) U) := fun U hU => by
          rw [← apply_eq (show t.nodes ≤ 2000 by omega)]
          exact apply_zero t s.id s.par s.place A c U ((HT.out.kept (HN.out.2.2.trans hU) (by simp)).weak (fun b hb _ => by have := hU.size; omega))
        have HA := Lib.hid app
        clear app
        cases hz : placeL s.id (t.walk 1) with
        | none =>
          have HZ := Lib.hid hz
          clear hz
          go_wp2_with fail
          refine HP.out.mono ?_
          rintro e U ⟨rfl, hU⟩
          rw [HZ.out]
          unfold placeV
          obtain ⟨⟨u0, u1, u2, u3⟩, u4, u5, u6⟩ := H4.out U hU
          have ha := HA.out U hU
          have HU := Lib.hid hU
          clear hU
          cases hm : moveT t s.id s.par s.place with
          | ok t' =>
            obtain ⟨P, k, h1, _⟩ := HBk.out t' hm
            have := HZ.out
            rw [this] at h1; cases h1
          | error n =>
            have hn0 := moveT_ne hm
            have e0 : (n != 0) = true := by simpa using hn0
            rw [hm] at ha
            have HM := Lib.hid ha
            clear ha hm hn0
            go_wp2_with fail
            refine HM.out.mono ?_
            rintro e U2 ⟨rfl, hU2⟩
            have HU2 := Lib.hid hU2
            clear hU2
            go_wp2_with (go_at_call 17; refine (swakes_any _).mono ?_; rintro e U3 ⟨rfl, hV⟩; have HV := Lib.hid hV; clear hV)
            go_ret
            exact ⟨rfl, (HN.out.2.2.trans (HU.out.trans (HU2.out.trans ((Chg.alloc (Chg.refl _ _) _).trans HV.out))))⟩
        | some pk =>
          obtain ⟨P, k⟩ := pk
          have HZ := Lib.hid hz
          clear hz
          go_wp2_with fail
          refine HP.out.mono ?_
          rintro e U ⟨rfl, hU⟩
          rw [HZ.out]
          unfold placeV
          obtain ⟨⟨u0, u1, u2, u3⟩, u4, u5, u6⟩ := H4.out U hU
          have ha := HA.out U hU
          have HU := Lib.hid hU
          clear hU
          cases hm : moveT t s.id s.par s.place with
          | error n =>
            have hn0 := moveT_ne hm
            have e0 : (n != 0) = true := by simpa using hn0
            rw [hm] at ha
            have HM := Lib.hid ha
            clear ha hm hn0
            go_wp2_with fail
            refine HM.out.mono ?_
            rintro e U2 ⟨rfl, hU2⟩
            have HU2 := Lib.hid hU2
            clear hU2
            go_wp2_with (go_at_call 17; refine (swakes_any _).mono ?_; rintro e U3 ⟨rfl, hV⟩; have HV := Lib.hid hV; clear hV)
            go_ret
            exact ⟨rfl, (HN.out.2.2.trans (HU.out.trans (HU2.out.trans ((Chg.alloc (Chg.refl _ _) _).trans HV.out))))⟩
          | ok t' =>
            obtain ⟨P', k', h1, h2, h3⟩ := HBk.out t' hm
            rw [HZ.out] at h1
            cases h1
            have hnt : t'.nodes ≤ 2000 := by rw [← ids_length, h3.length_eq, ids_length]; omega
            rw [← apply_eq hnt] at h2
            rw [hm] at ha
            have HM := Lib.hid (And.intro ha h2)
            clear ha hm h2 h3 hnt
            go_wp2_with fail
            refine HM.out.1.mono ?_
            rintro e U2 ⟨A2, c2, rfl, hV2, hU2⟩
            have hc1 : Chg [] U2 (U2.alloc (.cells #[.int .i64 (Tr.id t'), .int .i64 (Tr.kind t'), .string (Tr.text t'), .slice A2 (Tr.kids t').length c2] 24)) := (by with_reducible repeat (first | exact Chg.refl _ _ | apply Chg.alloc | apply Chg.drew | apply Chg.drewN | (refine Chg.setCell ?_ _ _ (by simp))))
            have hVU3 := HU.out.trans (hU2.trans hc1)
            have hap2 := apply_zero t' s.id P k A2 c2 (U2.alloc (.cells #[.int .i64 (Tr.id t'), .int .i64 (Tr.kind t'), .string (Tr.text t'), .slice A2 (Tr.kids t').length c2] 24)) ((hV2.toC.kept hc1 (by simp)).weak (fun b hb _ => by have := hc1.size; omega))
            rw [HM.out.2] at hap2
            obtain ⟨_, q4, _, _⟩ := H4.out _ hVU3
            have HQ := Lib.hid (And.intro hap2 hVU3)
            clear hap2 hVU3 hV2 hU2 hc1 u0 u1 u2 u3 u4 u5 u6 v0 v1 v2 v3 s0
            go_wp2_with fail
            refine HQ.out.1.mono ?_
            rintro e U4 ⟨A3, c3, rfl, hV4, hU4⟩
            have hc2 : Chg [] U4 (U4.alloc (.cells #[.int .i64 (Tr.id t), .int .i64 (Tr.kind t), .string (Tr.text t), .slice A3 (Tr.kids t).length c3] 24)) := (by with_reducible repeat (first | exact Chg.refl _ _ | apply Chg.alloc | apply Chg.drew | apply Chg.drewN | (refine Chg.setCell ?_ _ _ (by simp))))
            have hVU5 := HQ.out.2.trans (hU4.trans hc2)
            obtain ⟨⟨u0, u1, u2, u3⟩, _, _, _⟩ := H4.out _ hVU5
            have hsame := same_any t t A3 c3 A c (U4.alloc (.cells #[.int .i64 (Tr.id t), .int .i64 (Tr.kind t), .string (Tr.text t), .slice A3 (Tr.kids t).length c3] 24)) ((hV4.toC.kept hc2 (by simp)).weak (fun _ _ _ => trivial)) ((HT.out.kept (HN.out.2.2.trans hVU5) (by simp)).weak (fun _ _ _ => trivial))
            have HS := Lib.hid (And.intro hsame hVU5)
            clear hsame hVU5 hV4 hU4 hc2 q4
            go_wp2_with fail
            refine HS.out.1.mono ?_
            rintro e U6 ⟨r, rfl, hr, hU6⟩
            have hrt : r = true := hr.2 rfl
            subst hrt
            have HU6 := Lib.hid hU6
            clear hr hU6 u0 u1 u2 u3
            go_wp2_with (go_at_call 17; refine (swakes_any _).mono ?_; rintro e U7 ⟨rfl, hV⟩; have HV := Lib.hid hV; clear hV)
            go_ret
            exact ⟨rfl, HN.out.2.2.trans (HS.out.2.trans (HU6.out.trans HV.out))⟩
      · have e3 : (s.op != 3) = true := by simpa using hop
        clear hop
        go_wp2_with (go_at_call 17; refine (swakes_any _).mono ?_; rintro e U ⟨rfl, hV⟩; have HV := Lib.hid hV; clear hV)
        go_ret
        exact ⟨rfl, HN.out.2.2.trans HV.out⟩
    · have hbb : ((es.size : Int) != (t.nodes : Int)) = true := by simp; omega
      rw [hbb]
      clear hnd hwl hwl2 hbV0 hbV1 hR hes hcount hMT hZ hXZ hXY hSY hSZ hcnt y00 y01 y02 y03 y1
      refine M_pure (i := 10) (v := ?_) rfl (by kernel_rfl) (by kernel_rfl) (by kernel_rfl) (fun _ _ _ h => h) (by rfl) ?hy ?_; (case hy => (intro w; go_simp; with_reducible rfl)); ((try dsimp only); (try simp only [Act.put, List.setIfInBounds_toArray, List.set_cons_zero, List.set_cons_succ]))
      refine M_pure (i := 11) (v := ?_) rfl (by kernel_rfl) (by kernel_rfl) (by kernel_rfl) (fun _ _ _ h => h) (by rfl) ?hy ?_; (case hy => (intro w; go_simp; with_reducible rfl)); ((try dsimp only); (try simp only [Act.put, List.setIfInBounds_toArray, List.set_cons_zero, List.set_cons_succ]))
      refine M_skip (i := 12) rfl (by kernel_rfl) (by kernel_rfl) (by kernel_rfl) (fun _ _ _ h => h) (by rfl) ?_; ((try dsimp only); (try simp only [Act.put, List.setIfInBounds_toArray, List.set_cons_zero, List.set_cons_succ]))
      refine M_skip (i := 13) rfl (by kernel_rfl) (by kernel_rfl) (by kernel_rfl) (fun _ _ _ h => h) (by rfl) ?_; ((try dsimp only); (try simp only [Act.put, List.setIfInBounds_toArray, List.set_cons_zero, List.set_cons_succ]))
      refine M_skip (i := 14) rfl (by kernel_rfl) (by kernel_rfl) (by kernel_rfl) (fun _ _ _ h => h) (by rfl) ?_; ((try dsimp only); (try simp only [Act.put, List.setIfInBounds_toArray, List.set_cons_zero, List.set_cons_succ]))
      refine M_pure (i := 15) (v := ?_) rfl (by kernel_rfl) (by kernel_rfl) (by kernel_rfl) (fun _ _ _ h => h) (by rfl) ?hy ?_; (case hy => (intro w; go_simp; with_reducible rfl)); ((try dsimp only); (try simp only [Act.put, List.setIfInBounds_toArray, List.set_cons_zero, List.set_cons_succ]))
      refine M_done (by kernel_rfl) ?_ _
      clear hSV v1 hV hXV hn250 hesV
      go_wp2_with (go_at_call 17; refine (swakes_any _).mono ?_; rintro e U ⟨rfl, hV⟩; have HV := Lib.hid hV; clear hV)
      go_ret
      exact ⟨rfl, HN.out.2.2.trans HV.out⟩
end Go.Proofs.Ytofjocjljbkjgaa
