import Derived.Test.YtofjocjljbkjgaaTreeV
import Derived.Maps.AppendAt
/- The contracts of the program's steps: a tree in new memory. Condition: trees of at most 100,000 nodes. -/
set_option linter.unusedVariables false
set_option linter.unusedSimpArgs false
namespace Go.Proofs.Ytofjocjljbkjgaa
open Go.RowKit
/-- A tree that the call made. -/
def NewPost (t : Tr) (w : World) (e : Ending) (w' : World) : Prop := ∃ A c, e = .returned (.agg #[.int .i64 (Tr.id t), .int .i64 (Tr.kind t), .string (Tr.text t), .slice A (Tr.kids t).length c]) ∧ TrV w' t [.int .i64 (Tr.id t), .int .i64 (Tr.kind t), .string (Tr.text t), .slice A (Tr.kids t).length c] (fun g => w.heap.size ≤ g ∧ g < w'.heap.size) ∧ Chg [] w w'
theorem take_snoc' {α : Type} (l : List α) (k : Nat) (h : k < l.length) : l.take (k + 1) = l.take k ++ [l[k]] := by
  rw [List.take_succ_eq_append_getElem h]
theorem TrAt.kept {ok : Nat → Prop} {w w' : World} {g o : Nat} {t : Tr} {l : List Nat} (h : TrAt ok w g o t) (hc : Chg l w w') (hg : g ∉ l) (hl : ∀ g, ok g → g ∉ l) : TrAt ok w' g o t := by
  obtain ⟨cs, hr, ht⟩ := h
  exact ⟨cs, fun j v hv => hc.cell (hr j v hv) hg, ht.kept hc hl⟩
theorem TrAt.weak {ok ok' : Nat → Prop} {w : World} {g o : Nat} {t : Tr} (h : TrAt ok w g o t) (hl : ∀ g, ok g → ok' g) : TrAt ok' w g o t := by
  obtain ⟨cs, hr, ht⟩ := h
  exact ⟨cs, hr, ht.weak (fun g hg _ => hl g hg)⟩
/-- A node's own cells. -/
theorem TrAt.cells {ok : Nat → Prop} {w : World} {g o : Nat} {t : Tr} (h : TrAt ok w g o t) : ∃ A c, w.cell? ⟨g, o, none⟩ = some (.int .i64 t.id) ∧ w.cell? ⟨g, o + 1, none⟩ = some (.int .i64 t.kind) ∧ w.cell? ⟨g, o + 2, none⟩ = some (.string t.text) ∧ w.cell? ⟨g, o + 3, none⟩ = some (.slice A t.kids.length c) ∧ t.kids.length ≤ c ∧ c ≤ 9223372036854775807 ∧ t.text.size ≤ 9223372036854775807 ∧ KidsC ok w A t.kids := by
  obtain ⟨cs, hr, ht⟩ := h
  obtain ⟨A, c, rfl, h1, h2, h3, h4⟩ := ht.opens
  exact ⟨A, c, hr 0 _ rfl, hr 1 _ rfl, hr 2 _ rfl, hr 3 _ rfl, h1, h2, h3, h4⟩
theorem blk4 {w : World} {b : Nat} {a0 a1 a2 a3 : Value} {t : TypeId} {fr : Nat × Nat} (h : w.heap[b]? = some (.cells #[a0, a1, a2, a3] t fr)) : w.cell? ⟨b, 0, none⟩ = some a0 ∧ w.cell? ⟨b, 1, none⟩ = some a1 ∧ w.cell? ⟨b, 2, none⟩ = some a2 ∧ w.cell? ⟨b, 3, none⟩ = some a3 := by
  simp [World.cell?, h]
theorem blkF {w : World} {b : Nat} {C : Array Value} {t : TypeId} (h : w.heap[b]? = some (.cells C t (0, 0))) (i : Nat) : w.frozen? ⟨b, i, none⟩ = false := by simp [World.frozen?, h]
/-- A copy under way: the box of the copy, the kids so far. -/
structure Own (w wr : World) (t : Tr) (b k : Nat) (v : Value) : Prop where
  out : wr.heap[b]? = some (.cells #[.int .i64 t.id, .int .i64 t.kind, .string t.text, v] 24 (0, 0))
  chg : Chg [] w wr
  row : RowV wr (b + 1) v (t.kids.take k) (fun g => b < g)
theorem Own.kept {w wr w' : World} {t : Tr} {b k : Nat} {v : Value} (h : Own w wr t b k v) (hc : Chg [] wr w') : Own w w' t b k v := ⟨hc.at h.out (by simp), h.chg.trans hc, h.row.kept hc (by simp) (by simp)⟩
set_option maxHeartbeats 4000000 in
set_option maxRecDepth 100000 in
theorem own_any : ∀ (t : Tr) (g o : Nat) (w : World), TrAt (fun _ => True) w g o t → t.nodes ≤ 100000 → Calls Try.prog 57 #[.pointer (some ⟨g, o, none⟩)] w (NewPost t w) := by
  intro t
  induction t using Tr.ind with
  | h t ih =>
  intro g o w hT hN
  obtain ⟨ip, hi, hz0, hz1, hz2⟩ := info_parts infoNode
  obtain ⟨A, c, c0, c1, c2, c3, hlc, hcm, htx, hK⟩ := hT.cells
  have hg : g < w.heap.size := World.block_lt_of_cell? w _ c0
  have hlen : t.kids.length ≤ 100000 := by have := nodesL_len t.kids; rw [Tr.nodes_eq] at hN; omega
  have HI := Lib.hid (And.intro hi (And.intro hz0 (And.intro hz1 hz2)))
  have HH := Lib.hid (And.intro ih (And.intro hN (And.intro hcm (And.intro hlc (And.intro htx (And.intro hK hT))))))
  clear hi hz0 hz1 hz2 hT hK ih hN hcm hlc htx
  go_enter Try.func57, Try.ntmps57
  go_wp2
  refine wp_world (fun W => W.heap[w.heap.size]? = some (.cells #[.int .i64 0, .int .i64 0, .string ⟨#[]⟩, .slice none 0 0] 24 (0, 0)) ∧ Chg [] w W ∧ W.heap.size = w.heap.size + 1) ⟨heap_new _ _ rfl, (by with_reducible repeat (first | exact Chg.refl _ _ | apply Chg.alloc | apply Chg.drew | apply Chg.drewN | (refine Chg.setCell ?_ _ _ (by simp)))), by simp⟩ ?_
  rintro W ⟨hb0, hC0, hZ0⟩
  have d0 := hC0.cell c0 (by simp)
  have d1 := hC0.cell c1 (by simp)
  have d2 := hC0.cell c2 (by simp)
  have H0 := Lib.hid (And.intro hb0 (And.intro hC0 hZ0))
  clear hb0 hC0 hZ0
  refine wp_region_M (fun W => W.cell? ⟨g, o, none⟩ = some (.int .i64 t.id) ∧ W.cell? ⟨g, o + 1, none⟩ = some (.int .i64 t.kind) ∧ W.cell? ⟨g, o + 2, none⟩ = some (.string t.text)) (fun k => [13, 14].contains k) (fun k => [14].contains k) (by kernel_rfl) ?_
  ((try dsimp only); (try simp only [Act.put, List.setIfInBounds_toArray, List.set_cons_zero, List.set_cons_succ]))
  refine M_pure (i := 0) (v := ?_) rfl (by kernel_rfl) (by kernel_rfl) (by kernel_rfl) (fun _ _ _ h => h) (by rfl) ?hy ?_; (case hy => (intro w; go_simp; with_reducible rfl)); ((try dsimp only); (try simp only [Act.put, List.setIfInBounds_toArray, List.set_cons_zero, List.set_cons_succ]))
  refine M_pure (i := 1) (v := ?_) rfl (by kernel_rfl) (by kernel_rfl) (by kernel_rfl) (fun _ _ _ h => h) (by rfl) ?hy ?_; (case hy => (intro w; go_simp; with_reducible rfl)); ((try dsimp only); (try simp only [Act.put, List.setIfInBounds_toArray, List.set_cons_zero, List.set_cons_succ]))
  refine M_pure (i := 2) (v := ?_) rfl (by kernel_rfl) (by kernel_rfl) (by kernel_rfl) (fun _ _ _ h => h) (by rfl) ?hy ?_; (case hy => (intro w; go_simp; with_reducible rfl)); ((try dsimp only); (try simp only [Act.put, List.setIfInBounds_toArray, List.set_cons_zero, List.set_cons_succ]))
  refine M_semi (i := 3) (v := ?_) rfl (by kernel_rfl) (by kernel_rfl) (by kernel_rfl) (by kernel_rfl) (fun _ _ _ h => h) (by rfl) ⟨d0, d1, d2⟩ ?hy ?_; (case hy => (intro w hS; go_simp; with_reducible rfl)); ((try dsimp only); (try simp only [Act.put, List.setIfInBounds_toArray, List.set_cons_zero, List.set_cons_succ]))
  refine M_pure (i := 4) (v := ?_) rfl (by kernel_rfl) (by kernel_rfl) (by kernel_rfl) (fun _ _ _ h => h) (by rfl) ?hy ?_; (case hy => (intro w; go_simp; with_reducible rfl)); ((try dsimp only); (try simp only [Act.put, List.setIfInBounds_toArray, List.set_cons_zero, List.set_cons_succ]))
  refine M_pure (i := 5) (v := ?_) rfl (by kernel_rfl) (by kernel_rfl) (by kernel_rfl) (fun _ _ _ h => h) (by rfl) ?hy ?_; (case hy => (intro w; go_simp; with_reducible rfl)); ((try dsimp only); (try simp only [Act.put, List.setIfInBounds_toArray, List.set_cons_zero, List.set_cons_succ]))
  refine M_pure (i := 6) (v := ?_) rfl (by kernel_rfl) (by kernel_rfl) (by kernel_rfl) (fun _ _ _ h => h) (by rfl) ?hy ?_; (case hy => (intro w; go_simp; with_reducible rfl)); ((try dsimp only); (try simp only [Act.put, List.setIfInBounds_toArray, List.set_cons_zero, List.set_cons_succ]))
  refine M_semi (i := 7) (v := ?_) rfl (by kernel_rfl) (by kernel_rfl) (by kernel_rfl) (by kernel_rfl) (fun _ _ _ h => h) (by rfl) ⟨d0, d1, d2⟩ ?hy ?_; (case hy => (intro w hS; go_simp; with_reducible rfl)); ((try dsimp only); (try simp only [Act.put, List.setIfInBounds_toArray, List.set_cons_zero, List.set_cons_succ]))
  refine M_pure (i := 8) (v := ?_) rfl (by kernel_rfl) (by kernel_rfl) (by kernel_rfl) (fun _ _ _ h => h) (by rfl) ?hy ?_; (case hy => (intro w; go_simp; with_reducible rfl)); ((try dsimp only); (try simp only [Act.put, List.setIfInBounds_toArray, List.set_cons_zero, List.set_cons_succ]))
  refine M_pure (i := 9) (v := ?_) rfl (by kernel_rfl) (by kernel_rfl) (by kernel_rfl) (fun _ _ _ h => h) (by rfl) ?hy ?_; (case hy => (intro w; go_simp; with_reducible rfl)); ((try dsimp only); (try simp only [Act.put, List.setIfInBounds_toArray, List.set_cons_zero, List.set_cons_succ]))
  refine M_pure (i := 10) (v := ?_) rfl (by kernel_rfl) (by kernel_rfl) (by kernel_rfl) (fun _ _ _ h => h) (by rfl) ?hy ?_; (case hy => (intro w; go_simp; with_reducible rfl)); ((try dsimp only); (try simp only [Act.put, List.setIfInBounds_toArray, List.set_cons_zero, List.set_cons_succ]))
  refine M_semi (i := 11) (v := ?_) rfl (by kernel_rfl) (by kernel_rfl) (by kernel_rfl) (by kernel_rfl) (fun _ _ _ h => h) (by rfl) ⟨d0, d1, d2⟩ ?hy ?_; (case hy => (intro w hS; go_simp; with_reducible rfl)); ((try dsimp only); (try simp only [Act.put, List.setIfInBounds_toArray, List.set_cons_zero, List.set_cons_succ]))
  refine M_pure (i := 12) (v := ?_) rfl (by kernel_rfl) (by kernel_rfl) (by kernel_rfl) (fun _ _ _ h => h) (by rfl) ?hy ?_; (case hy => (intro w; go_simp; with_reducible rfl)); ((try dsimp only); (try simp only [Act.put, List.setIfInBounds_toArray, List.set_cons_zero, List.set_cons_succ]))
  refine M_eff (i := 13) rfl (by kernel_rfl) (by rfl) ?_
  go_wp2_with fail
  have hA1 : Chg [] W (W.drew.alloc (.cells #[.int .i64 0, .int .i64 0, .string ⟨#[]⟩, .slice none 0 0] 24)) := (by with_reducible repeat (first | exact Chg.refl _ _ | apply Chg.alloc | apply Chg.drew | apply Chg.drewN | (refine Chg.setCell ?_ _ _ (by simp))))
  refine ⟨⟨hA1.cell d0 (by simp), hA1.cell d1 (by simp), hA1.cell d2 (by simp)⟩, ?_⟩
  ((try dsimp only); (try simp only [Act.put, List.setIfInBounds_toArray, List.set_cons_zero, List.set_cons_succ]))
  refine M_brk (i := 14) rfl (by kernel_rfl) (by rfl) (by rfl) ?_
  go_wp2_with fail
  refine M_done (by kernel_rfl) ?_ _
  have hz0 := H0.out.2.2
  have hA2 : Chg [] W (W.alloc (.cells #[.int .i64 t.id, .int .i64 t.kind, .string t.text, .slice none 0 0] 24)).drew := (by with_reducible repeat (first | exact Chg.refl _ _ | apply Chg.alloc | apply Chg.drew | apply Chg.drewN | (refine Chg.setCell ?_ _ _ (by simp))))
  have e3 := (H0.out.2.1.trans hA2).cell c3 (by simp)
  go_wp2_with fail
  refine wp_world (fun X => Own w X t (w.heap.size + 1) 0 (.slice none 0 0) ∧ X.heap[w.heap.size]? = some (.cells #[.int .i64 0, .int .i64 0, .string ⟨#[]⟩, .slice none 0 0] 24 (0, 0))) ⟨⟨heap_new _ _ hz0.symm, H0.out.2.1.trans hA2, RowV.nil _ _ _⟩, hA2.at H0.out.1 (by simp)⟩ ?_
  rintro X ⟨hOwn, hRes⟩
  rw [hz0]
  have HX := Lib.hid (And.intro hOwn hRes)
  clear hOwn hRes H0 hz0 c0 c1 c2 d0 d1 d2 hA1 hA2 e3
  go_loopw [23] (fun i wr => ∃ (k : Nat) (v : Value), k ≤ t.kids.length ∧ i = .int .i64 k ∧ Hid (Own w wr t (w.heap.size + 1) k v ∧ wr.heap[w.heap.size]? = some (.cells #[.int .i64 0, .int .i64 0, .string ⟨#[]⟩, .slice none 0 0] 24 (0, 0)))) (fun i _ => t.kids.length - (intOf i).toNat)
  case atStart => exact ⟨0, _, Nat.zero_le _, rfl, HX.out⟩
  case round =>
    obtain ⟨k, v, hk, rfl, H⟩ := hrel
    clear HX
    by_cases hlt : k < t.kids.length
    · have e3 := H.out.1.chg.cell c3 (by simp)
      obtain ⟨p0, p1, p2, p3⟩ := blk4 H.out.1.out
      have hkid := HH.out.2.2.2.2.2.1.at hlt
      obtain ⟨gk, ok, hA, _, hat⟩ := hkid
      subst hA
      have hkn : (t.kids[k]).nodes ≤ 100000 := by have := nodesL_mem (List.getElem_mem hlt); have h2 := HH.out.2.1; rw [Tr.nodes_eq] at h2; omega
      have hcall := HH.out.1 (t.kids[k]) (List.getElem_mem hlt) gk (ok + k * 4) wr.drew (hat.kept (H.out.1.chg.drew) (by simp) (by simp)) hkn
      have HC := Lib.hid hcall
      clear hcall hat hkn
      go_wp2_with fail
      refine wp_region_M (fun W => W.cell? ⟨w.heap.size + 1, 3, none⟩ = some v) (fun k => [8, 9, 10, 12].contains k) (fun k => [12].contains k) (by kernel_rfl) ?_
      ((try dsimp only); (try simp only [Act.put, List.setIfInBounds_toArray, List.set_cons_zero, List.set_cons_succ]))
      refine M_pure (i := 0) (v := ?_) rfl (by kernel_rfl) (by kernel_rfl) (by kernel_rfl) (fun _ _ _ h => h) (by rfl) ?hy ?_; (case hy => (intro w; go_simp; with_reducible rfl)); ((try dsimp only); (try simp only [Act.put, List.setIfInBounds_toArray, List.set_cons_zero, List.set_cons_succ]))
      refine M_semi (i := 1) (v := ?_) rfl (by kernel_rfl) (by kernel_rfl) (by kernel_rfl) (by kernel_rfl) (fun _ _ _ h => h) (by rfl) p3 ?hy ?_; (case hy => (intro w hS; go_simp; with_reducible rfl)); ((try dsimp only); (try simp only [Act.put, List.setIfInBounds_toArray, List.set_cons_zero, List.set_cons_succ]))
      refine M_pure (i := 2) (v := ?_) rfl (by kernel_rfl) (by kernel_rfl) (by kernel_rfl) (fun _ _ _ h => h) (by rfl) ?hy ?_; (case hy => (intro w; go_simp; with_reducible rfl)); ((try dsimp only); (try simp only [Act.put, List.setIfInBounds_toArray, List.set_cons_zero, List.set_cons_succ]))
      refine M_pure (i := 3) (v := ?_) rfl (by kernel_rfl) (by kernel_rfl) (by kernel_rfl) (fun _ _ _ h => h) (by rfl) ?hy ?_; (case hy => (intro w; go_simp; with_reducible rfl)); ((try dsimp only); (try simp only [Act.put, List.setIfInBounds_toArray, List.set_cons_zero, List.set_cons_succ]))
      refine M_pure (i := 4) (v := ?_) rfl (by kernel_rfl) (by kernel_rfl) (by kernel_rfl) (fun _ _ _ h => h) (by rfl) ?hy ?_; (case hy => (intro w; go_simp; with_reducible rfl)); ((try dsimp only); (try simp only [Act.put, List.setIfInBounds_toArray, List.set_cons_zero, List.set_cons_succ]))
      refine M_take (i := 5) (v := ?_) rfl (by kernel_rfl) (by kernel_rfl) (by kernel_rfl) (by kernel_rfl) (fun _ _ _ h => h) (by rfl) ?hy ?_; (case hy => (go_simp; with_reducible rfl)); ((try dsimp only); (try simp only [Act.put, List.setIfInBounds_toArray, List.set_cons_zero, List.set_cons_succ]))
      refine M_pure (i := 6) (v := ?_) rfl (by kernel_rfl) (by kernel_rfl) (by kernel_rfl) (fun _ _ _ h => h) (by rfl) ?hy ?_; (case hy => (intro w; go_simp; with_reducible rfl)); ((try dsimp only); (try simp only [Act.put, List.setIfInBounds_toArray, List.set_cons_zero, List.set_cons_succ]))
      refine M_pure (i := 7) (v := ?_) rfl (by kernel_rfl) (by kernel_rfl) (by kernel_rfl) (fun _ _ _ h => h) (by rfl) ?hy ?_; (case hy => (intro w; go_simp; with_reducible rfl)); ((try dsimp only); (try simp only [Act.put, List.setIfInBounds_toArray, List.set_cons_zero, List.set_cons_succ]))
      refine M_eff (i := 8) rfl (by kernel_rfl) (by rfl) ?_
      go_wp2_with (go_at_call 57; refine HC.out.mono ?_; rintro e X ⟨A1, c1, rfl, hV, hX⟩; have HX := Lib.hid (And.intro hV hX); have q3 := hX.cell p3 (by simp); clear hV hX)
      refine ⟨q3, ?_⟩
      ((try dsimp only); (try simp only [Act.put, List.setIfInBounds_toArray, List.set_cons_zero, List.set_cons_succ]))
      refine M_eff (i := 9) rfl (by kernel_rfl) (by rfl) ?_
      refine wpList_slice_one rfl 22 24 (.tmp 34) rfl Try.underlying22 ip _ HI.out.1 HI.out.2.1 (by rw [HI.out.2.2.1]; rfl) (by rw [HI.out.2.2.1]; omega) (by rw [HI.out.2.2.1]; omega) _ rfl (by rw [HI.out.2.2.1]; rfl) ?_
      have hwr := lt_of_block H.out.1.out
      have hXs : wr.heap.size ≤ X.heap.size := HX.out.2.size
      have hXa : Chg [] X (X.alloc (.cells (Value.agg #[.int .i64 (t.kids[k]).id, .int .i64 (t.kids[k]).kind, .string (t.kids[k]).text, .slice A1 (t.kids[k]).kids.length c1]).cells 24)) := (by with_reducible repeat (first | exact Chg.refl _ _ | apply Chg.alloc | apply Chg.drew | apply Chg.drewN | (refine Chg.setCell ?_ _ _ (by simp))))
      obtain ⟨xs, hown, hgrow⟩ := H.out.1.row.growBox ((Chg.drew (Chg.refl [] wr)).trans HX.out.2) HX.out.1 (fun x hx => by omega) (Value.agg #[.int .i64 (t.kids[k]).id, .int .i64 (t.kids[k]).kind, .string (t.kids[k]).text, .slice A1 (t.kids[k]).kids.length c1]).cells
      rw [show (t.kids.take k).length = k from by simp; omega] at hown hgrow
      have HG := Lib.hid hgrow
      clear hgrow
      refine wpList_nil ⟨hXa.cell q3 (by simp), ?_⟩
      ((try dsimp only); (try simp only [Act.put, List.setIfInBounds_toArray, List.set_cons_zero, List.set_cons_succ]))
      refine M_eff (i := 10) rfl (by kernel_rfl) (by rfl) ?_
      refine wpList_append_own_at _ rfl (.tmp 27) (.tmp 35) 22 rfl _ 24 ip _ 4 56 Try.underlying22 HI.out.1 HI.out.2.1 HI.out.2.2.1 HI.out.2.2.2 rfl (by omega) v _ _ rfl hown ⟨X.heap.size, 0, none⟩ 1 1 _ rfl rfl (fun j u hu => by rw [Addr.add_mid]; exact range_all (heap_new X _ rfl) j u hu) (HX.out.1.one) (by unfold maxLen; omega) (by omega) (by simp; omega) ?_
      intro v' X3 hown' hgr _ hat
      have hC3 : Chg (v.ownBlock.toList) wr X3 := ((Chg.drew (Chg.refl [] wr)).trans (HX.out.2.trans hXa)).mono (by simp) |>.grown hgr (by intro k hk; rw [hk]; simp)
      have hrow3 := HG.out X3 v' hown' hgr hat
      rw [← take_snoc' _ _ hlt] at hrow3
      have hnb : ∀ b, b ∈ v.ownBlock.toList → w.heap.size + 1 < b := fun b hb => by have := H.out.1.row.own b (by simpa using hb); omega
      have hnb0 : w.heap.size ∉ v.ownBlock.toList := fun hm => by have := hnb _ hm; omega
      have hnb1 : w.heap.size + 1 ∉ v.ownBlock.toList := fun hm => by have := hnb _ hm; omega
      have hout3 := hC3.at H.out.1.out hnb1
      have hres3 := hC3.at H.out.2 hnb0
      obtain ⟨A', c', rfl⟩ := own_slice hown'
      have s3 := (blk4 hout3).2.2.2
      have f3 := blkF hout3 3
      have hnb3 : ∀ b, (Value.slice A' (k + 1) c').ownBlock = some b → w.heap.size + 1 < b := fun b hb => by have := hrow3.own b hb; omega
      have H3 := Lib.hid (And.intro hrow3 (And.intro hout3 (And.intro hres3 (And.intro (H.out.1.chg.andThen hC3 (fun i hi => .inr (by have := hnb i hi; omega))) hnb3))))
      clear hrow3 hout3 hres3 hown' hgr hat hXa hnb hnb3 hC3 HG q3
      refine wpList_nil ⟨s3, ?_⟩
      ((try dsimp only); (try simp only [Act.put, List.setIfInBounds_toArray, List.set_cons_zero, List.set_cons_succ]))
      refine M_pure (i := 11) (v := ?_) rfl (by kernel_rfl) (by kernel_rfl) (by kernel_rfl) (fun _ _ _ h => h) (by rfl) ?hy ?_; (case hy => (intro w; go_simp; with_reducible rfl)); ((try dsimp only); (try simp only [Act.put, List.setIfInBounds_toArray, List.set_cons_zero, List.set_cons_succ]))
      refine M_brk (i := 12) rfl (by kernel_rfl) (by rfl) (by rfl) ?_
      go_wp2_with fail
      refine M_done (by kernel_rfl) ?_ _
      go_wp2_with fail
      go_roundw
      case rel =>
        have hCs : Chg [w.heap.size + 1] X3 (X3.setCell ⟨w.heap.size + 1, 3, none⟩ (.slice A' (k + 1) c')) := (Chg.refl _ _).setCell _ _ (by simp)
        refine ⟨k + 1, .slice A' (k + 1) c', by omega, by go_num, ⟨⟨heap_setCell_same _ _ 3 _ _ _ H3.out.2.1, H3.out.2.2.2.1.andThen hCs (fun i hi => .inr (by simp at hi; omega)), H3.out.1.kept hCs (fun b hb => by have := H3.out.2.2.2.2 b hb; simp; omega) (fun g hg => by simp; omega)⟩, hCs.at H3.out.2.2.1 (by simp)⟩⟩
      case measure => simp [intOf]; omega
    · obtain rfl : k = t.kids.length := by omega
      have hrow := H.out.1.row
      rw [List.take_of_length_le (Nat.le_refl _)] at hrow
      obtain ⟨A', c', rfl, hV⟩ := hrow.node t HH.out.2.2.2.2.1
      have HV := Lib.hid hV
      clear hrow hV
      obtain ⟨q0, q1, q2, q3⟩ := blk4 H.out.1.out
      obtain ⟨r0, r1, r2, r3⟩ := blk4 H.out.2
      have f0 := blkF H.out.2 0
      have f1 := blkF H.out.2 1
      have f2 := blkF H.out.2 2
      have f3 := blkF H.out.2 3
      go_wp2
      have hC0 := chg4 wr w.heap.size (.int .i64 t.id) (.int .i64 t.kind) (.string t.text) (.slice A' t.kids.length c')
      have hsz := H.out.1.chg.size
      have hF : ∀ g, w.heap.size + 1 < g ∨ (Value.slice A' t.kids.length c').ownBlock = some g → w.heap.size < g := fun g hg => by
        rcases hg with hg | hg
        · omega
        · have := H.out.1.row.own g hg; omega
      refine bodyPost_ret (v := .agg #[.int .i64 (Tr.id t), .int .i64 (Tr.kind t), .string (Tr.text t), .slice A' (Tr.kids t).length c']) (results_cell_row rfl _ _ w.heap.size _ _ _ _ rfl (set4 H.out.2) Try.underlying24 rfl szNode) rfl ⟨A', c', rfl, ?_, H.out.1.chg.andThen hC0 (by simp)⟩
      exact ((HV.out.bound.weak (F' := fun g => w.heap.size < g ∧ g < wr.heap.size) (fun g hg => ⟨hF g hg.1, hg.2⟩)).kept hC0 (fun g hg => by simp; omega)).weak (fun g hg => ⟨by omega, Nat.lt_of_lt_of_le hg.2 hC0.size⟩)
end Go.Proofs.Ytofjocjljbkjgaa
