import Derived.Test.YtipijkpjmpejlaaRNetA
/- The contract of the reference's Look. -/
set_option linter.unusedVariables false
set_option linter.unusedSimpArgs false
namespace Go.Proofs.Ytipijkpjmpejlaa
open Go.RowKit
/-- A row of bools, cell by cell. -/
theorem held_at {w : World} {l : List (Msg × Bool)} {v : Value} (h : w.ownsRow 0 4 1 v l.length (bools l)) (h0 : 0 < l.length) : ∃ g c, v = .slice (some ⟨g, 0, none⟩) l.length c ∧ (∃ C, w.heap[g]? = some (.cells C 4 (0, 0))) ∧ ∀ (i : Nat) x, l[i]? = some x → w.cell? ⟨g, i, none⟩ = some (.bool x.2) := by
  rcases h.2 with ⟨rfl, hz⟩ | ⟨g, c, cur, rfl, hb, hg, h1, h2, h3, h4⟩
  · omega
  · refine ⟨g, c, rfl, ⟨cur, hg⟩, fun i x hx => ?_⟩
    have := World.ownsRow.cells (g := g) h rfl i (.bool x.2) (by rw [bools, List.getElem?_map, hx]; rfl)
    rwa [Addr.add_mid, Nat.zero_add] at this
set_option maxHeartbeats 4000000 in
set_option maxRecDepth 100000 in
theorem rlook_any (w : World) (r : Nat) (l : List (Msg × Bool)) (M : Nat → Prop) (h : RNetV w r l M) (k : Int) : Calls Try.prog 91 #[.pointer (some ⟨r, 0, none⟩), .int .i64 k] w (LookPost l k w) := by
  have hCb : Chg [] w (w.alloc (.cells #[.int .i8 0, .int .i64 0, .int .i64 0, .int .i64 0, .int .i64 0, .int .i64 0, .int .i64 0, .int .i64 0, .int .i64 0, .int .i64 0, .int .i64 0, .slice none 0 0, .int .i64 0, .int .i64 0, .string ⟨#[]⟩, .slice none 0 0] 39)) := (by with_reducible repeat (first | exact Chg.refl _ _ | apply Chg.alloc | apply Chg.drew | apply Chg.drewN | (refine Chg.setCell ?_ _ _ (by simp))))
  have hm : (Try.prog.info? 39).map (·.size) = some 16 := infoMsg
  have h1z : (#[.int .i8 0, .int .i64 0, .int .i64 0, .int .i64 0, .int .i64 0, .int .i64 0, .int .i64 0, .int .i64 0, .int .i64 0, .int .i64 0, .int .i64 0, .slice none 0 0, .int .i64 0, .int .i64 0, .string ⟨#[]⟩, .slice none 0 0] : Array Value).all (·.oneCell') = true := by simp [Value.oneCell']
  have HV := Lib.hid (And.intro h (And.intro hCb (And.intro hm h1z)))
  obtain ⟨vL, vH, css, h⟩ := h
  obtain ⟨Al, cl, rfl⟩ := h.sliceL
  obtain ⟨Ah, ch, rfl⟩ := h.sliceH
  have hbx := hCb.at h.box (by simp)
  have c0 := (cells2 hbx).1
  have c1 := (cells2 hbx).2
  have HN := Lib.hid h
  clear h hCb hm hbx h1z
  by_cases hk0 : k < 0
  · have HK := Lib.hid (show ¬ (0 ≤ k ∧ k < l.length) by omega)
    go_enter Try.func91, Try.ntmps91
    go_wp2_with (first
      | (refine wpList_store_row rfl 39 (.tmp 4) (.tmp 18) rfl w.heap.size rfl #[.int .i8 0, .int .i64 0, .int .i64 0, .int .i64 0, .int .i64 0, .int .i64 0, .int .i64 0, .int .i64 0, .int .i64 0, .int .i64 0, .int .i64 0, .slice none 0 0, .int .i64 0, .int .i64 0, .string ⟨#[]⟩, .slice none 0 0] rfl _ _ (heap_new _ _ rfl) HV.out.2.2.1 rfl HV.out.2.2.2 ?_; rw [setRow_new])
      | fail)
    exact bodyPost_ret (v := .tuple #[.agg #[.int .i8 0, .int .i64 0, .int .i64 0, .int .i64 0, .int .i64 0, .int .i64 0, .int .i64 0, .int .i64 0, .int .i64 0, .int .i64 0, .int .i64 0, .slice none 0 0, .int .i64 0, .int .i64 0, .string ⟨#[]⟩, .slice none 0 0], .bool false, .int .i64 4]) (results_row_tmp2 rfl _ _ w.heap.size _ _ _ _ _ _ rfl rfl rfl (heap_new _ _ rfl) Try.underlying39 rfl HV.out.2.2.1) rfl (.inl ⟨HK.out, rfl, HV.out.2.1⟩)
  · by_cases hk1 : (l.length : Int) ≤ k
    · have HK := Lib.hid (show ¬ (0 ≤ k ∧ k < l.length) by omega)
      go_enter Try.func91, Try.ntmps91
      go_wp2_with (first
        | (refine wpList_store_row rfl 39 (.tmp 4) (.tmp 18) rfl w.heap.size rfl #[.int .i8 0, .int .i64 0, .int .i64 0, .int .i64 0, .int .i64 0, .int .i64 0, .int .i64 0, .int .i64 0, .int .i64 0, .int .i64 0, .int .i64 0, .slice none 0 0, .int .i64 0, .int .i64 0, .string ⟨#[]⟩, .slice none 0 0] rfl _ _ (heap_new _ _ rfl) HV.out.2.2.1 rfl HV.out.2.2.2 ?_; rw [setRow_new])
        | fail)
      exact bodyPost_ret (v := .tuple #[.agg #[.int .i8 0, .int .i64 0, .int .i64 0, .int .i64 0, .int .i64 0, .int .i64 0, .int .i64 0, .int .i64 0, .int .i64 0, .int .i64 0, .int .i64 0, .slice none 0 0, .int .i64 0, .int .i64 0, .string ⟨#[]⟩, .slice none 0 0], .bool false, .int .i64 4]) (results_row_tmp2 rfl _ _ w.heap.size _ _ _ _ _ _ rfl rfl rfl (heap_new _ _ rfl) Try.underlying39 rfl HV.out.2.2.1) rfl (.inl ⟨HK.out, rfl, HV.out.2.1⟩)
    · obtain ⟨i, rfl⟩ : ∃ i : Nat, k = i := ⟨k.toNat, by omega⟩
      have hlt : i < l.length := by omega
      go_enter Try.func91, Try.ntmps91
      go_wp2_with fail
      obtain ⟨X, hXe⟩ : ∃ X, X = w.alloc (.cells #[.int .i8 0, .int .i64 0, .int .i64 0, .int .i64 0, .int .i64 0, .int .i64 0, .int .i64 0, .int .i64 0, .int .i64 0, .int .i64 0, .int .i64 0, .slice none 0 0, .int .i64 0, .int .i64 0, .string ⟨#[]⟩, .slice none 0 0] 39) := ⟨_, rfl⟩
      rw [← hXe] at c0 c1 ⊢
      have hwX : Chg [] w X := by rw [hXe]; exact (by with_reducible repeat (first | exact Chg.refl _ _ | apply Chg.alloc | apply Chg.drew | apply Chg.drewN | (refine Chg.setCell ?_ _ _ (by simp))))
      have kb : X.heap[w.heap.size]? = some (.cells #[.int .i8 0, .int .i64 0, .int .i64 0, .int .i64 0, .int .i64 0, .int .i64 0, .int .i64 0, .int .i64 0, .int .i64 0, .int .i64 0, .int .i64 0, .slice none 0 0, .int .i64 0, .int .i64 0, .string ⟨#[]⟩, .slice none 0 0] 39 (0, 0)) := by rw [hXe]; exact heap_new _ _ rfl
      obtain ⟨b, cb, C, hv, _, hb, hj1, hj2, hj3, hj4, hrg⟩ := HN.out.row.block (by rw [HN.out.len]; omega)
      clear hj1 hj2 hj3 hj4
      rw [HN.out.len] at hv
      injection hv with hv1 hv2 hv3
      clear hv2
      subst hv1 hv3
      obtain ⟨bh, cbh, hv, ⟨Ch, hbh⟩, hhe⟩ := held_at HN.out.held (by omega)
      injection hv with hv1 hv2 hv3
      clear hv2
      subst hv1 hv3
      have hic : i < css.length := by rw [HN.out.len]; exact hlt
      obtain ⟨⟨m, hd⟩, hx⟩ : ∃ x, l[i]? = some x := ⟨_, List.getElem?_eq_getElem hlt⟩
      obtain ⟨A, c, B, d, hcs, hM⟩ := HN.out.has i _ _ hx (List.getElem?_eq_getElem hic)
      have hr := hwX.range (hrg i hic) (by simp)
      rw [hcs] at hr
      have hr16 : X.drew.rangeAt b (i * 16) (#[.int .i8 (Msg.kind m), .int .i64 (Msg.frm m), .int .i64 (Msg.to m), .int .i64 (Msg.boot m), .int .i64 (Msg.server m), .int .i64 (Msg.number m), .int .i64 (Msg.node m), .int .i64 (Msg.lease m), .int .i64 (Msg.epoch m), .int .i64 (Msg.version m), .int .i64 (Msg.e m), .slice B (Msg.steps m).length d, .int .i64 (Msg.tree m).id, .int .i64 (Msg.tree m).kind, .string (Msg.tree m).text, .slice A (Msg.tree m).kids.length c] : Array Value).toList := hr
      have ch1 : X.cell? ⟨bh, i, none⟩ = some (.bool hd) := hwX.cell (hhe i _ hx) (by simp)
      have hfit : m.Fit := HN.out.fit (m, hd) (List.mem_of_getElem? hx)
      have hcall := rcopy_any m A c B d X.drew ((hM.kept hwX.drew (by simp)).weak (fun b hb _ => by have := HN.out.low b hb.1; have := hwX.size; simp; omega)) hfit
      have HX := Lib.hid (And.intro hcall (And.intro hwX (And.intro kb (And.intro hr16 hx))))
      clear hcall hwX kb hr16 hx hr hcs hM hfit hrg hXe hb hhe hbh
      refine wp_region_M (fun W => W.cell? ⟨r, 0, none⟩ = some (.slice (some ⟨b, 0, none⟩) l.length cl) ∧ W.cell? ⟨r, 1, none⟩ = some (.slice (some ⟨bh, 0, none⟩) l.length ch) ∧ W.cell? ⟨bh, i, none⟩ = some (.bool hd)) (fun k => [7, 15].contains k) (fun k => [].contains k) (by kernel_rfl) ?_
      ((try dsimp only); (try simp only [Act.put, List.setIfInBounds_toArray, List.set_cons_zero, List.set_cons_succ]))
      refine M_pure (i := 0) (v := ?_) rfl (by kernel_rfl) (by kernel_rfl) (by kernel_rfl) (fun _ _ _ h => h) (by rfl) ?hy ?_; (case hy => (intro w; go_simp; with_reducible rfl)); ((try dsimp only); (try simp only [Act.put, List.setIfInBounds_toArray, List.set_cons_zero, List.set_cons_succ]))
      refine M_pure (i := 1) (v := ?_) rfl (by kernel_rfl) (by kernel_rfl) (by kernel_rfl) (fun _ _ _ h => h) (by rfl) ?hy ?_; (case hy => (intro w; go_simp; with_reducible rfl)); ((try dsimp only); (try simp only [Act.put, List.setIfInBounds_toArray, List.set_cons_zero, List.set_cons_succ]))
      refine M_pure (i := 2) (v := ?_) rfl (by kernel_rfl) (by kernel_rfl) (by kernel_rfl) (fun _ _ _ h => h) (by rfl) ?hy ?_; (case hy => (intro w; go_simp; with_reducible rfl)); ((try dsimp only); (try simp only [Act.put, List.setIfInBounds_toArray, List.set_cons_zero, List.set_cons_succ]))
      refine M_take (i := 3) (v := ?_) rfl (by kernel_rfl) (by kernel_rfl) (by kernel_rfl) (by kernel_rfl) (fun _ _ _ h => h) (by rfl) ?hy ?_; (case hy => (go_simp; with_reducible rfl)); ((try dsimp only); (try simp only [Act.put, List.setIfInBounds_toArray, List.set_cons_zero, List.set_cons_succ]))
      refine M_pure (i := 4) (v := ?_) rfl (by kernel_rfl) (by kernel_rfl) (by kernel_rfl) (fun _ _ _ h => h) (by rfl) ?hy ?_; (case hy => (intro w; go_simp; with_reducible rfl)); ((try dsimp only); (try simp only [Act.put, List.setIfInBounds_toArray, List.set_cons_zero, List.set_cons_succ]))
      refine M_pure (i := 5) (v := ?_) rfl (by kernel_rfl) (by kernel_rfl) (by kernel_rfl) (fun _ _ _ h => h) (by rfl) ?hy ?_; (case hy => (intro w; go_simp; with_reducible rfl)); ((try dsimp only); (try simp only [Act.put, List.setIfInBounds_toArray, List.set_cons_zero, List.set_cons_succ]))
      refine M_take (i := 6) rfl (by kernel_rfl) (by kernel_rfl) (by kernel_rfl) (by kernel_rfl) (fun _ _ _ h => h) (by rfl) (exec_load_mid 39 (.tmp 24) rfl b (i * 16) rfl _ _ (w := X.drew) HX.out.2.2.2.1 Try.underlying39 rfl infoMsg) ?_; ((try dsimp only); (try simp only [Act.put, List.setIfInBounds_toArray, List.set_cons_zero, List.set_cons_succ]))
      refine M_pure (i := 8) (v := ?_) rfl (by kernel_rfl) (by kernel_rfl) (by kernel_rfl) (fun _ _ _ h => h) (by rfl) ?hy ?_; (case hy => (intro w; go_simp; with_reducible rfl)); ((try dsimp only); (try simp only [Act.put, List.setIfInBounds_toArray, List.set_cons_zero, List.set_cons_succ]))
      refine M_pure (i := 9) (v := ?_) rfl (by kernel_rfl) (by kernel_rfl) (by kernel_rfl) (fun _ _ _ h => h) (by rfl) ?hy ?_; (case hy => (intro w; go_simp; with_reducible rfl)); ((try dsimp only); (try simp only [Act.put, List.setIfInBounds_toArray, List.set_cons_zero, List.set_cons_succ]))
      refine M_pure (i := 10) (v := ?_) rfl (by kernel_rfl) (by kernel_rfl) (by kernel_rfl) (fun _ _ _ h => h) (by rfl) ?hy ?_; (case hy => (intro w; go_simp; with_reducible rfl)); ((try dsimp only); (try simp only [Act.put, List.setIfInBounds_toArray, List.set_cons_zero, List.set_cons_succ]))
      refine M_semi (i := 11) (v := ?_) rfl (by kernel_rfl) (by kernel_rfl) (by kernel_rfl) (by kernel_rfl) (fun _ _ _ h => h) (by rfl) ⟨c0, c1, ch1⟩ ?hy ?_; (case hy => (intro w hS; go_simp; with_reducible rfl)); ((try dsimp only); (try simp only [Act.put, List.setIfInBounds_toArray, List.set_cons_zero, List.set_cons_succ]))
      refine M_pure (i := 12) (v := ?_) rfl (by kernel_rfl) (by kernel_rfl) (by kernel_rfl) (fun _ _ _ h => h) (by rfl) ?hy ?_; (case hy => (intro w; go_simp; with_reducible rfl)); ((try dsimp only); (try simp only [Act.put, List.setIfInBounds_toArray, List.set_cons_zero, List.set_cons_succ]))
      refine M_pure (i := 13) (v := ?_) rfl (by kernel_rfl) (by kernel_rfl) (by kernel_rfl) (fun _ _ _ h => h) (by rfl) ?hy ?_; (case hy => (intro w; go_simp; with_reducible rfl)); ((try dsimp only); (try simp only [Act.put, List.setIfInBounds_toArray, List.set_cons_zero, List.set_cons_succ]))
      refine M_semi (i := 14) (v := ?_) rfl (by kernel_rfl) (by kernel_rfl) (by kernel_rfl) (by kernel_rfl) (fun _ _ _ h => h) (by rfl) ⟨c0, c1, ch1⟩ ?hy ?_; (case hy => (intro w hS; go_simp; with_reducible rfl)); ((try dsimp only); (try simp only [Act.put, List.setIfInBounds_toArray, List.set_cons_zero, List.set_cons_succ]))
      refine M_eff (i := 7) rfl (by kernel_rfl) (by rfl) ?_
      go_wp2_with (go_at_call 108; refine HX.out.1.mono ?_; rintro e Y ⟨A1, c1', B1, d1, rfl, hM1, hXY⟩; have q0 := hXY.cell (show X.drew.cell? ⟨r, 0, none⟩ = _ from c0) (by simp); have q1 := hXY.cell (show X.drew.cell? ⟨r, 1, none⟩ = _ from c1) (by simp); have q2 := hXY.cell (show X.drew.cell? ⟨bh, i, none⟩ = _ from ch1) (by simp); have q3 := hXY.at (show X.drew.heap[w.heap.size]? = _ from HX.out.2.2.1) (by simp); have HY := Lib.hid (And.intro hM1 (And.intro hXY q3)); clear hM1 hXY q3)
      refine ⟨⟨q0, q1, q2⟩, ?_⟩
      ((try dsimp only); (try simp only [Act.put, List.setIfInBounds_toArray, List.set_cons_zero, List.set_cons_succ]))
      refine M_eff (i := 15) rfl (by kernel_rfl) (by rfl) ?_
      have h1c : (#[.int .i8 (Msg.kind m), .int .i64 (Msg.frm m), .int .i64 (Msg.to m), .int .i64 (Msg.boot m), .int .i64 (Msg.server m), .int .i64 (Msg.number m), .int .i64 (Msg.node m), .int .i64 (Msg.lease m), .int .i64 (Msg.epoch m), .int .i64 (Msg.version m), .int .i64 (Msg.e m), .slice B1 (Msg.steps m).length d1, .int .i64 (Msg.tree m).id, .int .i64 (Msg.tree m).kind, .string (Msg.tree m).text, .slice A1 (Msg.tree m).kids.length c1'] : Array Value).all (·.oneCell') = true := by simp [Value.oneCell']
      refine wpList_store_row rfl 39 (.tmp 4) (.tmp 26) rfl w.heap.size rfl #[.int .i8 (Msg.kind m), .int .i64 (Msg.frm m), .int .i64 (Msg.to m), .int .i64 (Msg.boot m), .int .i64 (Msg.server m), .int .i64 (Msg.number m), .int .i64 (Msg.node m), .int .i64 (Msg.lease m), .int .i64 (Msg.epoch m), .int .i64 (Msg.version m), .int .i64 (Msg.e m), .slice B1 (Msg.steps m).length d1, .int .i64 (Msg.tree m).id, .int .i64 (Msg.tree m).kind, .string (Msg.tree m).text, .slice A1 (Msg.tree m).kids.length c1'] rfl _ _ HY.out.2.2 HV.out.2.2.1 rfl h1c ?_
      have hrl := HN.out.low r HN.out.foot
      have hbl := HN.out.low bh (HN.out.ownH bh rfl).1
      have hC1 := setRow_chg Y w.heap.size #[.int .i8 (Msg.kind m), .int .i64 (Msg.frm m), .int .i64 (Msg.to m), .int .i64 (Msg.boot m), .int .i64 (Msg.server m), .int .i64 (Msg.number m), .int .i64 (Msg.node m), .int .i64 (Msg.lease m), .int .i64 (Msg.epoch m), .int .i64 (Msg.version m), .int .i64 (Msg.e m), .slice B1 (Msg.steps m).length d1, .int .i64 (Msg.tree m).id, .int .i64 (Msg.tree m).kind, .string (Msg.tree m).text, .slice A1 (Msg.tree m).kids.length c1']
      have z1 := setRow_heap Y w.heap.size _ #[.int .i8 (Msg.kind m), .int .i64 (Msg.frm m), .int .i64 (Msg.to m), .int .i64 (Msg.boot m), .int .i64 (Msg.server m), .int .i64 (Msg.number m), .int .i64 (Msg.node m), .int .i64 (Msg.lease m), .int .i64 (Msg.epoch m), .int .i64 (Msg.version m), .int .i64 (Msg.e m), .slice B1 (Msg.steps m).length d1, .int .i64 (Msg.tree m).id, .int .i64 (Msg.tree m).kind, .string (Msg.tree m).text, .slice A1 (Msg.tree m).kids.length c1'] _ _ HY.out.2.2
      have hsz1 : (Y.setRow w.heap.size #[.int .i8 (Msg.kind m), .int .i64 (Msg.frm m), .int .i64 (Msg.to m), .int .i64 (Msg.boot m), .int .i64 (Msg.server m), .int .i64 (Msg.number m), .int .i64 (Msg.node m), .int .i64 (Msg.lease m), .int .i64 (Msg.epoch m), .int .i64 (Msg.version m), .int .i64 (Msg.e m), .slice B1 (Msg.steps m).length d1, .int .i64 (Msg.tree m).id, .int .i64 (Msg.tree m).kind, .string (Msg.tree m).text, .slice A1 (Msg.tree m).kids.length c1']).heap.size = Y.heap.size := by simp
      have s0 := hC1.cell q0 (by simp; omega)
      have s1 := hC1.cell q1 (by simp; omega)
      have s2 := hC1.cell q2 (by simp; omega)
      have hXf := (HX.out.2.1.drew.trans HY.out.2.1).andThen hC1 (fun j hj => .inr (by simp at hj; omega))
      have hMf := HY.out.1.kept hC1 (fun x hx => by have := hx.1; have := lt_of_block HX.out.2.2.1; simp at *; omega)
      obtain ⟨Z, hZ⟩ : ∃ Z, Z = Y.setRow w.heap.size #[.int .i8 (Msg.kind m), .int .i64 (Msg.frm m), .int .i64 (Msg.to m), .int .i64 (Msg.boot m), .int .i64 (Msg.server m), .int .i64 (Msg.number m), .int .i64 (Msg.node m), .int .i64 (Msg.lease m), .int .i64 (Msg.epoch m), .int .i64 (Msg.version m), .int .i64 (Msg.e m), .slice B1 (Msg.steps m).length d1, .int .i64 (Msg.tree m).id, .int .i64 (Msg.tree m).kind, .string (Msg.tree m).text, .slice A1 (Msg.tree m).kids.length c1'] := ⟨_, rfl⟩
      rw [← hZ] at hC1 z1 hsz1 s0 s1 s2 hXf hMf ⊢
      have HZ := Lib.hid (And.intro z1 (And.intro hXf (And.intro hsz1 hMf)))
      refine wpList_nil ⟨⟨s0, s1, s2⟩, ?_⟩
      clear hC1 z1 hsz1 s0 s1 s2 hXf hMf h1c hZ q0 q1 q2 c0 c1 ch1 hrl hbl
      ((try dsimp only); (try simp only [Act.put, List.setIfInBounds_toArray, List.set_cons_zero, List.set_cons_succ]))
      refine M_pure (i := 16) (v := ?_) rfl (by kernel_rfl) (by kernel_rfl) (by kernel_rfl) (fun _ _ _ h => h) (by rfl) ?hy ?_; (case hy => (intro w; go_simp; with_reducible rfl)); ((try dsimp only); (try simp only [Act.put, List.setIfInBounds_toArray, List.set_cons_zero, List.set_cons_succ]))
      refine M_pure (i := 17) (v := ?_) rfl (by kernel_rfl) (by kernel_rfl) (by kernel_rfl) (fun _ _ _ h => h) (by rfl) ?hy ?_; (case hy => (intro w; go_simp; with_reducible rfl)); ((try dsimp only); (try simp only [Act.put, List.setIfInBounds_toArray, List.set_cons_zero, List.set_cons_succ]))
      refine M_done (by kernel_rfl) ?_ _
      go_wp2_with fail
      exact bodyPost_ret (v := .tuple #[.agg #[.int .i8 (Msg.kind m), .int .i64 (Msg.frm m), .int .i64 (Msg.to m), .int .i64 (Msg.boot m), .int .i64 (Msg.server m), .int .i64 (Msg.number m), .int .i64 (Msg.node m), .int .i64 (Msg.lease m), .int .i64 (Msg.epoch m), .int .i64 (Msg.version m), .int .i64 (Msg.e m), .slice B1 (Msg.steps m).length d1, .int .i64 (Msg.tree m).id, .int .i64 (Msg.tree m).kind, .string (Msg.tree m).text, .slice A1 (Msg.tree m).kids.length c1'], .bool hd, .int .i64 0]) (results_row_tmp2 rfl _ _ w.heap.size _ _ _ _ _ _ rfl rfl rfl HZ.out.1 Try.underlying39 rfl HV.out.2.2.1) rfl (.inr ⟨(m, hd), A1, c1', B1, d1, by omega, by simpa using HX.out.2.2.2.2, rfl, HZ.out.2.2.2.weak (fun x hx _ => ⟨by have := hx.1; have := HX.out.2.1.size; simp at *; omega, by rw [HZ.out.2.2.1]; exact hx.2⟩), HZ.out.2.1⟩)
end Go.Proofs.Ytipijkpjmpejlaa
