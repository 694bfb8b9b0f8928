import Derived.Test.YtofjocjljbkjgaaStepT
/- The contract of the program's steps: a node put in. -/
set_option linter.unusedVariables false
set_option linter.unusedSimpArgs false
namespace Go.Proofs.Ytofjocjljbkjgaa
open Go.RowKit
def PutPost (t x : Tr) (p g o : Nat) (F Fx : Nat → Prop) (w : World) (e : Ending) (w' : World) : Prop :=
  ∃ Ft, e = .returned (.tuple #[]) ∧ MutAt w' g o { t with kids := insAt t.kids p x } Ft ∧ (∀ y, Ft y → F y ∨ Fx y ∨ w.heap.size ≤ y) ∧ Fr g o F w w'
set_option maxHeartbeats 4000000 in
set_option maxRecDepth 100000 in
theorem put_any (t x : Tr) (p g o : Nat) (F Fx : Nat → Prop) (Ax : Option Addr) (cx : Nat) (w : World) (hM : MutAt w g o t F) (hX : TrV w x [.int .i64 (Tr.id x), .int .i64 (Tr.kind x), .string (Tr.text x), .slice Ax (Tr.kids x).length cx] Fx) (hd : ∀ y, Fx y → ¬ F y ∧ y ≠ g ∧ y < w.heap.size) (hp : p ≤ t.kids.length) (hN : t.kids.length ≤ 100000) :
    Calls Try.prog 132 #[.pointer (some ⟨g, o, none⟩), .int .i64 p, .agg #[.int .i64 (Tr.id x), .int .i64 (Tr.kind x), .string (Tr.text x), .slice Ax (Tr.kids x).length cx]] w (PutPost t x p g o F Fx w) := by
  obtain ⟨ip, hi, hz0, hz1, hz2⟩ := info_parts infoNode
  obtain ⟨A, c, hr, htx, hK⟩ := hM.open
  have hg := hM.glt
  have hlc := hK.le
  have hcm := hK.max
  have hAn := hK.nil
  obtain ⟨C0, ty0, hw0⟩ := hM.blk
  obtain ⟨olds, news, hol, hnl, hro, hrn, h1n, hrow⟩ := hK.insert hp
  have c3 : w.cell? ⟨g, o + 3, none⟩ = some (.slice A t.kids.length c) := hr 3 _ rfl
  have h1x := hX.one
  have HI := Lib.hid (And.intro hi (And.intro hz0 (And.intro hz1 hz2)))
  have HH := Lib.hid (And.intro hM (And.intro hX (And.intro hd (And.intro htx (And.intro hw0 (And.intro hol (And.intro hnl (And.intro hro (And.intro hrn (And.intro h1n (And.intro hrow (And.intro h1x hAn))))))))))))
  clear hi hz0 hz1 hz2 hM hX hd htx hw0 hol hnl hro hrn h1n hrow h1x hAn hr hK
  go_enter Try.func132, Try.ntmps132
  go_wp2_with fail
  refine wp_world (fun X => X.heap[w.heap.size]? = some (.cells #[.int .i64 (Tr.id x), .int .i64 (Tr.kind x), .string (Tr.text x), .slice Ax (Tr.kids x).length cx] 24 (0, 0)) ∧ Chg [] w X ∧ X.heap.size = w.heap.size + 1) ⟨heap_new _ _ rfl, (by with_reducible repeat (first | exact Chg.refl _ _ | apply Chg.alloc | apply Chg.drew | apply Chg.drewN | (refine Chg.setCell ?_ _ _ (by simp)))), by simp⟩ ?_
  rintro X ⟨hXb, hXc, hXs⟩
  have x3 := hXc.cell c3 (by simp)
  have hXr := range_all (w := X) (g := w.heap.size) hXb
  have HX := Lib.hid (And.intro hXb (And.intro hXc (And.intro hXs hXr)))
  clear hXb hXc hXs hXr
  refine wp_region_M (fun W => W.cell? ⟨g, o + 3, none⟩ = some (.slice A t.kids.length c)) (fun k => [9, 10, 17, 20].contains k) (fun k => [20].contains k) (by kernel_rfl) ?_
  ((try dsimp only); (try simp only [Act.put, List.setIfInBounds_toArray, List.set_cons_zero, List.set_cons_succ]))
  refine M_pure (i := 0) (v := ?_) rfl (by kernel_rfl) (by kernel_rfl) (by kernel_rfl) (fun _ _ _ h => h) (by rfl) ?hy ?_; (case hy => (intro w; go_simp; with_reducible rfl)); ((try dsimp only); (try simp only [Act.put, List.setIfInBounds_toArray, List.set_cons_zero, List.set_cons_succ]))
  refine M_pure (i := 1) (v := ?_) rfl (by kernel_rfl) (by kernel_rfl) (by kernel_rfl) (fun _ _ _ h => h) (by rfl) ?hy ?_; (case hy => (intro w; go_simp; with_reducible rfl)); ((try dsimp only); (try simp only [Act.put, List.setIfInBounds_toArray, List.set_cons_zero, List.set_cons_succ]))
  refine M_pure (i := 2) (v := ?_) rfl (by kernel_rfl) (by kernel_rfl) (by kernel_rfl) (fun _ _ _ h => h) (by rfl) ?hy ?_; (case hy => (intro w; go_simp; with_reducible rfl)); ((try dsimp only); (try simp only [Act.put, List.setIfInBounds_toArray, List.set_cons_zero, List.set_cons_succ]))
  refine M_pure (i := 3) (v := ?_) rfl (by kernel_rfl) (by kernel_rfl) (by kernel_rfl) (fun _ _ _ h => h) (by rfl) ?hy ?_; (case hy => (intro w; go_simp; with_reducible rfl)); ((try dsimp only); (try simp only [Act.put, List.setIfInBounds_toArray, List.set_cons_zero, List.set_cons_succ]))
  refine M_semi (i := 4) (v := ?_) rfl (by kernel_rfl) (by kernel_rfl) (by kernel_rfl) (by kernel_rfl) (fun _ _ _ h => h) (by rfl) x3 ?hy ?_; (case hy => (intro w hS; go_simp; with_reducible rfl)); ((try dsimp only); (try simp only [Act.put, List.setIfInBounds_toArray, List.set_cons_zero, List.set_cons_succ]))
  refine M_pure (i := 5) (v := ?_) rfl (by kernel_rfl) (by kernel_rfl) (by kernel_rfl) (fun _ _ _ h => h) (by rfl) ?hy ?_; (case hy => (intro w; go_simp; with_reducible rfl)); ((try dsimp only); (try simp only [Act.put, List.setIfInBounds_toArray, List.set_cons_zero, List.set_cons_succ]))
  refine M_pure (i := 6) (v := ?_) rfl (by kernel_rfl) (by kernel_rfl) (by kernel_rfl) (fun _ _ _ h => h) (by rfl) ?hy ?_; (case hy => (intro w; go_simp; with_reducible rfl)); ((try dsimp only); (try simp only [Act.put, List.setIfInBounds_toArray, List.set_cons_zero, List.set_cons_succ]))
  refine M_pure (i := 7) rfl (by kernel_rfl) (by kernel_rfl) (by kernel_rfl) (fun _ _ _ h => h) (by rfl) (fun w => exec_slice_pre 22 (.tmp 10) (.tmp 11) (.tmp 12) rfl undNDS szElem A t.kids.length c p rfl rfl rfl (by omega)) ?_
  ((try dsimp only); (try simp only [Act.put, List.setIfInBounds_toArray, List.set_cons_zero, List.set_cons_succ]))
  refine M_take (i := 8) rfl (by kernel_rfl) (by kernel_rfl) (by kernel_rfl) (by kernel_rfl) (fun _ _ _ h => h) (by rfl) (exec_load_mid 24 (.tmp 5) rfl w.heap.size 0 rfl _ _ (w := X.drew) HX.out.2.2.2 Try.underlying24 rfl szNode) ?_; ((try dsimp only); (try simp only [Act.put, List.setIfInBounds_toArray, List.set_cons_zero, List.set_cons_succ]))
  refine M_pure (i := 11) (v := ?_) rfl (by kernel_rfl) (by kernel_rfl) (by kernel_rfl) (fun _ _ _ h => h) (by rfl) ?hy ?_; (case hy => (intro w; go_simp; with_reducible rfl)); ((try dsimp only); (try simp only [Act.put, List.setIfInBounds_toArray, List.set_cons_zero, List.set_cons_succ]))
  refine M_pure (i := 12) (v := ?_) rfl (by kernel_rfl) (by kernel_rfl) (by kernel_rfl) (fun _ _ _ h => h) (by rfl) ?hy ?_; (case hy => (intro w; go_simp; with_reducible rfl)); ((try dsimp only); (try simp only [Act.put, List.setIfInBounds_toArray, List.set_cons_zero, List.set_cons_succ]))
  refine M_pure (i := 13) (v := ?_) rfl (by kernel_rfl) (by kernel_rfl) (by kernel_rfl) (fun _ _ _ h => h) (by rfl) ?hy ?_; (case hy => (intro w; go_simp; with_reducible rfl)); ((try dsimp only); (try simp only [Act.put, List.setIfInBounds_toArray, List.set_cons_zero, List.set_cons_succ]))
  refine M_semi (i := 14) (v := ?_) rfl (by kernel_rfl) (by kernel_rfl) (by kernel_rfl) (by kernel_rfl) (fun _ _ _ h => h) (by rfl) x3 ?hy ?_; (case hy => (intro w hS; go_simp; with_reducible rfl)); ((try dsimp only); (try simp only [Act.put, List.setIfInBounds_toArray, List.set_cons_zero, List.set_cons_succ]))
  refine M_pure (i := 15) (v := ?_) rfl (by kernel_rfl) (by kernel_rfl) (by kernel_rfl) (fun _ _ _ h => h) (by rfl) ?hy ?_; (case hy => (intro w; go_simp; with_reducible rfl)); ((try dsimp only); (try simp only [Act.put, List.setIfInBounds_toArray, List.set_cons_zero, List.set_cons_succ]))
  refine M_pure (i := 16) rfl (by kernel_rfl) (by kernel_rfl) (by kernel_rfl) (fun _ _ _ h => h) (by rfl) (fun w => exec_slice_post 22 (.tmp 20) (.tmp 21) rfl undNDS szElem A t.kids.length c p rfl rfl (by omega)) ?_
  ((try dsimp only); (try simp only [Act.put, List.setIfInBounds_toArray, List.set_cons_zero, List.set_cons_succ]))
  refine M_eff (i := 9) rfl (by kernel_rfl) (by rfl) ?_
  refine wpList_slice_one rfl 22 24 (.tmp 14) rfl Try.underlying22 ip _ HI.out.1 HI.out.2.1 (by rw [HI.out.2.2.1]; rfl) (by rw [HI.out.2.2.1]; omega) (by rw [HI.out.2.2.1]; omega) (.agg #[.int .i64 (Tr.id x), .int .i64 (Tr.kind x), .string (Tr.text x), .slice Ax (Tr.kids x).length cx]) rfl (by rw [HI.out.2.2.1]; rfl) ?_
  have hXa : Chg [] X (X.drew.alloc (.cells (.agg #[.int .i64 (Tr.id x), .int .i64 (Tr.kind x), .string (Tr.text x), .slice Ax (Tr.kids x).length cx] : Value).cells 24)) := (by with_reducible repeat (first | exact Chg.refl _ _ | apply Chg.alloc | apply Chg.drew | apply Chg.drewN | (refine Chg.setCell ?_ _ _ (by simp))))
  have ha3 := hXa.cell x3 (by simp)
  have HA := Lib.hid (HX.out.2.1.trans hXa)
  clear hXa
  refine wpList_nil ⟨ha3, ?_⟩
  ((try dsimp only); (try simp only [Act.put, List.setIfInBounds_toArray, List.set_cons_zero, List.set_cons_succ]))
  refine M_eff (i := 10) rfl (by kernel_rfl) (by rfl) ?_
  refine wpList_append_grows (X.drew.alloc (.cells (.agg #[.int .i64 (Tr.id x), .int .i64 (Tr.kind x), .string (Tr.text x), .slice Ax (Tr.kids x).length cx] : Value).cells 24)) rfl (.tmp 13) (.tmp 15) 22 rfl 24 ip _ 4 56 Try.underlying22 HI.out.1 HI.out.2.1 HI.out.2.2.1 HI.out.2.2.2 rfl (by omega) A p p olds rfl (fun h => by have := HH.out.2.2.2.2.2.2.2.2.2.2.2.2 h; omega) HH.out.2.2.2.2.2.1 (fun b' e j u hu => HA.out.cell (HH.out.2.2.2.2.2.2.2.1 b' e j u hu) (by simp)) ⟨X.drew.heap.size, 0, none⟩ 1 1 [.int .i64 (Tr.id x), .int .i64 (Tr.kind x), .string (Tr.text x), .slice Ax (Tr.kids x).length cx] rfl rfl (fun j u hu => by rw [Addr.add_mid]; exact range_all (heap_new X.drew _ rfl) j u hu) HH.out.2.2.2.2.2.2.2.2.2.2.2.1 (by omega) (by unfold maxLen; omega) (by omega) ?_
  intro v1 W1 hown hgr
  have hC1 : Chg [] w W1 := HA.out.grown hgr (by simp)
  obtain ⟨A1, c1, rfl⟩ := own_slice hown
  have hc1 : p + 1 ≤ c1 := by
    rcases hown.2 with ⟨_, h⟩ | ⟨_, _, _, h, _, _, h', _⟩
    · omega
    · injection h with _ _ h; omega
  have b3 := hC1.cell c3 (by simp)
  have hbase : w.heap.size ≤ (X.drew.alloc (.cells (.agg #[.int .i64 (Tr.id x), .int .i64 (Tr.kind x), .string (Tr.text x), .slice Ax (Tr.kids x).length cx] : Value).cells 24)).heap.size := by simp; have := HX.out.2.2.1; omega
  have H1 := Lib.hid (And.intro hown (And.intro hC1 hbase))
  clear hown hgr hC1 ha3 x3 hbase
  refine wpList_nil ⟨b3, ?_⟩
  ((try dsimp only); (try simp only [Act.put, List.setIfInBounds_toArray, List.set_cons_zero, List.set_cons_succ]))
  refine M_eff (i := 17) rfl (by kernel_rfl) (by rfl) ?_
  by_cases hlast : p = t.kids.length
  · rw [show t.kids.length - p = 0 from by omega]
    refine wpList_append_zero rfl (.tmp 16) (.tmp 22) 22 24 rfl ip Try.underlying22 HI.out.1 A1 (p + 1) c1 hc1 _ _ rfl rfl ?_
    obtain ⟨v2, hv2⟩ : ∃ v2, v2 = Value.slice A1 (p + 1) c1 := ⟨_, rfl⟩
    obtain ⟨W2, hW2⟩ : ∃ W2, W2 = W1 := ⟨_, rfl⟩
    have hn0 : news = [] := List.length_eq_zero_iff.1 (by rw [HH.out.2.2.2.2.2.2.1]; omega)
    have H2 := Lib.hid (And.intro (show W2.ownsRow _ 24 4 v2 (t.kids.length + 1) (olds ++ [.int .i64 (Tr.id x), .int .i64 (Tr.kind x), .string (Tr.text x), .slice Ax (Tr.kids x).length cx] ++ news) by rw [hW2, hv2, hn0, List.append_nil, ← hlast]; exact H1.out.1) (show Chg [] w W2 by rw [hW2]; exact H1.out.2.1))
    rw [← hv2, ← hW2]
    rw [← hW2] at b3
    clear hn0 hv2 hW2 hlast
    have hR := HH.out.2.2.2.2.2.2.2.2.2.2.1 W2 v2 _ x [.int .i64 (Tr.id x), .int .i64 (Tr.kind x), .string (Tr.text x), .slice Ax (Tr.kids x).length cx] Fx H2.out.2 H1.out.2.2 H2.out.1 (HH.out.2.1.kept H2.out.2 (by simp)) (fun y hy => ⟨(HH.out.2.2.1 y hy).1, Nat.lt_of_lt_of_le (HH.out.2.2.1 y hy).2.2 H2.out.2.size, fun e => by have := (H2.out.1.lt y e).1; have := (HH.out.2.2.1 y hy).2.2; have := H1.out.2.2; omega⟩) HH.out.1.lt
    have hvb := hR.own
    obtain ⟨A2, c2, rfl, hV⟩ := hR.node { t with kids := insAt t.kids p x } HH.out.2.2.2.1
    have hlen := insAt_length t.kids p x hp
    have HV := Lib.hid (And.intro hV (And.intro hvb hlen))
    clear hR hV hvb hlen
    have d3 := H2.out.2.cell c3 (by simp)
    have hg2 := H2.out.2.at HH.out.2.2.2.2.1 (by simp)
    have d4 := blkF hg2 (o + 3)
    have HG := Lib.hid hg2
    clear hg2 b3
    refine wpList_nil ⟨d3, ?_⟩
    ((try dsimp only); (try simp only [Act.put, List.setIfInBounds_toArray, List.set_cons_zero, List.set_cons_succ]))
    refine M_pure (i := 18) (v := ?_) rfl (by kernel_rfl) (by kernel_rfl) (by kernel_rfl) (fun _ _ _ h => h) (by rfl) ?hy ?_; (case hy => (intro w; go_simp; with_reducible rfl)); ((try dsimp only); (try simp only [Act.put, List.setIfInBounds_toArray, List.set_cons_zero, List.set_cons_succ]))
    refine M_pure (i := 19) (v := ?_) rfl (by kernel_rfl) (by kernel_rfl) (by kernel_rfl) (fun _ _ _ h => h) (by rfl) ?hy ?_; (case hy => (intro w; go_simp; with_reducible rfl)); ((try dsimp only); (try simp only [Act.put, List.setIfInBounds_toArray, List.set_cons_zero, List.set_cons_succ]))
    refine M_brk (i := 20) rfl (by kernel_rfl) (by rfl) (by rfl) ?_
    go_wp2_with fail
    refine M_done (by kernel_rfl) ?_ _
    go_wp2
    have hCs : Chg [g] W2 (W2.setCell ⟨g, o + 3, none⟩ (.slice A2 (insAt t.kids p x).length c2)) := (Chg.refl _ _).setCell _ _ (by simp)
    have hcZ : Chg [g] w (W2.setCell ⟨g, o + 3, none⟩ (.slice A2 (insAt t.kids p x).length c2)) := (H2.out.2.mono (by simp)).trans hCs
    have hFg : ∀ y, (F y ∨ Fx y) ∨ (Value.slice A2 (insAt t.kids p x).length c2).ownBlock = some y → y ≠ g := fun y hy e => by
      rcases hy with (h | h) | h
      · exact HH.out.1.nog (by rw [← e]; exact h)
      · exact (HH.out.2.2.1 y h).2.1 e
      · have := (HV.out.2.1 y h).1; have := H1.out.2.2; omega
    have hT := HH.out.1.turn HH.out.2.2.2.2.1 hcZ (A' := A2) (c' := c2) (ks' := insAt t.kids p x) (heap_setCell_same _ _ _ _ _ _ HG.out) ((HV.out.1.bound).kept hCs (fun y hy => by simpa using hFg y hy.1)) (fun h => hFg g h.1 rfl) (fun y hy => Nat.lt_of_lt_of_le hy.2 hCs.size)
    refine bodyPost_end (results_none rfl _ _ _) rfl ⟨_, rfl, hT.1, fun y hy => by
      rcases hy.1 with (h | h) | h
      · exact .inl h
      · exact .inr (.inl h)
      · exact .inr (.inr (by have := (HV.out.2.1 y h).1; have := H1.out.2.2; omega)), hT.2⟩
  · have hm : p < t.kids.length := by omega
    obtain ⟨b, rfl, hbl, hrn⟩ := HH.out.2.2.2.2.2.2.2.2.1 hm
    rw [tailA_some (show p < c from by omega)]
    refine wpList_append_own_at _ rfl (.tmp 16) (.tmp 22) 22 rfl _ 24 ip _ 4 56 Try.underlying22 HI.out.1 HI.out.2.1 HI.out.2.2.1 HI.out.2.2.2 rfl (by omega) (.slice A1 (p + 1) c1) _ _ rfl H1.out.1 ⟨b, p * 4, none⟩ (t.kids.length - p) (c - p) news rfl HH.out.2.2.2.2.2.2.1 (fun j u hu => by rw [Addr.add_mid]; exact H1.out.2.1.cell (hrn j u hu) (by simp)) HH.out.2.2.2.2.2.2.2.2.2.1 (by unfold maxLen; omega) (by omega) (by rcases H1.out.1.2 with ⟨_, h⟩ | ⟨g', _, _, _, h, hh, _⟩; omega; have := lt_of_block hh; omega) ?_
    intro v2 W2 hown2 hgr2 _ hat
    rw [show p + 1 + (t.kids.length - p) = t.kids.length + 1 from by omega] at hown2
    have H2 := Lib.hid (And.intro hown2 (show Chg [] w W2 from H1.out.2.1.grown hgr2 (fun k hk => .inr (by have := (H1.out.1.lt k hk).1; have := H1.out.2.2; omega))))
    clear hrn hown2 hgr2 hat
    have hR := HH.out.2.2.2.2.2.2.2.2.2.2.1 W2 v2 _ x [.int .i64 (Tr.id x), .int .i64 (Tr.kind x), .string (Tr.text x), .slice Ax (Tr.kids x).length cx] Fx H2.out.2 H1.out.2.2 H2.out.1 (HH.out.2.1.kept H2.out.2 (by simp)) (fun y hy => ⟨(HH.out.2.2.1 y hy).1, Nat.lt_of_lt_of_le (HH.out.2.2.1 y hy).2.2 H2.out.2.size, fun e => by have := (H2.out.1.lt y e).1; have := (HH.out.2.2.1 y hy).2.2; have := H1.out.2.2; omega⟩) HH.out.1.lt
    have hvb := hR.own
    obtain ⟨A2, c2, rfl, hV⟩ := hR.node { t with kids := insAt t.kids p x } HH.out.2.2.2.1
    have hlen := insAt_length t.kids p x hp
    have HV := Lib.hid (And.intro hV (And.intro hvb hlen))
    clear hR hV hvb hlen
    have d3 := H2.out.2.cell c3 (by simp)
    have hg2 := H2.out.2.at HH.out.2.2.2.2.1 (by simp)
    have d4 := blkF hg2 (o + 3)
    have HG := Lib.hid hg2
    clear hg2 b3
    refine wpList_nil ⟨d3, ?_⟩
    ((try dsimp only); (try simp only [Act.put, List.setIfInBounds_toArray, List.set_cons_zero, List.set_cons_succ]))
    refine M_pure (i := 18) (v := ?_) rfl (by kernel_rfl) (by kernel_rfl) (by kernel_rfl) (fun _ _ _ h => h) (by rfl) ?hy ?_; (case hy => (intro w; go_simp; with_reducible rfl)); ((try dsimp only); (try simp only [Act.put, List.setIfInBounds_toArray, List.set_cons_zero, List.set_cons_succ]))
    refine M_pure (i := 19) (v := ?_) rfl (by kernel_rfl) (by kernel_rfl) (by kernel_rfl) (fun _ _ _ h => h) (by rfl) ?hy ?_; (case hy => (intro w; go_simp; with_reducible rfl)); ((try dsimp only); (try simp only [Act.put, List.setIfInBounds_toArray, List.set_cons_zero, List.set_cons_succ]))
    refine M_brk (i := 20) rfl (by kernel_rfl) (by rfl) (by rfl) ?_
    go_wp2_with fail
    refine M_done (by kernel_rfl) ?_ _
    go_wp2
    have hCs : Chg [g] W2 (W2.setCell ⟨g, o + 3, none⟩ (.slice A2 (insAt t.kids p x).length c2)) := (Chg.refl _ _).setCell _ _ (by simp)
    have hcZ : Chg [g] w (W2.setCell ⟨g, o + 3, none⟩ (.slice A2 (insAt t.kids p x).length c2)) := (H2.out.2.mono (by simp)).trans hCs
    have hFg : ∀ y, (F y ∨ Fx y) ∨ (Value.slice A2 (insAt t.kids p x).length c2).ownBlock = some y → y ≠ g := fun y hy e => by
      rcases hy with (h | h) | h
      · exact HH.out.1.nog (by rw [← e]; exact h)
      · exact (HH.out.2.2.1 y h).2.1 e
      · have := (HV.out.2.1 y h).1; have := H1.out.2.2; omega
    have hT := HH.out.1.turn HH.out.2.2.2.2.1 hcZ (A' := A2) (c' := c2) (ks' := insAt t.kids p x) (heap_setCell_same _ _ _ _ _ _ HG.out) ((HV.out.1.bound).kept hCs (fun y hy => by simpa using hFg y hy.1)) (fun h => hFg g h.1 rfl) (fun y hy => Nat.lt_of_lt_of_le hy.2 hCs.size)
    refine bodyPost_end (results_none rfl _ _ _) rfl ⟨_, rfl, hT.1, fun y hy => by
      rcases hy.1 with (h | h) | h
      · exact .inl h
      · exact .inr (.inl h)
      · exact .inr (.inr (by have := (HV.out.2.1 y h).1; have := H1.out.2.2; omega)), hT.2⟩
end Go.Proofs.Ytofjocjljbkjgaa
