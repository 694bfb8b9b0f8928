import Derived.Test.YtipijkpjmpejlaaPgH
/- The contract of pages.first: sector 0 is written. -/
set_option linter.unusedVariables false
set_option linter.unusedSimpArgs false
namespace Go.Proofs.Ytipijkpjmpejlaa
open Go.RowKit
theorem RowB.none {w : World} {base n c : Nat} {bs : List Int} (h : RowB w base (.slice none n c) bs) : bs = [] ∧ c = 0 := by
  rcases h.2 with ⟨he, hz⟩ | ⟨g, c', cur, he, hb, hg, h1, h2, h3, h4⟩
  · injection he with _ e2 e3
    exact ⟨List.length_eq_zero_iff.1 hz, e3⟩
  · cases he
theorem bytes0_bytes (g h b : Int) : Bytes (bytes0 g h b) := fun x hx => by
  simp only [bytes0, List.mem_append] at hx
  rcases hx with (hx | hx) | hx
  · exact be8_bytes _ x hx
  · exact be8_bytes _ x hx
  · exact be8_bytes _ x hx
theorem bytes0_len (g h b : Int) : (bytes0 g h b).length = 24 := rfl
set_option maxHeartbeats 4000000 in
set_option maxRecDepth 100000 in
theorem first_any (w0 : World) (p : Nat) (D : DS) (g h b : Int) (v : Value) (w : World) (hD : DiskI w0 w p D) (hr : D.Room 1) :
    Calls Try.prog 96 #[.pointer (some ⟨p, 0, none⟩), .agg #[.int .i64 g, .int .i64 h, .int .i64 b, v]] w fun e w' => e = .returned (.int .i64 (D.err 0 (bytes0 g h b))) ∧ DiskI w0 w' p (D.write 0 (bytes0 g h b)) ∧ ChgT w0 TD w w' := by
  have hpw : p < w.heap.size := by obtain ⟨bm, v, hA, _⟩ := hD; exact lt_of_block hA.blk
  have HD := Lib.hid (And.intro hD hr)
  clear hD hr
  go_enter Try.func96, Try.ntmps96
  go_wp2_with fail
  refine wp_world (fun X => X.cell? ⟨w.heap.size, 0, none⟩ = some (.int .i64 g) ∧ (X.cell? ⟨w.heap.size, 1, none⟩ = some (.int .i64 h) ∧ X.cell? ⟨w.heap.size, 2, none⟩ = some (.int .i64 b)) ∧ Chg [] w X) ⟨range_all (cs := [_, _, _, _]) (heap_new w _ rfl) 0 _ rfl, ⟨range_all (cs := [_, _, _, _]) (heap_new w _ rfl) 1 _ rfl, range_all (cs := [_, _, _, _]) (heap_new w _ rfl) 2 _ rfl⟩, (by with_reducible repeat (first | exact Chg.refl _ _ | apply Chg.alloc | apply Chg.drew | apply Chg.drewN | (refine Chg.setCell ?_ _ _ (by simp))))⟩ ?_
  rintro X ⟨c0, hS, hX⟩
  have HX := Lib.hid (And.intro hX hS)
  clear hX
  refine wp_region_M (fun W => W.cell? ⟨w.heap.size, 1, none⟩ = some (.int .i64 h) ∧ W.cell? ⟨w.heap.size, 2, none⟩ = some (.int .i64 b)) (fun k => [3, 6, 9, 10].contains k) (fun k => [10].contains k) (by kernel_rfl) ?_
  ((try dsimp only); (try simp only [Act.put, List.setIfInBounds_toArray, List.set_cons_zero, List.set_cons_succ]))
  refine M_pure (i := 0) (v := ?_) rfl (by kernel_rfl) (by kernel_rfl) (by kernel_rfl) (fun _ _ _ h => h) (by rfl) ?hy ?_; (case hy => (intro w; go_simp; with_reducible rfl)); ((try dsimp only); (try simp only [Act.put, List.setIfInBounds_toArray, List.set_cons_zero, List.set_cons_succ]))
  refine M_pure (i := 1) (v := ?_) rfl (by kernel_rfl) (by kernel_rfl) (by kernel_rfl) (fun _ _ _ h => h) (by rfl) ?hy ?_; (case hy => (intro w; go_simp; with_reducible rfl)); ((try dsimp only); (try simp only [Act.put, List.setIfInBounds_toArray, List.set_cons_zero, List.set_cons_succ]))
  refine M_take (i := 2) (v := ?_) rfl (by kernel_rfl) (by kernel_rfl) (by kernel_rfl) (by kernel_rfl) (fun _ _ _ h => h) (by rfl) ?hy ?_; (case hy => (go_simp; with_reducible rfl)); ((try dsimp only); (try simp only [Act.put, List.setIfInBounds_toArray, List.set_cons_zero, List.set_cons_succ]))
  refine M_pure (i := 4) (v := ?_) rfl (by kernel_rfl) (by kernel_rfl) (by kernel_rfl) (fun _ _ _ h => h) (by rfl) ?hy ?_; (case hy => (intro w; go_simp; with_reducible rfl)); ((try dsimp only); (try simp only [Act.put, List.setIfInBounds_toArray, List.set_cons_zero, List.set_cons_succ]))
  refine M_semi (i := 5) (v := ?_) rfl (by kernel_rfl) (by kernel_rfl) (by kernel_rfl) (by kernel_rfl) (fun _ _ _ h => h) (by rfl) hS ?hy ?_; (case hy => (intro w hS; go_simp; with_reducible rfl)); ((try dsimp only); (try simp only [Act.put, List.setIfInBounds_toArray, List.set_cons_zero, List.set_cons_succ]))
  refine M_pure (i := 7) (v := ?_) rfl (by kernel_rfl) (by kernel_rfl) (by kernel_rfl) (fun _ _ _ h => h) (by rfl) ?hy ?_; (case hy => (intro w; go_simp; with_reducible rfl)); ((try dsimp only); (try simp only [Act.put, List.setIfInBounds_toArray, List.set_cons_zero, List.set_cons_succ]))
  refine M_semi (i := 8) (v := ?_) rfl (by kernel_rfl) (by kernel_rfl) (by kernel_rfl) (by kernel_rfl) (fun _ _ _ h => h) (by rfl) hS ?hy ?_; (case hy => (intro w hS; go_simp; with_reducible rfl)); ((try dsimp only); (try simp only [Act.put, List.setIfInBounds_toArray, List.set_cons_zero, List.set_cons_succ]))
  clear hS c0
  refine M_eff (i := 3) rfl (by kernel_rfl) (by rfl) ?_
  go_wp2_with (go_at_call 114; refine (numberB_any g none [] 0 _ (fun h => absurd h (Nat.lt_irrefl 0)) (fun _ => ⟨rfl, rfl⟩) (by simp)).mono ?_; rintro e Y ⟨v1, rfl, hR, hc⟩; obtain ⟨A1, c1, rfl⟩ := hR.slice; have HY := Lib.hid (And.intro hR (HX.out.1.drew.trans hc)); have hS := Lib.hid (And.intro (hc.cell (show X.drew.cell? _ = _ from HX.out.2.1) (by simp)) (hc.cell (show X.drew.cell? _ = _ from HX.out.2.2) (by simp))); clear hR hc)
  refine ⟨hS.out, ?_⟩
  ((try dsimp only); (try simp only [Act.put, List.setIfInBounds_toArray, List.set_cons_zero, List.set_cons_succ]))
  refine M_eff (i := 6) rfl (by kernel_rfl) (by rfl) ?_
  go_wp2_with (go_at_call 114; refine (numberB_any h A1 (be8 g) c1 _ HY.out.1.bytes (fun e => by subst e; exact absurd HY.out.1.none.1 (by simp [be8])) (by simp [be8])).mono ?_; rintro e Z ⟨v2, rfl, hR, hc⟩; obtain ⟨A2, c2, rfl⟩ := hR.slice; have HZ := Lib.hid (And.intro hR (HY.out.2.trans hc)); have hS2 := Lib.hid (And.intro (hc.cell hS.out.1 (by simp)) (hc.cell hS.out.2 (by simp))); clear hR hc)
  refine ⟨hS2.out, ?_⟩
  ((try dsimp only); (try simp only [Act.put, List.setIfInBounds_toArray, List.set_cons_zero, List.set_cons_succ]))
  refine M_eff (i := 9) rfl (by kernel_rfl) (by rfl) ?_
  go_wp2_with (go_at_call 114; refine (numberB_any b A2 (be8 g ++ be8 h) c2 _ HZ.out.1.bytes (fun e => by subst e; exact absurd HZ.out.1.none.1 (by simp [be8])) (by simp [be8])).mono ?_; rintro e U ⟨v3, rfl, hR, hc⟩; obtain ⟨A3, c3, rfl⟩ := hR.slice; have HU := Lib.hid (And.intro hR (And.intro (HZ.out.2.trans hc) (Nat.lt_of_lt_of_le hpw HZ.out.2.size))); have hS3 := Lib.hid (And.intro (hc.cell hS2.out.1 (by simp)) (hc.cell hS2.out.2 (by simp))); clear hR hc)
  refine ⟨hS3.out, ?_⟩
  ((try dsimp only); (try simp only [Act.put, List.setIfInBounds_toArray, List.set_cons_zero, List.set_cons_succ]))
  refine M_brk (i := 10) rfl (by kernel_rfl) (by rfl) (by rfl) ?_
  go_wp2_with (go_at_call 29; refine (write_any w0 p D 0 A3 (bytes0 g h b) c3 U (HD.out.1.kept0 HU.out.2.1) HD.out.2 HU.out.1.bytes (fun _ ad ha => by subst ha; have h1 := (HU.out.1.own ad.block rfl).1; have h2 := HU.out.2.2; omega) (bytes0_bytes g h b)).mono ?_; rintro e V ⟨rfl, hD, hc⟩; have HV := Lib.hid (And.intro hD hc); clear hD hc)
  ((try dsimp only [EffQ]); (try simp only [Act.put, List.setIfInBounds_toArray, List.set_cons_zero, List.set_cons_succ]))
  refine M_pure (i := 11) (v := ?_) rfl (by kernel_rfl) (by kernel_rfl) (by kernel_rfl) (fun _ _ _ h => h) (by rfl) ?hy ?_; (case hy => (intro w; go_simp; with_reducible rfl)); ((try dsimp only); (try simp only [Act.put, List.setIfInBounds_toArray, List.set_cons_zero, List.set_cons_succ]))
  refine M_done (by kernel_rfl) ?_ _
  go_wp2_with fail
  go_ret
  exact ⟨rfl, HV.out.1, (ChgT.of_nil HU.out.2.1).trans HV.out.2⟩
end Go.Proofs.Ytipijkpjmpejlaa
