import Derived.Test.YtipijkpjmpejlaaGreatN
import Derived.Test.YtipijkpjmpejlaaNetW
/- The walk of NetPlays. -/
set_option linter.unusedVariables false
set_option linter.unusedSimpArgs false
namespace Go.Proofs.Ytipijkpjmpejlaa
open Go.RowKit
section
variable {P : Program} {ops : Array Oper} {Q : Exit → Act → World → Prop} {md : Region.Mode} {eff brk brk' : Nat → Bool}
/-- From here on, other facts are kept. -/
theorem wpAnyM_any (S' : World → Prop) (brk' : Nat → Bool) : ∀ (fuel : Nat) (listed : Array Bool) (a : Act) (w : World), wpAnyM P md ops Q S' eff brk' fuel listed a w → wpAnyM P md ops Q (fun _ => True) eff brk fuel listed a w
  | 0, _, _, _, h => h
  | fuel + 1, _, _, _, h => ⟨h.1, fun i hi => wpOp_mono (fun a' w' h' => ⟨h'.1, fun _ _ => trivial, wpAnyM_any S' brk' fuel _ a' w' h'.2.2⟩) (h.2 i hi)⟩
end
theorem infoAct : (Try.prog.info? 87).map (·.size) = some 18 := by kernel_rfl
theorem nets_new {w X Y : World} (h0 : Chg [] w X) (hN : NetV Y X.heap.size [] (fun b => b = X.heap.size)) (hY : Chg [] X Y) : Nets w (Y.alloc (.cells #[.slice none 0 0, .slice none 0 0] 84)) X.heap.size Y.heap.size [] := by
  have hc : Chg [] Y (Y.alloc (.cells #[.slice none 0 0, .slice none 0 0] 84)) := (Chg.refl [] Y).alloc _
  have hlt := hN.low _ rfl
  exact ⟨fun b => b = Y.heap.size, fun b => b = X.heap.size, hN.kept hc (by simp), ⟨.slice none 0 0, .slice none 0 0, [], heap_new _ _ rfl, RowR.nil _ _ _ _, rfl, (fun i x cs h => by simp at h), World.ownsRow_nil _ _ _ _, rfl, (fun b h => by cases h), (fun b h => by cases h), (fun x h => by simp at h), by simp, fun b h => by simp at h ⊢; omega⟩, (fun b hb => ⟨by rw [hb]; exact h0.size, by omega, by simp⟩), (fun b hb => ⟨by rw [hb]; exact Nat.le_trans h0.size hY.size, by simp⟩), (h0.trans hY).trans hc, by simp⟩
set_option maxHeartbeats 8000000 in
set_option maxRecDepth 100000 in
theorem netPlays_any (w : World) (A : Option Addr) (xs : List ActM) (c : Nat) (hn : xs.length ≤ 9223372036854775807) (hA : ActsC w A xs) : Calls Try.prog 10 #[.slice A xs.length c] w fun e w' => e = .returned (.bool true) ∧ Chg [] w w' := by
  have hg := great_any xs A c w hn hA
  have HA := Lib.hid (And.intro hA hg)
  clear hA hg
  go_enter Try.func10, Try.ntmps10
  go_wp2_with fail
  refine HA.out.2.mono ?_
  rintro e X ⟨b, rfl, hb, hX⟩
  have HX := Lib.hid (And.intro hb hX)
  clear hb hX
  cases b with
  | true =>
    go_wp2_with (go_at_call 47; refine (nwakes_any _).mono ?_; rintro e Y ⟨rfl, hY⟩; have HY := Lib.hid (HX.out.2.trans hY); clear hY)
    go_ret
    exact ⟨rfl, HY.out⟩
  | false =>
    go_wp2_with (go_at_call 41; refine (new_any _).mono ?_; rintro e Y ⟨rfl, hN, hY⟩; have HN := Lib.hid (nets_new HX.out.2 hN hY); clear hN hY)
    go_loopw [5] (fun i wr => ∃ (j : Nat) (l : List (Msg × Bool)), j ≤ xs.length ∧ i = .int .i64 j ∧ Hid (Nets w wr X.heap.size Y.heap.size l)) (fun i _ => xs.length - (intOf i).toNat)
    case atStart => exact ⟨0, [], Nat.zero_le _, rfl, HN⟩
    case round =>
      clear HN
      obtain ⟨j, l, hj, rfl, HJ⟩ := hrel
      generalize wr = wo at *
      by_cases hlt : j < xs.length
      · have hN : Nets w wo.drew X.heap.size Y.heap.size l := by obtain ⟨M, h⟩ := HJ.out; exact ⟨M, h.step (Chg.refl [] _).drew⟩
        obtain ⟨B, o, At, ct, Bs, ds, rfl, hr, hM⟩ := HA.out.1.kept (show Chg [] w wo.drew by obtain ⟨M, h⟩ := hN; exact h.chg) j hlt
        have hfit := ((HX.out.1 trivial).2 j hlt).fit
        generalize xs[j] = x at *
        obtain ⟨dv, kv, m⟩ := x
        have hst := step_any w wo.drew _ _ l dv kv m At ct Bs ds hN hM hfit
        have HS := Lib.hid (And.intro hst hr)
        clear hN hr hM hfit hst
        go_wp2_with fail
        refine wp_region_M (fun _ => True) (fun k => [6, 10].contains k) (fun k => [6].contains k) (by kernel_rfl) ?_
        ((try dsimp only); (try simp only [Act.put, List.setIfInBounds_toArray, List.set_cons_zero, List.set_cons_succ]))
        refine M_pure (i := 0) (v := ?_) rfl (by kernel_rfl) (by kernel_rfl) (by kernel_rfl) (fun _ _ _ h => h) (by rfl) ?hy ?_; (case hy => (intro w; go_simp; with_reducible rfl)); ((try dsimp only); (try simp only [Act.put, List.setIfInBounds_toArray, List.set_cons_zero, List.set_cons_succ]))
        refine M_pure (i := 1) (v := ?_) rfl (by kernel_rfl) (by kernel_rfl) (by kernel_rfl) (fun _ _ _ h => h) (by rfl) ?hy ?_; (case hy => (intro w; go_simp; with_reducible rfl)); ((try dsimp only); (try simp only [Act.put, List.setIfInBounds_toArray, List.set_cons_zero, List.set_cons_succ]))
        refine M_pure (i := 2) (v := ?_) rfl (by kernel_rfl) (by kernel_rfl) (by kernel_rfl) (fun _ _ _ h => h) (by rfl) ?hy ?_; (case hy => (intro w; go_simp; with_reducible rfl)); ((try dsimp only); (try simp only [Act.put, List.setIfInBounds_toArray, List.set_cons_zero, List.set_cons_succ]))
        refine M_pure (i := 3) (v := ?_) rfl (by kernel_rfl) (by kernel_rfl) (by kernel_rfl) (fun _ _ _ h => h) (by rfl) ?hy ?_; (case hy => (intro w; go_simp; with_reducible rfl)); ((try dsimp only); (try simp only [Act.put, List.setIfInBounds_toArray, List.set_cons_zero, List.set_cons_succ]))
        refine M_pure (i := 4) (v := ?_) rfl (by kernel_rfl) (by kernel_rfl) (by kernel_rfl) (fun _ _ _ h => h) (by rfl) ?hy ?_; (case hy => (intro w; go_simp; with_reducible rfl)); ((try dsimp only); (try simp only [Act.put, List.setIfInBounds_toArray, List.set_cons_zero, List.set_cons_succ]))
        refine M_take (i := 5) rfl (by kernel_rfl) (by kernel_rfl) (by kernel_rfl) (by kernel_rfl) (fun _ _ _ h => h) (by rfl) (exec_load_mid 87 (.tmp 24) rfl B (o + j * 18) rfl _ _ HS.out.2 Try.underlying87 rfl infoAct) ?_; ((try dsimp only); (try simp only [Act.put, List.setIfInBounds_toArray, List.set_cons_zero, List.set_cons_succ]))
        refine M_brk (i := 6) rfl (by kernel_rfl) (by rfl) (by rfl) ?_
        go_wp2_with (go_at_call 53; refine HS.out.1.mono ?_; rintro e Z ⟨rfl, l', hZ⟩; have HZ := Lib.hid hZ; clear hZ)
        ((try dsimp only [EffQ]); (try simp only [Act.put, List.setIfInBounds_toArray, List.set_cons_zero, List.set_cons_succ]))
        obtain ⟨Al, cl, c0, N, hNV⟩ : ∃ Al cl, Z.cell? ⟨Y.heap.size, 0, none⟩ = some (.slice Al l'.length cl) ∧ ∃ N, NetV Z X.heap.size l' N := by
          obtain ⟨M, h⟩ := HZ.out
          obtain ⟨N, h1, -⟩ := h.act1
          obtain ⟨h2, -⟩ := h.act2
          obtain ⟨Al, cl, c0, -⟩ := h2.msgs
          exact ⟨Al, cl, c0, N, h1⟩
        have HL := Lib.hid (And.intro c0 (len_any Z _ l' N hNV))
        clear hNV c0
        refine wpAnyM_any (fun W => W.cell? ⟨Y.heap.size, 0, none⟩ = some (.slice Al l'.length cl)) (fun _ => false) _ _ _ _ ?_
        refine M_pure (i := 7) (v := ?_) rfl (by kernel_rfl) (by kernel_rfl) (by kernel_rfl) (fun _ _ _ h => h) (by rfl) ?hy ?_; (case hy => (intro w; go_simp; with_reducible rfl)); ((try dsimp only); (try simp only [Act.put, List.setIfInBounds_toArray, List.set_cons_zero, List.set_cons_succ]))
        refine M_pure (i := 8) (v := ?_) rfl (by kernel_rfl) (by kernel_rfl) (by kernel_rfl) (fun _ _ _ h => h) (by rfl) ?hy ?_; (case hy => (intro w; go_simp; with_reducible rfl)); ((try dsimp only); (try simp only [Act.put, List.setIfInBounds_toArray, List.set_cons_zero, List.set_cons_succ]))
        refine M_pure (i := 9) (v := ?_) rfl (by kernel_rfl) (by kernel_rfl) (by kernel_rfl) (fun _ _ _ h => h) (by rfl) ?hy ?_; (case hy => (intro w; go_simp; with_reducible rfl)); ((try dsimp only); (try simp only [Act.put, List.setIfInBounds_toArray, List.set_cons_zero, List.set_cons_succ]))
        refine M_pure (i := 11) (v := ?_) rfl (by kernel_rfl) (by kernel_rfl) (by kernel_rfl) (fun _ _ _ h => h) (by rfl) ?hy ?_; (case hy => (intro w; go_simp; with_reducible rfl)); ((try dsimp only); (try simp only [Act.put, List.setIfInBounds_toArray, List.set_cons_zero, List.set_cons_succ]))
        refine M_pure (i := 12) (v := ?_) rfl (by kernel_rfl) (by kernel_rfl) (by kernel_rfl) (fun _ _ _ h => h) (by rfl) ?hy ?_; (case hy => (intro w; go_simp; with_reducible rfl)); ((try dsimp only); (try simp only [Act.put, List.setIfInBounds_toArray, List.set_cons_zero, List.set_cons_succ]))
        refine M_pure (i := 13) (v := ?_) rfl (by kernel_rfl) (by kernel_rfl) (by kernel_rfl) (fun _ _ _ h => h) (by rfl) ?hy ?_; (case hy => (intro w; go_simp; with_reducible rfl)); ((try dsimp only); (try simp only [Act.put, List.setIfInBounds_toArray, List.set_cons_zero, List.set_cons_succ]))
        refine M_semi (i := 14) (v := ?_) rfl (by kernel_rfl) (by kernel_rfl) (by kernel_rfl) (by kernel_rfl) (fun _ _ _ h => h) (by rfl) HL.out.1 ?hy ?_; (case hy => (intro w hS; go_simp; with_reducible rfl)); ((try dsimp only); (try simp only [Act.put, List.setIfInBounds_toArray, List.set_cons_zero, List.set_cons_succ]))
        refine M_pure (i := 15) (v := ?_) rfl (by kernel_rfl) (by kernel_rfl) (by kernel_rfl) (fun _ _ _ h => h) (by rfl) ?hy ?_; (case hy => (intro w; go_simp; with_reducible rfl)); ((try dsimp only); (try simp only [Act.put, List.setIfInBounds_toArray, List.set_cons_zero, List.set_cons_succ]))
        refine M_eff (i := 10) rfl (by kernel_rfl) (by rfl) ?_
        go_wp2_with (go_at_call 44; refine HL.out.2.mono ?_; rintro e Z' ⟨rfl, rfl⟩)
        refine ⟨HL.out.1, ?_⟩
        ((try dsimp only); (try simp only [Act.put, List.setIfInBounds_toArray, List.set_cons_zero, List.set_cons_succ]))
        refine M_pure (i := 16) (v := ?_) rfl (by kernel_rfl) (by kernel_rfl) (by kernel_rfl) (fun _ _ _ h => h) (by rfl) ?hy ?_; (case hy => (intro w; go_simp; with_reducible rfl)); ((try dsimp only); (try simp only [Act.put, List.setIfInBounds_toArray, List.set_cons_zero, List.set_cons_succ]))
        refine M_pure (i := 17) (v := ?_) rfl (by kernel_rfl) (by kernel_rfl) (by kernel_rfl) (fun _ _ _ h => h) (by rfl) ?hy ?_; (case hy => (intro w; go_simp; with_reducible rfl)); ((try dsimp only); (try simp only [Act.put, List.setIfInBounds_toArray, List.set_cons_zero, List.set_cons_succ]))
        refine M_done (by kernel_rfl) ?_ _
        go_wp2_with fail
        go_roundw
        case rel => exact ⟨j + 1, l', by omega, by go_num, HZ⟩
        case measure => simp [intOf]; omega
      · obtain ⟨Al, cl, c0, ht⟩ : ∃ Al cl, wo.cell? ⟨Y.heap.size, 0, none⟩ = some (.slice Al l.length cl) ∧ Calls Try.prog 54 #[.pointer (some ⟨X.heap.size, 0, none⟩), .slice Al l.length cl, .int .i64 0] wo fun e w' => e = .returned (.bool true) ∧ Chg [] wo w' := by
          obtain ⟨M, h⟩ := HJ.out
          obtain ⟨N, h1, -⟩ := h.act1
          obtain ⟨h2, -⟩ := h.act2
          obtain ⟨Al, cl, c0, hL⟩ := h2.msgs
          exact ⟨Al, cl, c0, told_any wo _ l N Al cl 0 h1 hL⟩
        have hc : Chg [] w wo := by obtain ⟨M, h⟩ := HJ.out; exact h.chg
        have HT := Lib.hid (And.intro ht hc)
        clear ht hc
        go_wp2_with (first
          | (go_at_call 54; refine HT.out.1.mono ?_; rintro e Z ⟨rfl, hZ⟩; have HZ := Lib.hid (HT.out.2.trans hZ); clear hZ)
          | (go_at_call 47; refine (nwakes_any _).mono ?_; rintro e Z2 ⟨rfl, hZ⟩; have HZ2 := Lib.hid (HZ.out.trans hZ); clear hZ)
          | fail)
        go_ret
        exact ⟨rfl, HZ2.out⟩
end Go.Proofs.Ytipijkpjmpejlaa
