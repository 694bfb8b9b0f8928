import Derived.Test.YtipijkpjmpejlaaDisk16
import Derived.Test.YtipijkpjmpejlaaActs
import Derived.Deep.DeepCutAuto
import Derived.Deep.CutBlock
/- The walk of the law DiskPlays: the program's disk and the reference's tell the same, whatever was asked. -/
set_option linter.unusedVariables false
set_option linter.unusedSimpArgs false
namespace Go.Proofs.Ytipijkpjmpejlaa
open Go.RowKit

set_option maxHeartbeats 8000000 in
set_option maxRecDepth 100000 in
theorem diskPlays_walk (A : Option Addr) (acts : List Act') (c : Nat) (w : World) (hA : ActsAt w A acts) (hm : acts.length ≤ 9223372036854775807) :
    Calls Try.prog 6 #[.slice A acts.length c] w fun e w' => e = .returned (.bool true) ∧ Chg [] w w' := by
  have HG := Lib.hid (great_any A acts c w hA hm)
  have HA := Lib.hid hA
  clear hA
  go_enter Try.func6, Try.ntmps6
  go_wp2_with fail
  refine HG.out.mono ?_
  rintro e W ⟨b, rfl, hb, rfl⟩
  cases b with
  | true =>
    clear hb
    go_wp2_with (go_at_call 27; refine (dwakes_any _).mono ?_; rintro e W ⟨rfl, hC⟩; have HC := Lib.hid hC; clear hC)
    go_ret
    exact ⟨rfl, HC.out⟩
  | false =>
    have h200 := hb rfl
    clear hb HG
    go_wp2_with (go_at_call 28; refine (new_any w).mono ?_; rintro e W1 ⟨rfl, hD1, hC1, hZ1⟩; have HM := Lib.hid (And.intro hD1 (And.intro hC1 hZ1)); have hz1 := hZ1; clear hD1 hC1 hZ1)
    have hT0 : Two w (W1.alloc (.cells #[.slice none 0 0, .bool false, .bool false, .int .i64 0] 62)) (w.heap.size + 1) (w.heap.size + 2) 0 [] false := by
      have hz2 : w.heap.size + 2 = W1.heap.size := hz1.symm
      refine ⟨⟨w.heap.size, .slice none 0 0, .slice none 0 0, [], false, 0, 0, HM.out.1.kept (l := []) (by with_reducible repeat (first | exact Chg.refl _ _ | apply Chg.alloc | apply Chg.drew | apply Chg.drewN | (refine Chg.setCell ?_ _ _ (by simp)))) (by simp) (by simp) (by simp), ⟨heap_new _ _ hz2, World.ownsRow_nil _ _ _ _, by simp, rfl, fun i x u h => by simp at h⟩, (fun h => rfl), by omega, by omega, by omega, by omega, by omega, by omega, by omega, (fun j h => by cases h), (fun j h => by cases h)⟩, HM.out.2.1.alloc _, Nat.le_refl _⟩
    have HT0 := Lib.hid hT0
    clear hT0
    go_loopw [3, 4, 19] (fun d r i wr => ∃ (k d' r' : Nat) (L : List (Int × List Int)) (down : Bool), k ≤ acts.length ∧ d = .pointer (some ⟨d', 0, none⟩) ∧ r = .pointer (some ⟨r', 0, none⟩) ∧ i = .int .i64 k ∧ Hid (Two w wr d' r' k L down)) (fun _ _ i _ => acts.length - (intOf i).toNat)
    case atStart => exact ⟨0, _, _, [], false, Nat.zero_le _, rfl, rfl, rfl, HT0.out⟩
    case round =>
      obtain ⟨k, d, r, L, down, hk, rfl, rfl, rfl, HT⟩ := hrel
      clear HM HT0 hz1
      by_cases hlt : k < acts.length
      · obtain ⟨x, hx⟩ : ∃ x, acts[k]? = some x := ⟨acts[k], List.getElem?_eq_getElem hlt⟩
        obtain ⟨g, o, Ab, cb, rfl, hgw, hr, hB, hbl⟩ := HA.out k x hx
        have hr' := HT.out.chg.range hr (by simp)
        have HR := Lib.hid hr'
        have HB := Lib.hid hB
        clear hr hr' hB hx
        have hbox : ∀ W : World, W = wr.alloc (.cells #[.int .i64 x.kind, .int .i64 x.n, .slice Ab x.b.length cb] 51) → Two w W d r k L down := by rintro W rfl; exact HT.out.kept (by with_reducible repeat (first | exact Chg.refl _ _ | apply Chg.alloc | apply Chg.drew | apply Chg.drewN | (refine Chg.setCell ?_ _ _ (by simp))))
        go_upto_block 2 with (first
            | (refine wpList_load_mid rfl 51 (.tmp 21) rfl g (o + k * 3) rfl _ _ HR.out Try.underlying51 rfl (by kernel_rfl) ?_)
            | fail)
        refine wp_world (fun X => Two w X d r k L down ∧ X.heap[wr.heap.size]? = some (.cells #[.int .i64 x.kind, .int .i64 x.n, .slice Ab x.b.length cb] 51 (0, 0))) ⟨hbox _ rfl, heap_new _ _ rfl⟩ ?_
        rintro X ⟨hTX, hBX⟩
        have a0 : X.cell? ⟨wr.heap.size, 0, none⟩ = some (.int .i64 x.kind) := by simp [World.cell?, hBX]
        have a1 : X.cell? ⟨wr.heap.size, 1, none⟩ = some (.int .i64 x.n) := by simp [World.cell?, hBX]
        have a2 : X.cell? ⟨wr.heap.size, 2, none⟩ = some (.slice Ab x.b.length cb) := by simp [World.cell?, hBX]
        have HX := Lib.hid (And.intro hTX hBX)
        clear hbox hTX hBX HT
        go_cut [3, 4] (fun sd sr wx => ∃ (d' r' : Nat) (L' : List (Int × List Int)) (down' : Bool), sd = .pointer (some ⟨d', 0, none⟩) ∧ sr = .pointer (some ⟨r', 0, none⟩) ∧ Hid (Two w wx d' r' (k + 1) L' down'))
        case first =>
          by_cases k0 : x.kind = 0
          · have e0 : (x.kind == 0) = true := by simpa using k0
            obtain ⟨ce, Mid, hw1, hw2⟩ := two_write w X.drew d r k L down x.n Ab x.b cb (HX.out.1.kept (Chg.drew (Chg.refl _ _))) (by omega) HB.out
            have HW1 := Lib.hid hw1
            have HW2 := Lib.hid hw2
            clear hw1 hw2 k0
            go_wp2_with fail
            refine wp_region_M (fun W => W.cell? ⟨wr.heap.size, 1, none⟩ = some (.int .i64 x.n) ∧ W.cell? ⟨wr.heap.size, 2, none⟩ = some (.slice Ab x.b.length cb)) (fun k => [5, 11].contains k) (fun k => [11].contains k) (by kernel_rfl) ?_
            ((try dsimp only); (try simp only [Act.put, List.setIfInBounds_toArray, List.set_cons_zero, List.set_cons_succ]))
            refine M_pure (i := 0) (v := ?_) rfl (by kernel_rfl) (by kernel_rfl) (by kernel_rfl) (fun _ _ _ h => h) (by rfl) ?hy ?_; (case hy => (intro w; go_simp; with_reducible rfl)); ((try dsimp only); (try simp only [Act.put, List.setIfInBounds_toArray, List.set_cons_zero, List.set_cons_succ]))
            refine M_pure (i := 1) (v := ?_) rfl (by kernel_rfl) (by kernel_rfl) (by kernel_rfl) (fun _ _ _ h => h) (by rfl) ?hy ?_; (case hy => (intro w; go_simp; with_reducible rfl)); ((try dsimp only); (try simp only [Act.put, List.setIfInBounds_toArray, List.set_cons_zero, List.set_cons_succ]))
            refine M_take (i := 2) (v := ?_) rfl (by kernel_rfl) (by kernel_rfl) (by kernel_rfl) (by kernel_rfl) (fun _ _ _ h => h) (by rfl) ?hy ?_; (case hy => (go_simp; with_reducible rfl)); ((try dsimp only); (try simp only [Act.put, List.setIfInBounds_toArray, List.set_cons_zero, List.set_cons_succ]))
            refine M_pure (i := 3) (v := ?_) rfl (by kernel_rfl) (by kernel_rfl) (by kernel_rfl) (fun _ _ _ h => h) (by rfl) ?hy ?_; (case hy => (intro w; go_simp; with_reducible rfl)); ((try dsimp only); (try simp only [Act.put, List.setIfInBounds_toArray, List.set_cons_zero, List.set_cons_succ]))
            refine M_take (i := 4) (v := ?_) rfl (by kernel_rfl) (by kernel_rfl) (by kernel_rfl) (by kernel_rfl) (fun _ _ _ h => h) (by rfl) ?hy ?_; (case hy => (go_simp; with_reducible rfl)); ((try dsimp only); (try simp only [Act.put, List.setIfInBounds_toArray, List.set_cons_zero, List.set_cons_succ]))
            refine M_pure (i := 6) (v := ?_) rfl (by kernel_rfl) (by kernel_rfl) (by kernel_rfl) (fun _ _ _ h => h) (by rfl) ?hy ?_; (case hy => (intro w; go_simp; with_reducible rfl)); ((try dsimp only); (try simp only [Act.put, List.setIfInBounds_toArray, List.set_cons_zero, List.set_cons_succ]))
            refine M_pure (i := 7) (v := ?_) rfl (by kernel_rfl) (by kernel_rfl) (by kernel_rfl) (fun _ _ _ h => h) (by rfl) ?hy ?_; (case hy => (intro w; go_simp; with_reducible rfl)); ((try dsimp only); (try simp only [Act.put, List.setIfInBounds_toArray, List.set_cons_zero, List.set_cons_succ]))
            refine M_semi (i := 8) (v := ?_) rfl (by kernel_rfl) (by kernel_rfl) (by kernel_rfl) (by kernel_rfl) (fun _ _ _ h => h) (by rfl) ⟨a1, a2⟩ ?hy ?_; (case hy => (intro w hS; go_simp; with_reducible rfl)); ((try dsimp only); (try simp only [Act.put, List.setIfInBounds_toArray, List.set_cons_zero, List.set_cons_succ]))
            refine M_pure (i := 9) (v := ?_) rfl (by kernel_rfl) (by kernel_rfl) (by kernel_rfl) (fun _ _ _ h => h) (by rfl) ?hy ?_; (case hy => (intro w; go_simp; with_reducible rfl)); ((try dsimp only); (try simp only [Act.put, List.setIfInBounds_toArray, List.set_cons_zero, List.set_cons_succ]))
            refine M_semi (i := 10) (v := ?_) rfl (by kernel_rfl) (by kernel_rfl) (by kernel_rfl) (by kernel_rfl) (fun _ _ _ h => h) (by rfl) ⟨a1, a2⟩ ?hy ?_; (case hy => (intro w hS; go_simp; with_reducible rfl)); ((try dsimp only); (try simp only [Act.put, List.setIfInBounds_toArray, List.set_cons_zero, List.set_cons_succ]))
            refine M_eff (i := 5) rfl (by kernel_rfl) (by rfl) ?_
            go_wp2_with (go_at_call 29; refine HW1.out.mono ?_; rintro e Y ⟨rfl, hM, hKA⟩; have HY := Lib.hid (And.intro hM (hKA _ _ _ HX.out.2)); clear hM hKA)
            refine ⟨by simp [World.cell?, HY.out.2], ?_⟩
            ((try dsimp only); (try simp only [Act.put, List.setIfInBounds_toArray, List.set_cons_zero, List.set_cons_succ]))
            refine M_brk (i := 11) rfl (by kernel_rfl) (by rfl) (by rfl) ?_
            go_wp2_with (go_at_call 33; refine (HW2.out _ HY.out.1).mono ?_; rintro e Z ⟨rfl, ⟨L', down', hZ⟩, _⟩; have HZ := Lib.hid hZ; clear hZ)
            ((try dsimp only [EffQ]); (try simp only [Act.put, List.setIfInBounds_toArray, List.set_cons_zero, List.set_cons_succ]))
            refine M_pure (i := 12) (v := ?_) rfl (by kernel_rfl) (by kernel_rfl) (by kernel_rfl) (fun _ _ _ h => h) (by rfl) ?hy ?_; (case hy => (intro w; go_simp; with_reducible rfl)); ((try dsimp only); (try simp only [Act.put, List.setIfInBounds_toArray, List.set_cons_zero, List.set_cons_succ]))
            refine M_done (by kernel_rfl) ?_ _
            go_wp2_with fail
            go_meet
            exact ⟨d, r, L', down', rfl, rfl, HZ⟩
          have e0 : (x.kind == 0) = false := by simpa using k0
          by_cases k1 : x.kind = 1
          · have e1 : (x.kind == 1) = true := by simpa using k1
            obtain ⟨hw1, hw2⟩ := two_read w X d r k L down x.n HX.out.1 (by omega)
            have HW1 := Lib.hid hw1
            clear hw1 hw2 k0 k1
            go_wp2_with (go_at_call 30; refine HW1.out.mono ?_; rintro e Y ⟨A1, c1, rfl, hv, hC⟩; have HY := Lib.hid (And.intro hv hC); have b1 := hC.cell a1 (by simp); clear hv hC)
            have HW2 := Lib.hid (two_read w Y d r k L down x.n (HX.out.1.kept HY.out.2) (by omega)).2
            go_wp2_with (go_at_call 34; refine HW2.out.mono ?_; rintro e Z ⟨A3, c3, rfl, hv, hC⟩; have q1 := HY.out.1 Z [] hC (by simp); have q2 := hv Z [] (Chg.refl _ _) (by simp); have HZ := Lib.hid (((HX.out.1.kept HY.out.2).kept hC).more (show k ≤ k + 1 by omega)); clear hv hC)
            generalize strOfNums (rdB down L x.n) = s1 at q1 q2
            generalize (rdB down L x.n).length = n1 at q1 q2 ⊢
            generalize rdE down x.n = re
            go_wp2_with fail
            go_meet
            exact ⟨d, r, L, down, rfl, rfl, HZ⟩
          have e1 : (x.kind == 1) = false := by simpa using k1
          by_cases k2 : x.kind = 2
          · have e2 : (x.kind == 2) = true := by simpa using k2
            obtain ⟨d', Mid, hw1, hw2⟩ := two_cut w X d r k L down x.n HX.out.1 (by omega)
            have HW1 := Lib.hid hw1
            have HW2 := Lib.hid hw2
            clear hw1 hw2 k0 k1 k2
            go_wp2_with (first
              | (go_at_call 31; refine HW1.out.mono ?_; rintro e Y ⟨rfl, hM, hC⟩; have HY := Lib.hid hM; have b1 := hC.cell a1 (by simp); clear hM hC)
              | (go_at_call 35; refine (HW2.out _ HY.out).mono ?_; rintro e Z ⟨rfl, ⟨L', hZ⟩, hC⟩; have HZ := Lib.hid (hZ.more (show k ≤ k + 1 by omega)); clear hZ hC))
            go_meet
            exact ⟨d', _, L', false, rfl, rfl, HZ⟩
          have e2 : (x.kind == 2) = false := by simpa using k2
          by_cases k3 : x.kind = 3
          · have e3 : (x.kind == 3) = true := by simpa using k3
            obtain ⟨ce, Mid, hw1, hw2⟩ := two_arm w X.drew d r k L down x.n (HX.out.1.kept (Chg.drew (Chg.refl _ _))) (by omega)
            have HW1 := Lib.hid hw1
            have HW2 := Lib.hid hw2
            clear hw1 hw2 k0 k1 k2 k3
            go_wp2_with fail
            refine wp_region_M (fun W => W.cell? ⟨wr.heap.size, 1, none⟩ = some (.int .i64 x.n) ∧ W.cell? ⟨wr.heap.size, 2, none⟩ = some (.slice Ab x.b.length cb)) (fun k => [3, 7].contains k) (fun k => [7].contains k) (by kernel_rfl) ?_
            ((try dsimp only); (try simp only [Act.put, List.setIfInBounds_toArray, List.set_cons_zero, List.set_cons_succ]))
            refine M_pure (i := 0) (v := ?_) rfl (by kernel_rfl) (by kernel_rfl) (by kernel_rfl) (fun _ _ _ h => h) (by rfl) ?hy ?_; (case hy => (intro w; go_simp; with_reducible rfl)); ((try dsimp only); (try simp only [Act.put, List.setIfInBounds_toArray, List.set_cons_zero, List.set_cons_succ]))
            refine M_pure (i := 1) (v := ?_) rfl (by kernel_rfl) (by kernel_rfl) (by kernel_rfl) (fun _ _ _ h => h) (by rfl) ?hy ?_; (case hy => (intro w; go_simp; with_reducible rfl)); ((try dsimp only); (try simp only [Act.put, List.setIfInBounds_toArray, List.set_cons_zero, List.set_cons_succ]))
            refine M_take (i := 2) (v := ?_) rfl (by kernel_rfl) (by kernel_rfl) (by kernel_rfl) (by kernel_rfl) (fun _ _ _ h => h) (by rfl) ?hy ?_; (case hy => (go_simp; with_reducible rfl)); ((try dsimp only); (try simp only [Act.put, List.setIfInBounds_toArray, List.set_cons_zero, List.set_cons_succ]))
            refine M_pure (i := 4) (v := ?_) rfl (by kernel_rfl) (by kernel_rfl) (by kernel_rfl) (fun _ _ _ h => h) (by rfl) ?hy ?_; (case hy => (intro w; go_simp; with_reducible rfl)); ((try dsimp only); (try simp only [Act.put, List.setIfInBounds_toArray, List.set_cons_zero, List.set_cons_succ]))
            refine M_pure (i := 5) (v := ?_) rfl (by kernel_rfl) (by kernel_rfl) (by kernel_rfl) (fun _ _ _ h => h) (by rfl) ?hy ?_; (case hy => (intro w; go_simp; with_reducible rfl)); ((try dsimp only); (try simp only [Act.put, List.setIfInBounds_toArray, List.set_cons_zero, List.set_cons_succ]))
            refine M_semi (i := 6) (v := ?_) rfl (by kernel_rfl) (by kernel_rfl) (by kernel_rfl) (by kernel_rfl) (fun _ _ _ h => h) (by rfl) ⟨a1, a2⟩ ?hy ?_; (case hy => (intro w hS; go_simp; with_reducible rfl)); ((try dsimp only); (try simp only [Act.put, List.setIfInBounds_toArray, List.set_cons_zero, List.set_cons_succ]))
            refine M_eff (i := 3) rfl (by kernel_rfl) (by rfl) ?_
            go_wp2_with (go_at_call 36; refine HW1.out.mono ?_; rintro e Y ⟨rfl, hM, hKA⟩; have HY := Lib.hid (And.intro hM (hKA _ _ _ HX.out.2)); clear hM hKA)
            refine ⟨by simp [World.cell?, HY.out.2], ?_⟩
            ((try dsimp only); (try simp only [Act.put, List.setIfInBounds_toArray, List.set_cons_zero, List.set_cons_succ]))
            refine M_brk (i := 7) rfl (by kernel_rfl) (by rfl) (by rfl) ?_
            go_wp2_with (go_at_call 37; refine (HW2.out _ HY.out.1).mono ?_; rintro e Z ⟨rfl, L', down', hZ⟩; have HZ := Lib.hid (hZ.more (show k ≤ k + 1 by omega)); clear hZ)
            ((try dsimp only [EffQ]); (try simp only [Act.put, List.setIfInBounds_toArray, List.set_cons_zero, List.set_cons_succ]))
            refine M_pure (i := 8) (v := ?_) rfl (by kernel_rfl) (by kernel_rfl) (by kernel_rfl) (fun _ _ _ h => h) (by rfl) ?hy ?_; (case hy => (intro w; go_simp; with_reducible rfl)); ((try dsimp only); (try simp only [Act.put, List.setIfInBounds_toArray, List.set_cons_zero, List.set_cons_succ]))
            refine M_done (by kernel_rfl) ?_ _
            go_wp2_with fail
            go_meet
            exact ⟨d, r, L', down', rfl, rfl, HZ⟩
          have e3 : (x.kind == 3) = false := by simpa using k3
          by_cases k4 : x.kind = 4
          · have e4 : (x.kind == 4) = true := by simpa using k4
            obtain ⟨Mid, hw1, hw2⟩ := two_up w X d r k L down HX.out.1 (by omega)
            have HW1 := Lib.hid hw1
            have HW2 := Lib.hid hw2
            clear hw1 hw2 k0 k1 k2 k3 k4
            go_wp2_with (first
              | (go_at_call 38; refine HW1.out.mono ?_; rintro e Y ⟨rfl, hM⟩; have HY := Lib.hid hM; clear hM)
              | (go_at_call 39; refine (HW2.out _ HY.out).mono ?_; rintro e Z ⟨rfl, L', down', hZ⟩; have HZ := Lib.hid (hZ.more (show k ≤ k + 1 by omega)); clear hZ))
            go_meet
            exact ⟨d, r, L', down', rfl, rfl, HZ⟩
          have e4 : (x.kind == 4) = false := by simpa using k4
          have HZ := Lib.hid (HX.out.1.more (show k ≤ k + 1 by omega))
          clear k0 k1 k2 k3 k4
          go_wp2_with fail
          go_meet
          exact ⟨d, r, L, down, rfl, rfl, HZ⟩
        case rest =>
          obtain ⟨d', r', L', down', rfl, rfl, HT'⟩ := hcut
          rename_i wx
          obtain ⟨hs1, hs2, A2, c2, hs3, hs4⟩ := two_sees _ _ _ _ _ _ _ HT'.out
          have HS1 := Lib.hid (hs1 1)
          have HS2 := Lib.hid (hs2 1)
          have hL' := HT'.out.len
          clear hs1 hs2 a0 a1 a2 HX
          go_wp2_with fail
          refine wp_region_M (fun W => W.cell? ⟨r', 0, none⟩ = some (.slice A2 L'.length c2) ∧ W.cell? ⟨r', 1, none⟩ = some (.bool down')) (fun k => [4, 14].contains k) (fun k => false) (by kernel_rfl) ?_
          ((try dsimp only); (try simp only [Act.put, List.setIfInBounds_toArray, List.set_cons_zero, List.set_cons_succ]))
          refine M_pure (i := 0) (v := ?_) rfl (by kernel_rfl) (by kernel_rfl) (by kernel_rfl) (fun _ _ _ h => h) (by rfl) ?hy ?_; (case hy => (intro w; go_simp; with_reducible rfl)); ((try dsimp only); (try simp only [Act.put, List.setIfInBounds_toArray, List.set_cons_zero, List.set_cons_succ]))
          refine M_pure (i := 1) (v := ?_) rfl (by kernel_rfl) (by kernel_rfl) (by kernel_rfl) (fun _ _ _ h => h) (by rfl) ?hy ?_; (case hy => (intro w; go_simp; with_reducible rfl)); ((try dsimp only); (try simp only [Act.put, List.setIfInBounds_toArray, List.set_cons_zero, List.set_cons_succ]))
          refine M_pure (i := 2) (v := ?_) rfl (by kernel_rfl) (by kernel_rfl) (by kernel_rfl) (fun _ _ _ h => h) (by rfl) ?hy ?_; (case hy => (intro w; go_simp; with_reducible rfl)); ((try dsimp only); (try simp only [Act.put, List.setIfInBounds_toArray, List.set_cons_zero, List.set_cons_succ]))
          refine M_pure (i := 3) (v := ?_) rfl (by kernel_rfl) (by kernel_rfl) (by kernel_rfl) (fun _ _ _ h => h) (by rfl) ?hy ?_; (case hy => (intro w; go_simp; with_reducible rfl)); ((try dsimp only); (try simp only [Act.put, List.setIfInBounds_toArray, List.set_cons_zero, List.set_cons_succ]))
          refine M_pure (i := 5) (v := ?_) rfl (by kernel_rfl) (by kernel_rfl) (by kernel_rfl) (fun _ _ _ h => h) (by rfl) ?hy ?_; (case hy => (intro w; go_simp; with_reducible rfl)); ((try dsimp only); (try simp only [Act.put, List.setIfInBounds_toArray, List.set_cons_zero, List.set_cons_succ]))
          refine M_pure (i := 6) (v := ?_) rfl (by kernel_rfl) (by kernel_rfl) (by kernel_rfl) (fun _ _ _ h => h) (by rfl) ?hy ?_; (case hy => (intro w; go_simp; with_reducible rfl)); ((try dsimp only); (try simp only [Act.put, List.setIfInBounds_toArray, List.set_cons_zero, List.set_cons_succ]))
          refine M_pure (i := 7) (v := ?_) rfl (by kernel_rfl) (by kernel_rfl) (by kernel_rfl) (fun _ _ _ h => h) (by rfl) ?hy ?_; (case hy => (intro w; go_simp; with_reducible rfl)); ((try dsimp only); (try simp only [Act.put, List.setIfInBounds_toArray, List.set_cons_zero, List.set_cons_succ]))
          refine M_semi (i := 8) (v := ?_) rfl (by kernel_rfl) (by kernel_rfl) (by kernel_rfl) (by kernel_rfl) (fun _ _ _ h => h) (by rfl) ⟨hs3, hs4⟩ ?hy ?_; (case hy => (intro w hS; go_simp; with_reducible rfl)); ((try dsimp only); (try simp only [Act.put, List.setIfInBounds_toArray, List.set_cons_zero, List.set_cons_succ]))
          refine M_pure (i := 9) (v := ?_) rfl (by kernel_rfl) (by kernel_rfl) (by kernel_rfl) (fun _ _ _ h => h) (by rfl) ?hy ?_; (case hy => (intro w; go_simp; with_reducible rfl)); ((try dsimp only); (try simp only [Act.put, List.setIfInBounds_toArray, List.set_cons_zero, List.set_cons_succ]))
          refine M_eff (i := 4) rfl (by kernel_rfl) (by rfl) ?_
          go_wp2_with (go_at_call 32; refine HS1.out.mono ?_; rintro e Y ⟨rfl, rfl⟩)
          refine ⟨⟨hs3, hs4⟩, ?_⟩
          ((try dsimp only); (try simp only [Act.put, List.setIfInBounds_toArray, List.set_cons_zero, List.set_cons_succ]))
          refine M_pure (i := 10) (v := ?_) rfl (by kernel_rfl) (by kernel_rfl) (by kernel_rfl) (fun _ _ _ h => h) (by rfl) ?hy ?_; (case hy => (intro w; go_simp; with_reducible rfl)); ((try dsimp only); (try simp only [Act.put, List.setIfInBounds_toArray, List.set_cons_zero, List.set_cons_succ]))
          refine M_pure (i := 11) (v := ?_) rfl (by kernel_rfl) (by kernel_rfl) (by kernel_rfl) (fun _ _ _ h => h) (by rfl) ?hy ?_; (case hy => (intro w; go_simp; with_reducible rfl)); ((try dsimp only); (try simp only [Act.put, List.setIfInBounds_toArray, List.set_cons_zero, List.set_cons_succ]))
          refine M_pure (i := 12) (v := ?_) rfl (by kernel_rfl) (by kernel_rfl) (by kernel_rfl) (fun _ _ _ h => h) (by rfl) ?hy ?_; (case hy => (intro w; go_simp; with_reducible rfl)); ((try dsimp only); (try simp only [Act.put, List.setIfInBounds_toArray, List.set_cons_zero, List.set_cons_succ]))
          refine M_pure (i := 13) (v := ?_) rfl (by kernel_rfl) (by kernel_rfl) (by kernel_rfl) (fun _ _ _ h => h) (by rfl) ?hy ?_; (case hy => (intro w; go_simp; with_reducible rfl)); ((try dsimp only); (try simp only [Act.put, List.setIfInBounds_toArray, List.set_cons_zero, List.set_cons_succ]))
          refine M_pure (i := 15) (v := ?_) rfl (by kernel_rfl) (by kernel_rfl) (by kernel_rfl) (fun _ _ _ h => h) (by rfl) ?hy ?_; (case hy => (intro w; go_simp; with_reducible rfl)); ((try dsimp only); (try simp only [Act.put, List.setIfInBounds_toArray, List.set_cons_zero, List.set_cons_succ]))
          refine M_pure (i := 16) (v := ?_) rfl (by kernel_rfl) (by kernel_rfl) (by kernel_rfl) (fun _ _ _ h => h) (by rfl) ?hy ?_; (case hy => (intro w; go_simp; with_reducible rfl)); ((try dsimp only); (try simp only [Act.put, List.setIfInBounds_toArray, List.set_cons_zero, List.set_cons_succ]))
          refine M_pure (i := 17) (v := ?_) rfl (by kernel_rfl) (by kernel_rfl) (by kernel_rfl) (fun _ _ _ h => h) (by rfl) ?hy ?_; (case hy => (intro w; go_simp; with_reducible rfl)); ((try dsimp only); (try simp only [Act.put, List.setIfInBounds_toArray, List.set_cons_zero, List.set_cons_succ]))
          refine M_semi (i := 18) (v := ?_) rfl (by kernel_rfl) (by kernel_rfl) (by kernel_rfl) (by kernel_rfl) (fun _ _ _ h => h) (by rfl) ⟨hs3, hs4⟩ ?hy ?_; (case hy => (intro w hS; go_simp; with_reducible rfl)); ((try dsimp only); (try simp only [Act.put, List.setIfInBounds_toArray, List.set_cons_zero, List.set_cons_succ]))
          refine M_eff (i := 14) rfl (by kernel_rfl) (by rfl) ?_
          go_wp2_with (go_at_call 40; refine HS2.out.mono ?_; rintro e Y ⟨rfl, rfl⟩)
          refine ⟨⟨hs3, hs4⟩, ?_⟩
          ((try dsimp only); (try simp only [Act.put, List.setIfInBounds_toArray, List.set_cons_zero, List.set_cons_succ]))
          refine M_pure (i := 19) (v := ?_) rfl (by kernel_rfl) (by kernel_rfl) (by kernel_rfl) (fun _ _ _ h => h) (by rfl) ?hy ?_; (case hy => (intro w; go_simp; with_reducible rfl)); ((try dsimp only); (try simp only [Act.put, List.setIfInBounds_toArray, List.set_cons_zero, List.set_cons_succ]))
          refine M_pure (i := 20) (v := ?_) rfl (by kernel_rfl) (by kernel_rfl) (by kernel_rfl) (fun _ _ _ h => h) (by rfl) ?hy ?_; (case hy => (intro w; go_simp; with_reducible rfl)); ((try dsimp only); (try simp only [Act.put, List.setIfInBounds_toArray, List.set_cons_zero, List.set_cons_succ]))
          refine M_done (by kernel_rfl) ?_ _
          go_wp2_with fail
          go_roundw
          case rel => exact ⟨k + 1, d', r', L', down', by omega, rfl, rfl, by go_num, Lib.hid (HT'.out.kept (Chg.drew (Chg.refl _ _)))⟩
          case measure => simp [intOf]; omega
      · go_wp2_with (go_at_call 27; refine (dwakes_any _).mono ?_; rintro e W ⟨rfl, hC⟩; have HC := Lib.hid (HT.out.chg.trans hC); clear hC)
        go_ret
        exact ⟨rfl, HC.out⟩
end Go.Proofs.Ytipijkpjmpejlaa
