/- Parts of the proof of the law ChangesCut, number 3 of 5: laws over memory, contracts of functions, walks. No condition. -/
import Derived.Maps.AppendAt
import Derived.RangeFuncLeaves
import Derived.RangeFuncNested
import Derived.OwnWalkIn
import Derived.LoopIn
import Derived.BigFrameIn
import Derived.Shelf.RegionOpen
import Derived.TacticsInMore
import Derived.OrdersIn
import Derived.Test.YtofjocjljbkjgaaProg
import Derived.Maps.OwnSet
import Derived.DeepKeys3
import Derived.Maps.RangeWalk
import Derived.Deep.CutBlock
import Derived.Deep.DeepCutAuto
import Derived.Test.YtofjocjljbkjgaaQChangesCut2
set_option linter.unusedVariables false
set_option linter.unusedSimpArgs false
namespace Go.Proofs.Ytofjocjljbkjgaa
open Go.RowKit
theorem TellsT.cells {T : TypeId} {w : World} {b N : Nat} {p : Nat → Prop} (h : TellsT T w b N p) : ∃ cs : List Value, w.heap[b]? = some (.cells cs.toArray T (0, 0)) ∧ cs.length = N ∧ cs.toArray.all (·.oneCell') = true ∧
    ∀ (w' : World) (b' : Nat), w'.heap[b']? = some (.cells cs.toArray T (0, 0)) → TellsT T w' b' N p := by
  obtain ⟨c, ⟨cs, h1, h2, h3⟩, h4⟩ := h
  refine ⟨cs.toList, by simpa using h1, by simpa using h2, ?_, fun w' b' hb => ⟨c, ⟨cs, by simpa using hb, h2, h3⟩, h4⟩⟩
  rw [Array.all_eq_true]
  intro i hi
  have hi' : i < cs.size := by simpa using hi
  have := h3 i (by omega)
  rw [Array.getElem?_eq_getElem hi'] at this
  injection this with this
  have e : cs.toList.toArray[i] = Value.bool (c i) := by simpa using this
  rw [e]
  rfl
def firstA : Array Value := (Value.bool true :: List.replicate 200 (Value.bool false)).toArray
def noneA : Array Value := (List.replicate 201 (Value.bool false)).toArray
theorem build_first : ∀ w, (Instr.build 201 #[(0, .bool true)]).run Try.prog w = .ok (.agg firstA) w := fun _ => by kernel_rfl
theorem zero_none : ∀ w, (zeroValue 201).run Try.prog w = .ok (.agg noneA) w := fun _ => by kernel_rfl
theorem firstA_one : firstA.all (·.oneCell') = true := by kernel_rfl
theorem firstA_size : firstA.size = 201 := by kernel_rfl
theorem noneA_size : noneA.size = 201 := by kernel_rfl
theorem infoAR : (Try.prog.info? 201).map (·.size) = some 201 := by kernel_rfl
theorem firstA_get (i : Nat) (hi : i < 201) : firstA[i]? = some (.bool (decide (i = 0))) := by
  unfold firstA
  rw [List.getElem?_toArray]
  cases i with
  | zero => rfl
  | succ i =>
    rw [List.getElem?_cons_succ, List.getElem?_replicate, if_pos (by omega)]
    rfl
theorem noneA_get (i : Nat) (hi : i < 201) : noneA[i]? = some (.bool false) := by
  unfold noneA
  rw [List.getElem?_toArray, List.getElem?_replicate, if_pos hi]
theorem tells_first {w : World} {b : Nat} (h : w.heap[b]? = some (.cells firstA 201 (0, 0))) : TellsT 201 w b 201 (fun m => m = 0) := ⟨fun m => decide (m = 0), ⟨firstA, h, firstA_size, fun i hi => firstA_get i hi⟩, fun m _ => by simp⟩
theorem tells_none {w : World} {b : Nat} (h : w.heap[b]? = some (.cells noneA 201 (0, 0))) : TellsT 201 w b 201 (fun _ => False) := ⟨fun m => false, ⟨noneA, h, noneA_size, fun i hi => noneA_get i hi⟩, fun m _ => by simp⟩
set_option maxHeartbeats 16000000 in
set_option maxRecDepth 100000 in
theorem gfits_any (g : Gr) (A : Option Addr) (c : Nat) (k : Int) (K : Option Addr) (kids : List Int) (ck : Nat) (w : World) (hG : GrC w A c g.kinds) (hK : RowP w 1 IntAt K kids) (hlk : kids.length ≤ 9223372036854775807) :
    Calls Try.prog 148 #[.agg #[.slice A g.kinds.length c, .int .i64 g.root], .int .i64 k, .slice K kids.length ck] w (BoolIs (FitsOk g k kids) w) := by
  obtain ⟨W1, hW1⟩ : ∃ W1, W1 = w.alloc (.cells #[.slice A g.kinds.length c, .int .i64 g.root] 43) := ⟨_, rfl⟩
  have hch : Chg [] w W1 := by rw [hW1]; exact (by with_reducible repeat (first | exact Chg.refl _ _ | apply Chg.alloc | apply Chg.drew | apply Chg.drewN | (refine Chg.setCell ?_ _ _ (by simp))))
  have hg1 : W1.heap[w.heap.size]? = some (.cells #[.slice A g.kinds.length c, .int .i64 g.root] 43 (0, 0)) := by rw [hW1]; exact heap_new _ _ rfl
  have HC := Lib.hid (And.intro hch (And.intro (gkind_any g A c w.heap.size k W1 (hG.kept hch) hg1) (And.intro hW1 hK)))
  clear hG hch hg1 hW1 hK
  go_enter Try.func148, Try.ntmps148
  go_wp2_with fail
  rw [← HC.out.2.2.1]
  refine HC.out.2.1.mono ?_
  rintro e X ⟨h, hcx⟩
  have HX := Lib.hid (HC.out.1.trans hcx)
  clear hcx
  rcases h with ⟨x, gk, o, hok, hx, rfl, hat⟩ | ⟨hn, rfl⟩
  · by_cases hk2 : kids.length ≤ 200
    · obtain ⟨As, cs, hr, _, hsl, hrs⟩ := hat.range
      have e2 : X.cell? ⟨gk, o + 2, none⟩ = some (.slice As x.slots.length cs) := hr 2 _ rfl
      have HK := Lib.hid (And.intro hok (And.intro hx hrs))
      clear hok hx hat hr hrs
      have dc : decide (200 < (kids.length : Int)) = false := decide_eq_false (by omega)
      have dc' : decide (200 < kids.length) = false := decide_eq_false (by omega)
      go_wp2_with (first
        | (refine wpList_build rfl 201 _ rfl #[(0, .bool true)] rfl (.agg firstA) build_first ?_
           ((try dsimp only); (try simp only [Act.put, List.setIfInBounds_toArray, List.set_cons_zero, List.set_cons_succ])))
        | (refine wpList_alloc rfl 201 rfl _ zero_none ?_
           refine wpList_world (fun Z => Z.heap[X.heap.size]? = some (.cells noneA 201 (0, 0)) ∧ Chg [] X Z) ⟨heap_new _ _ rfl, (by with_reducible repeat (first | exact Chg.refl _ _ | apply Chg.alloc | apply Chg.drew | apply Chg.drewN | (refine Chg.setCell ?_ _ _ (by simp))))⟩ ?_
           rintro Z ⟨hb, hZ⟩
           refine wpList_store_row rfl 201 (.tmp 8) (.tmp 23) rfl X.heap.size (by kernel_rfl) firstA (by kernel_rfl) _ _ hb (by rw [firstA_size]; exact infoAR) (by rw [firstA_size, noneA_size]) firstA_one ?_
           refine wpList_world (fun U => U.heap[X.heap.size]? = some (.cells firstA 201 (0, 0)) ∧ Chg [] X U) ⟨setRow_heap _ _ _ _ _ _ hb, hZ.andThen (setRow_chg _ _ _) (by simp)⟩ ?_
           rintro U ⟨hu, hU⟩
           have HU := Lib.hid (And.intro (tells_first hu) hU)
           have e3 := hU.cell e2 (by simp)
           have HE2 := Lib.hid e2
           clear hb hZ hu hU
           ((try dsimp only); (try simp only [Act.put, List.setIfInBounds_toArray, List.set_cons_zero, List.set_cons_succ])))
        | (skip; fail))
      clear dc dc' e2
      have hkl2 : kids.length ≤ 200 := hk2
      go_loopw [29] (fun iv wr => ∃ i : Nat, i ≤ x.slots.length ∧ iv = .int .i64 i ∧ Hid (Chg [] X wr ∧ TellsT 201 wr X.heap.size 201 (fun m => m ≤ kids.length ∧ Reach x.slots kids i m))) (fun iv _ => x.slots.length - (intOf iv).toNat)
      case atStart => exact ⟨0, Nat.zero_le _, rfl, Lib.hid ⟨HU.out.2, HU.out.1.imp fun m _ => by unfold Reach; omega⟩⟩
      case round =>
        obtain ⟨i, hi, rfl, H⟩ := hrel
        obtain ⟨V, hV⟩ : ∃ V, V = wr := ⟨_, rfl⟩
        subst hV
        clear e3
        have e3 : V.cell? ⟨gk, o + 2, none⟩ = some (.slice As x.slots.length cs) := H.out.1.cell HE2.out (by simp)
        by_cases hlt : i < x.slots.length
        · obtain ⟨gs, os, hA, _, hat⟩ := (HK.out.2.2.imp H.out.1.size fun _ _ _ => SlAt.kept H.out.1).at hlt
          obtain ⟨s, hs⟩ : ∃ s, s = x.slots[i] := ⟨_, rfl⟩
          rw [← hs] at hat
          have hse : x.slots[i]? = some s := by rw [hs]; exact List.getElem?_eq_getElem hlt
          obtain ⟨Ai, ci, hri, hci, hcm, hrw⟩ := hat.range
          subst hA
          have HSL := Lib.hid (And.intro hri (And.intro hrw (And.intro hse (And.intro hci hcm))))
          clear hs hat hri hrw hse
          have hbV := H.out.2.lt
          go_wp2_with (skip; fail)
          go_step3
          go_wp2_with (first
            | (refine wpList_alloc rfl 201 rfl _ zero_none ?_
               refine wpList_world (fun Z => TellsT 201 Z V.heap.size 201 (fun _ => False) ∧ Chg [] V Z) ⟨tells_none (heap_new _ _ rfl), (by with_reducible repeat (first | exact Chg.refl _ _ | apply Chg.alloc | apply Chg.drew | apply Chg.drewN | (refine Chg.setCell ?_ _ _ (by simp))))⟩ ?_
               rintro Y1 ⟨ht, hc⟩
               have HY1 := Lib.hid (And.intro ht (And.intro hc (H.out.2.of hc (by simp))))
               clear ht hc
               ((try dsimp only); (try simp only [Act.put, List.setIfInBounds_toArray, List.set_cons_zero, List.set_cons_succ])))
            | (skip; fail))
          go_step3
          go_wp2_with (skip; fail)
          go_loopw [41] (fun fv wq => ∃ fr : Nat, fr ≤ kids.length + 1 ∧ fv = .int .i64 fr ∧ Hid (Chg [V.heap.size] Y1 wq ∧ TellsT 201 wq V.heap.size 201 (fun m => (m ≤ kids.length ∧ ∃ f, f < fr ∧ Reach x.slots kids i f ∧ Hop s kids f m)))) (fun fv _ => kids.length + 1 - (intOf fv).toNat)
          case atStart => exact ⟨0, Nat.zero_le _, rfl, Lib.hid ⟨Chg.refl _ _, HY1.out.1.imp fun m _ => by simp⟩⟩
          case round =>
            obtain ⟨fr, hfr, rfl, HL⟩ := hrel
            obtain ⟨U2, hU⟩ : ∃ U2, U2 = wr := ⟨_, rfl⟩
            subst hU
            by_cases hfl : fr ≤ kids.length
            · obtain ⟨v, hv, hvr⟩ := (HY1.out.2.2.of HL.out.1 (by simp; omega)).at (m := fr) (by omega)
              have HV := Lib.hid hvr
              clear hvr
              have i1 : (fr : Int) < 201 := by omega
              cases v with
              | false =>
                go_wp2_with (skip; fail)
                go_roundw
                case rel =>
                  refine ⟨fr + 1, by omega, by go_num, Lib.hid ⟨HL.out.1, HL.out.2.imp fun m _ => ?_⟩⟩
                  constructor
                  · rintro ⟨h0, f, h1, h2⟩; exact ⟨h0, f, by omega, h2⟩
                  · rintro ⟨h0, f, h1, h2, h3⟩
                    by_cases e : f = fr
                    · subst e; exact absurd (HV.out.2 ⟨hfl, h2⟩) (by simp)
                    · exact ⟨h0, f, by omega, h2, h3⟩
                case measure => simp [intOf]; omega
              | true =>
                have HRe := Lib.hid (HV.out.1 (by first | rfl | trivial)).2
                clear HV
                go_wp2_with (skip; fail)
                go_loopw [13] (fun nv wq => ∃ n : Nat, fr + n ≤ kids.length + 1 ∧ nv = .int .i64 n ∧ Hid (Chg [V.heap.size] Y1 wq ∧ TellsT 201 wq V.heap.size 201 (fun m => (m ≤ kids.length ∧ ((∃ f, f < fr ∧ Reach x.slots kids i f ∧ Hop s kids f m) ∨ HopTo s kids fr n m))) ∧ ∀ j, j + 1 < n → kids.getD (fr + j) 0 ∈ s.kinds)) (fun nv _ => kids.length + 1 - (intOf nv).toNat)
                case atStart =>
                  refine ⟨0, by omega, rfl, Lib.hid ⟨HL.out.1, HL.out.2.imp fun m _ => ?_, fun j hj => by omega⟩⟩
                  constructor
                  · exact fun ⟨h0, h⟩ => ⟨h0, .inl h⟩
                  · rintro ⟨h0, h | ⟨n', h, _⟩⟩
                    · exact ⟨h0, h⟩
                    · omega
                case round =>
                  obtain ⟨n, hn, rfl, H3⟩ := hrel
                  obtain ⟨T, hT⟩ : ∃ T, T = wr := ⟨_, rfl⟩
                  subst hT
                  have hVT : Chg [] V T := HY1.out.2.1.andThen H3.out.1 (by simp)
                  have HVT := Lib.hid hVT
                  clear hVT
                  have f0 : T.cell? ⟨gs, os + i * 3, none⟩ = some (.slice Ai s.kinds.length ci) := range_kept HVT.out HSL.out.1 0 _ rfl
                  have f2 : T.cell? ⟨gs, os + i * 3 + 2, none⟩ = some (.int .i64 s.most) := range_kept HVT.out HSL.out.1 2 _ rfl
                  have f1 : T.cell? ⟨gs, os + i * 3 + 1, none⟩ = some (.int .i64 s.least) := range_kept HVT.out HSL.out.1 1 _ rfl
                  by_cases c2 : fr + n ≤ kids.length
                  · have d2 : decide ((fr : Int) + n ≤ (kids.length : Int)) = true := decide_eq_true (by omega)
                    by_cases c1 : (n : Int) ≤ s.most
                    · have d1 : decide ((n : Int) ≤ s.most) = true := decide_eq_true c1
                      have HC1 := Lib.hid c1
                      clear c1
                      by_cases hn0 : n = 0
                      · have g0 : decide (0 < (n : Int)) = false := decide_eq_false (by omega)
                        have g0' : decide (0 < n) = false := decide_eq_false (by omega)
                        have HN0 := Lib.hid hn0
                        clear hn0
                        go_wp2_with (skip; fail)
                        refine wp_region_M (fun _ => True) (fun _ => false) (fun _ => false) (by kernel_rfl) ?_
                        obtain ⟨Q, hQ⟩ : ∃ Q, Q = T.drew := ⟨_, rfl⟩
                        rw [← hQ]
                        have hqc : Chg [] T Q := by rw [hQ]; exact (Chg.refl _ _).drew
                        have HQ := Lib.hid (And.intro hqc (show ∀ j, j < n → kids.getD (fr + j) 0 ∈ s.kinds from fun j hj => by have := HN0.out; omega))
                        clear hQ hqc
                        refine M_pure (i := 0) (v := ?_) rfl (by kernel_rfl) (by kernel_rfl) (by kernel_rfl) (fun _ _ _ h => h) (by rfl) ?hy ?_; (case hy => (intro w; go_simp; with_reducible rfl)); ((try dsimp only); (try simp only [Act.put, List.setIfInBounds_toArray, List.set_cons_zero, List.set_cons_succ]))
                        refine M_pure (i := 1) (v := ?_) rfl (by kernel_rfl) (by kernel_rfl) (by kernel_rfl) (fun _ _ _ h => h) (by rfl) ?hy ?_; (case hy => (intro w; go_simp; with_reducible rfl)); ((try dsimp only); (try simp only [Act.put, List.setIfInBounds_toArray, List.set_cons_zero, List.set_cons_succ]))
                        refine M_pure (i := 2) (v := ?_) rfl (by kernel_rfl) (by kernel_rfl) (by kernel_rfl) (fun _ _ _ h => h) (by rfl) ?hy ?_; (case hy => (intro w; go_simp; with_reducible rfl)); ((try dsimp only); (try simp only [Act.put, List.setIfInBounds_toArray, List.set_cons_zero, List.set_cons_succ]))
                        refine M_skip (i := 3) rfl (by kernel_rfl) (by kernel_rfl) (by kernel_rfl) (fun _ _ _ h => h) (by rfl) ?_; ((try dsimp only); (try simp only [Act.put, List.setIfInBounds_toArray, List.set_cons_zero, List.set_cons_succ]))
                        refine M_skip (i := 4) rfl (by kernel_rfl) (by kernel_rfl) (by kernel_rfl) (fun _ _ _ h => h) (by rfl) ?_; ((try dsimp only); (try simp only [Act.put, List.setIfInBounds_toArray, List.set_cons_zero, List.set_cons_succ]))
                        refine M_skip (i := 5) rfl (by kernel_rfl) (by kernel_rfl) (by kernel_rfl) (fun _ _ _ h => h) (by rfl) ?_; ((try dsimp only); (try simp only [Act.put, List.setIfInBounds_toArray, List.set_cons_zero, List.set_cons_succ]))
                        refine M_skip (i := 6) rfl (by kernel_rfl) (by kernel_rfl) (by kernel_rfl) (fun _ _ _ h => h) (by rfl) ?_; ((try dsimp only); (try simp only [Act.put, List.setIfInBounds_toArray, List.set_cons_zero, List.set_cons_succ]))
                        refine M_skip (i := 7) rfl (by kernel_rfl) (by kernel_rfl) (by kernel_rfl) (fun _ _ _ h => h) (by rfl) ?_; ((try dsimp only); (try simp only [Act.put, List.setIfInBounds_toArray, List.set_cons_zero, List.set_cons_succ]))
                        refine M_skip (i := 8) rfl (by kernel_rfl) (by kernel_rfl) (by kernel_rfl) (fun _ _ _ h => h) (by rfl) ?_; ((try dsimp only); (try simp only [Act.put, List.setIfInBounds_toArray, List.set_cons_zero, List.set_cons_succ]))
                        refine M_skip (i := 9) rfl (by kernel_rfl) (by kernel_rfl) (by kernel_rfl) (fun _ _ _ h => h) (by rfl) ?_; ((try dsimp only); (try simp only [Act.put, List.setIfInBounds_toArray, List.set_cons_zero, List.set_cons_succ]))
                        refine M_skip (i := 10) rfl (by kernel_rfl) (by kernel_rfl) (by kernel_rfl) (fun _ _ _ h => h) (by rfl) ?_; ((try dsimp only); (try simp only [Act.put, List.setIfInBounds_toArray, List.set_cons_zero, List.set_cons_succ]))
                        refine M_skip (i := 11) rfl (by kernel_rfl) (by kernel_rfl) (by kernel_rfl) (fun _ _ _ h => h) (by rfl) ?_; ((try dsimp only); (try simp only [Act.put, List.setIfInBounds_toArray, List.set_cons_zero, List.set_cons_succ]))
                        refine M_skip (i := 12) rfl (by kernel_rfl) (by kernel_rfl) (by kernel_rfl) (fun _ _ _ h => h) (by rfl) ?_; ((try dsimp only); (try simp only [Act.put, List.setIfInBounds_toArray, List.set_cons_zero, List.set_cons_succ]))
                        refine M_skip (i := 13) rfl (by kernel_rfl) (by kernel_rfl) (by kernel_rfl) (fun _ _ _ h => h) (by rfl) ?_; ((try dsimp only); (try simp only [Act.put, List.setIfInBounds_toArray, List.set_cons_zero, List.set_cons_succ]))
                        refine M_skip (i := 14) rfl (by kernel_rfl) (by kernel_rfl) (by kernel_rfl) (fun _ _ _ h => h) (by rfl) ?_; ((try dsimp only); (try simp only [Act.put, List.setIfInBounds_toArray, List.set_cons_zero, List.set_cons_succ]))
                        refine M_skip (i := 15) rfl (by kernel_rfl) (by kernel_rfl) (by kernel_rfl) (fun _ _ _ h => h) (by rfl) ?_; ((try dsimp only); (try simp only [Act.put, List.setIfInBounds_toArray, List.set_cons_zero, List.set_cons_succ]))
                        refine M_pure (i := 16) (v := ?_) rfl (by kernel_rfl) (by kernel_rfl) (by kernel_rfl) (fun _ _ _ h => h) (by rfl) ?hy ?_; (case hy => (intro w; go_simp; with_reducible rfl)); ((try dsimp only); (try simp only [Act.put, List.setIfInBounds_toArray, List.set_cons_zero, List.set_cons_succ]))
                        refine M_done (by kernel_rfl) ?_ _
                        have hst : TellsT 201 Q V.heap.size 201 (fun m => (m ≤ kids.length ∧ ((∃ f, f < fr ∧ Reach x.slots kids i f ∧ Hop s kids f m) ∨ HopTo s kids fr n m))) := H3.out.2.1.of HQ.out.1 (by simp)
                        have hnx : ∀ (m : Nat), HopTo s kids fr (n + 1) m ↔ (HopTo s kids fr n m ∨ (m = fr + n ∧ s.least ≤ ((n : Nat) : Int))) := fun m => by
                          constructor
                          · rintro ⟨n', h1, h2, h3, h4, h5⟩
                            by_cases e : n' = n
                            · subst e; exact .inr ⟨h2, h3⟩
                            · exact .inl ⟨n', by omega, h2, h3, h4, h5⟩
                          · rintro (⟨n', h1, h2, h3, h4, h5⟩ | ⟨h1, h2⟩)
                            · exact ⟨n', by omega, h2, h3, h4, h5⟩
                            · exact ⟨n, by omega, h1, h2, HC1.out, HQ.out.2⟩
                        obtain ⟨ov, hov, hovr⟩ := hst.at (m := fr + n) (by omega)
                        have HST := Lib.hid (And.intro hst (And.intro hnx hovr))
                        clear hst hnx hovr
                        have g1 := HQ.out.1.cell f1 (by simp)
                        have w0 : (0 : Int) ≤ (fr : Int) + ((n : Nat) : Int) := by omega
                        have w2 : (fr : Int) + ((n : Nat) : Int) < 201 := by omega
                        have w1 : (((fr : Int) + ((n : Nat) : Int))).toNat = fr + n := by omega
                        have hbd : ∀ bb : Bool, (bb = decide (s.least ≤ ((n : Nat) : Int))) → ∀ m : Nat, m < 201 → ((m ≤ kids.length ∧ ((∃ f, f < fr ∧ Reach x.slots kids i f ∧ Hop s kids f m) ∨ HopTo s kids fr (n + 1) m)) ↔ if m = fr + n then (ov || bb) = true else (m ≤ kids.length ∧ ((∃ f, f < fr ∧ Reach x.slots kids i f ∧ Hop s kids f m) ∨ HopTo s kids fr n m))) := fun bb hbb m hm => by
                          rw [HST.out.2.1 m]
                          by_cases e : m = fr + n
                          · rw [if_pos e, Bool.or_eq_true, hbb, decide_eq_true_eq, HST.out.2.2, ← e]
                            constructor
                            · rintro ⟨h0, h | h | h⟩
                              · exact .inl ⟨h0, .inl h⟩
                              · exact .inl ⟨h0, .inr h⟩
                              · exact .inr h.2
                            · rintro (⟨h0, h | h⟩ | h)
                              · exact ⟨h0, .inl h⟩
                              · exact ⟨h0, .inr (.inl h)⟩
                              · exact ⟨by omega, .inr (.inr ⟨rfl, h⟩)⟩
                          · rw [if_neg e]
                            constructor
                            · rintro ⟨h0, h | h | h⟩
                              · exact ⟨h0, .inl h⟩
                              · exact ⟨h0, .inr h⟩
                              · exact absurd h.1 e
                            · rintro ⟨h0, h | h⟩
                              · exact ⟨h0, .inl h⟩
                              · exact ⟨h0, .inr (.inl h)⟩
                        have HBD := Lib.hid hbd
                        clear hbd
                        try simp only [Int.natCast_add, Int.natCast_one] at w0 w1 w2
                        cases ov with
                        | true =>
                          go_wp2_with (first
                            | (refine wpList_store_bool rfl (.tmp 97) (.tmp 96) rfl V.heap.size (fr + n) 201 (by simp [Act.eval, w1]) true (by simp [Act.eval]) _ (fun m => (m ≤ kids.length ∧ ((∃ f, f < fr ∧ Reach x.slots kids i f ∧ Hop s kids f m) ∨ HopTo s kids fr (n + 1) m))) HST.out.1 (by omega) (fun m hm => HBD.out _ rfl m hm) ?_
                               intro P ht hc
                               have HP := Lib.hid (And.intro ht hc)
                               clear ht hc
                               ((try dsimp only); (try simp only [Act.put, List.setIfInBounds_toArray, List.set_cons_zero, List.set_cons_succ])))
                            | (skip; fail))
                          go_roundw
                          case rel => exact ⟨n + 1, by omega, by go_num, Lib.hid ⟨(H3.out.1.andThen HQ.out.1 (by simp)).trans HP.out.2, HP.out.1, fun j hj => HQ.out.2 j (by omega)⟩⟩
                          case measure => simp [intOf]; omega
                        | false =>
                          by_cases c3 : s.least ≤ ((n : Nat) : Int)
                          · have d3 : decide (s.least ≤ ((n : Nat) : Int)) = true := decide_eq_true c3
                            try simp only [Int.natCast_add, Int.natCast_one] at d3
                            go_wp2_with (first
                              | (refine wpList_store_bool rfl (.tmp 97) (.tmp 96) rfl V.heap.size (fr + n) 201 (by simp [Act.eval, w1]) true (by simp [Act.eval]) _ (fun m => (m ≤ kids.length ∧ ((∃ f, f < fr ∧ Reach x.slots kids i f ∧ Hop s kids f m) ∨ HopTo s kids fr (n + 1) m))) HST.out.1 (by omega) (fun m hm => HBD.out true (decide_eq_true c3).symm m hm) ?_
                                 intro P ht hc
                                 have HP := Lib.hid (And.intro ht hc)
                                 clear ht hc
                                 ((try dsimp only); (try simp only [Act.put, List.setIfInBounds_toArray, List.set_cons_zero, List.set_cons_succ])))
                              | (skip; fail))
                            go_roundw
                            case rel => exact ⟨n + 1, by omega, by go_num, Lib.hid ⟨(H3.out.1.andThen HQ.out.1 (by simp)).trans HP.out.2, HP.out.1, fun j hj => HQ.out.2 j (by omega)⟩⟩
                            case measure => simp [intOf]; omega
                          · have d3 : decide (s.least ≤ ((n : Nat) : Int)) = false := decide_eq_false c3
                            try simp only [Int.natCast_add, Int.natCast_one] at d3
                            go_wp2_with (first
                              | (refine wpList_store_bool rfl (.tmp 97) (.tmp 96) rfl V.heap.size (fr + n) 201 (by simp [Act.eval, w1]) false (by simp [Act.eval]) _ (fun m => (m ≤ kids.length ∧ ((∃ f, f < fr ∧ Reach x.slots kids i f ∧ Hop s kids f m) ∨ HopTo s kids fr (n + 1) m))) HST.out.1 (by omega) (fun m hm => HBD.out false (decide_eq_false c3).symm m hm) ?_
                                 intro P ht hc
                                 have HP := Lib.hid (And.intro ht hc)
                                 clear ht hc
                                 ((try dsimp only); (try simp only [Act.put, List.setIfInBounds_toArray, List.set_cons_zero, List.set_cons_succ])))
                              | (skip; fail))
                            go_roundw
                            case rel => exact ⟨n + 1, by omega, by go_num, Lib.hid ⟨(H3.out.1.andThen HQ.out.1 (by simp)).trans HP.out.2, HP.out.1, fun j hj => HQ.out.2 j (by omega)⟩⟩
                            case measure => simp [intOf]; omega
                      · obtain ⟨n, rfl⟩ : ∃ n', n = n' + 1 := ⟨n - 1, by omega⟩
                        try simp only [Int.natCast_add, Int.natCast_one] at d1 d2
                        obtain ⟨gK, oK, hKA, hKc⟩ := RowI.get (RowI.kept (HX.out.trans (H.out.1.trans HVT.out)) HC.out.2.2.2) (i := fr + n) (by omega)
                        obtain ⟨u, hu⟩ : ∃ u, u = kids.getD (fr + n) 0 := ⟨_, rfl⟩
                        rw [← hu] at hKc
                        subst hKA
                        have HU3 := Lib.hid hu
                        clear hu
                        have s1 : IntKind.i64.wrap ((fr : Int) + (n + 1)) = (fr : Int) + (n + 1) := IntWalk.i64_in _ (by omega)
                        have s2 : IntKind.i64.wrap ((fr : Int) + (n + 1) - 1) = ((fr + n : Nat) : Int) := by rw [IntWalk.i64_in _ (by omega)]; omega
                        have s3 : (0 : Int) ≤ (fr : Int) + n := by omega
                        have s4 : (fr : Int) + n < (kids.length : Int) := by omega
                        have s5 : ((fr : Int) + n).toNat = fr + n := by omega
                        go_wp2_with (skip; fail)
                        refine wp_region_M (fun _ => True) (fun k => [14].contains k) (fun _ => false) (by kernel_rfl) ?_
                        obtain ⟨Z1, hZ1⟩ : ∃ Z1, Z1 = T.drew := ⟨_, rfl⟩
                        rw [← hZ1]
                        have hqc : Chg [] T Z1 := by rw [hZ1]; exact (Chg.refl _ _).drew
                        have HZd := Lib.hid (And.intro (HVT.out.trans hqc) hqc)
                        have hKc := hqc.cell hKc (by simp)
                        have f0 := hqc.cell f0 (by simp)
                        clear hZ1 hqc
                        refine M_pure (i := 0) (v := ?_) rfl (by kernel_rfl) (by kernel_rfl) (by kernel_rfl) (fun _ _ _ h => h) (by rfl) ?hy ?_; (case hy => (intro w; go_simp; with_reducible rfl)); ((try dsimp only); (try simp only [Act.put, List.setIfInBounds_toArray, List.set_cons_zero, List.set_cons_succ]))
                        refine M_pure (i := 1) (v := ?_) rfl (by kernel_rfl) (by kernel_rfl) (by kernel_rfl) (fun _ _ _ h => h) (by rfl) ?hy ?_; (case hy => (intro w; go_simp; with_reducible rfl)); ((try dsimp only); (try simp only [Act.put, List.setIfInBounds_toArray, List.set_cons_zero, List.set_cons_succ]))
                        refine M_pure (i := 2) (v := ?_) rfl (by kernel_rfl) (by kernel_rfl) (by kernel_rfl) (fun _ _ _ h => h) (by rfl) ?hy ?_; (case hy => (intro w; go_simp; with_reducible rfl)); ((try dsimp only); (try simp only [Act.put, List.setIfInBounds_toArray, List.set_cons_zero, List.set_cons_succ]))
                        refine M_pure (i := 3) (v := ?_) rfl (by kernel_rfl) (by kernel_rfl) (by kernel_rfl) (fun _ _ _ h => h) (by rfl) ?hy ?_; (case hy => (intro w; go_simp; with_reducible rfl)); ((try dsimp only); (try simp only [Act.put, List.setIfInBounds_toArray, List.set_cons_zero, List.set_cons_succ]))
                        refine M_pure (i := 4) (v := ?_) rfl (by kernel_rfl) (by kernel_rfl) (by kernel_rfl) (fun _ _ _ h => h) (by rfl) ?hy ?_; (case hy => (intro w; go_simp; with_reducible rfl)); ((try dsimp only); (try simp only [Act.put, List.setIfInBounds_toArray, List.set_cons_zero, List.set_cons_succ]))
                        refine M_pure (i := 5) (v := ?_) rfl (by kernel_rfl) (by kernel_rfl) (by kernel_rfl) (fun _ _ _ h => h) (by rfl) ?hy ?_; (case hy => (intro w; go_simp; with_reducible rfl)); ((try dsimp only); (try simp only [Act.put, List.setIfInBounds_toArray, List.set_cons_zero, List.set_cons_succ]))
                        refine M_take (i := 6) (v := ?_) rfl (by kernel_rfl) (by kernel_rfl) (by kernel_rfl) (by kernel_rfl) (fun _ _ _ h => h) (by rfl) ?hy ?_; (case hy => (go_simp; with_reducible rfl)); ((try dsimp only); (try simp only [Act.put, List.setIfInBounds_toArray, List.set_cons_zero, List.set_cons_succ]))
                        refine M_pure (i := 7) (v := ?_) rfl (by kernel_rfl) (by kernel_rfl) (by kernel_rfl) (fun _ _ _ h => h) (by rfl) ?hy ?_; (case hy => (intro w; go_simp; with_reducible rfl)); ((try dsimp only); (try simp only [Act.put, List.setIfInBounds_toArray, List.set_cons_zero, List.set_cons_succ]))
                        refine M_pure (i := 8) (v := ?_) rfl (by kernel_rfl) (by kernel_rfl) (by kernel_rfl) (fun _ _ _ h => h) (by rfl) ?hy ?_; (case hy => (intro w; go_simp; with_reducible rfl)); ((try dsimp only); (try simp only [Act.put, List.setIfInBounds_toArray, List.set_cons_zero, List.set_cons_succ]))
                        refine M_pure (i := 9) (v := ?_) rfl (by kernel_rfl) (by kernel_rfl) (by kernel_rfl) (fun _ _ _ h => h) (by rfl) ?hy ?_; (case hy => (intro w; go_simp; with_reducible rfl)); ((try dsimp only); (try simp only [Act.put, List.setIfInBounds_toArray, List.set_cons_zero, List.set_cons_succ]))
                        refine M_pure (i := 10) (v := ?_) rfl (by kernel_rfl) (by kernel_rfl) (by kernel_rfl) (fun _ _ _ h => h) (by rfl) ?hy ?_; (case hy => (intro w; go_simp; with_reducible rfl)); ((try dsimp only); (try simp only [Act.put, List.setIfInBounds_toArray, List.set_cons_zero, List.set_cons_succ]))
                        refine M_pure (i := 11) (v := ?_) rfl (by kernel_rfl) (by kernel_rfl) (by kernel_rfl) (fun _ _ _ h => h) (by rfl) ?hy ?_; (case hy => (intro w; go_simp; with_reducible rfl)); ((try dsimp only); (try simp only [Act.put, List.setIfInBounds_toArray, List.set_cons_zero, List.set_cons_succ]))
                        refine M_pure (i := 12) (v := ?_) rfl (by kernel_rfl) (by kernel_rfl) (by kernel_rfl) (fun _ _ _ h => h) (by rfl) ?hy ?_; (case hy => (intro w; go_simp; with_reducible rfl)); ((try dsimp only); (try simp only [Act.put, List.setIfInBounds_toArray, List.set_cons_zero, List.set_cons_succ]))
                        refine M_take (i := 13) (v := ?_) rfl (by kernel_rfl) (by kernel_rfl) (by kernel_rfl) (by kernel_rfl) (fun _ _ _ h => h) (by rfl) ?hy ?_; (case hy => (go_simp; with_reducible rfl)); ((try dsimp only); (try simp only [Act.put, List.setIfInBounds_toArray, List.set_cons_zero, List.set_cons_succ]))
                        refine M_eff (i := 14) rfl (by kernel_rfl) (by rfl) ?_
                        go_wp2_with fail
                        refine (contains_any Ai s.kinds ci u Z1 (RowI.kept HZd.out.1 HSL.out.2.1) (Nat.le_trans HSL.out.2.2.2.1 HSL.out.2.2.2.2)).mono ?_
                        rintro e Q ⟨bb, rfl, hbb, hqq⟩
                        have HQ0 := Lib.hid (And.intro hbb (HZd.out.2.trans hqq))
                        clear hbb hqq hKc f0
                        go_wp2_with fail
                        refine ⟨trivial, ?_⟩
                        ((try dsimp only); (try simp only [Act.put, List.setIfInBounds_toArray, List.set_cons_zero, List.set_cons_succ]))
                        cases bb with
                        | false =>
                          refine M_pure (i := 15) (v := ?_) rfl (by kernel_rfl) (by kernel_rfl) (by kernel_rfl) (fun _ _ _ h => h) (by rfl) ?hy ?_; (case hy => (intro w; go_simp; with_reducible rfl)); ((try dsimp only); (try simp only [Act.put, List.setIfInBounds_toArray, List.set_cons_zero, List.set_cons_succ]))
                          refine M_pure (i := 16) (v := ?_) rfl (by kernel_rfl) (by kernel_rfl) (by kernel_rfl) (fun _ _ _ h => h) (by rfl) ?hy ?_; (case hy => (intro w; go_simp; with_reducible rfl)); ((try dsimp only); (try simp only [Act.put, List.setIfInBounds_toArray, List.set_cons_zero, List.set_cons_succ]))
                          refine M_done (by kernel_rfl) ?_ _
                          have HF : Hid (∀ m, m ≤ kids.length → (HopTo s kids fr (n + 1) m ↔ Hop s kids fr m)) := Lib.hid fun m hm => HopTo.all (fun n' h1 _ _ h4 => by
                            have := h4 n (by omega)
                            rw [← HU3.out] at this
                            have h := HQ0.out.1.2 this
                            cases h) hm
                          go_wp2_with (skip; fail)
                          go_roundw
                          case rel =>
                            refine ⟨fr + 1, by omega, by go_num, Lib.hid ⟨H3.out.1.andThen HQ0.out.2 (by simp), (H3.out.2.1.of HQ0.out.2 (by simp)).imp fun m hm => ?_⟩⟩
                            constructor
                            · rintro ⟨h0, ⟨f, h1, h2⟩ | h⟩
                              · exact ⟨h0, f, by omega, h2⟩
                              · exact ⟨h0, fr, by omega, HRe.out, (HF.out m h0).1 h⟩
                            · rintro ⟨h0, f, h1, h2, h3⟩
                              refine ⟨h0, ?_⟩
                              by_cases e : f = fr
                              · subst e; exact .inr ((HF.out m h0).2 h3)
                              · exact .inl ⟨f, by omega, h2, h3⟩
                          case measure => simp [intOf]; omega
                        | true =>
                          refine M_pure (i := 15) (v := ?_) rfl (by kernel_rfl) (by kernel_rfl) (by kernel_rfl) (fun _ _ _ h => h) (by rfl) ?hy ?_; (case hy => (intro w; go_simp; with_reducible rfl)); ((try dsimp only); (try simp only [Act.put, List.setIfInBounds_toArray, List.set_cons_zero, List.set_cons_succ]))
                          refine M_pure (i := 16) (v := ?_) rfl (by kernel_rfl) (by kernel_rfl) (by kernel_rfl) (fun _ _ _ h => h) (by rfl) ?hy ?_; (case hy => (intro w; go_simp; with_reducible rfl)); ((try dsimp only); (try simp only [Act.put, List.setIfInBounds_toArray, List.set_cons_zero, List.set_cons_succ]))
                          refine M_done (by kernel_rfl) ?_ _
                          have HQ := Lib.hid (show Chg [] T Q ∧ ∀ j, j < n + 1 → kids.getD (fr + j) 0 ∈ s.kinds from ⟨HQ0.out.2, fun j hj => by
                            by_cases e : j = n
                            · subst e; rw [← HU3.out]; exact HQ0.out.1.1 (by first | rfl | trivial)
                            · exact H3.out.2.2 j (by omega)⟩)
                          have hst : TellsT 201 Q V.heap.size 201 (fun m => (m ≤ kids.length ∧ ((∃ f, f < fr ∧ Reach x.slots kids i f ∧ Hop s kids f m) ∨ HopTo s kids fr (n + 1) m))) := H3.out.2.1.of HQ.out.1 (by simp)
                          have hnx : ∀ (m : Nat), HopTo s kids fr ((n + 1) + 1) m ↔ (HopTo s kids fr (n + 1) m ∨ (m = fr + (n + 1) ∧ s.least ≤ (((n + 1) : Nat) : Int))) := fun m => by
                            constructor
                            · rintro ⟨n', h1, h2, h3, h4, h5⟩
                              by_cases e : n' = (n + 1)
                              · subst e; exact .inr ⟨h2, h3⟩
                              · exact .inl ⟨n', by omega, h2, h3, h4, h5⟩
                            · rintro (⟨n', h1, h2, h3, h4, h5⟩ | ⟨h1, h2⟩)
                              · exact ⟨n', by omega, h2, h3, h4, h5⟩
                              · exact ⟨(n + 1), by omega, h1, h2, HC1.out, HQ.out.2⟩
                          obtain ⟨ov, hov, hovr⟩ := hst.at (m := fr + (n + 1)) (by omega)
                          have HST := Lib.hid (And.intro hst (And.intro hnx hovr))
                          clear hst hnx hovr
                          have g1 := HQ.out.1.cell f1 (by simp)
                          have w0 : (0 : Int) ≤ (fr : Int) + (((n + 1) : Nat) : Int) := by omega
                          have w2 : (fr : Int) + (((n + 1) : Nat) : Int) < 201 := by omega
                          have w1 : (((fr : Int) + (((n + 1) : Nat) : Int))).toNat = fr + (n + 1) := by omega
                          have hbd : ∀ bb : Bool, (bb = decide (s.least ≤ (((n + 1) : Nat) : Int))) → ∀ m : Nat, m < 201 → ((m ≤ kids.length ∧ ((∃ f, f < fr ∧ Reach x.slots kids i f ∧ Hop s kids f m) ∨ HopTo s kids fr ((n + 1) + 1) m)) ↔ if m = fr + (n + 1) then (ov || bb) = true else (m ≤ kids.length ∧ ((∃ f, f < fr ∧ Reach x.slots kids i f ∧ Hop s kids f m) ∨ HopTo s kids fr (n + 1) m))) := fun bb hbb m hm => by
                            rw [HST.out.2.1 m]
                            by_cases e : m = fr + (n + 1)
                            · rw [if_pos e, Bool.or_eq_true, hbb, decide_eq_true_eq, HST.out.2.2, ← e]
                              constructor
                              · rintro ⟨h0, h | h | h⟩
                                · exact .inl ⟨h0, .inl h⟩
                                · exact .inl ⟨h0, .inr h⟩
                                · exact .inr h.2
                              · rintro (⟨h0, h | h⟩ | h)
                                · exact ⟨h0, .inl h⟩
                                · exact ⟨h0, .inr (.inl h)⟩
                                · exact ⟨by omega, .inr (.inr ⟨rfl, h⟩)⟩
                            · rw [if_neg e]
                              constructor
                              · rintro ⟨h0, h | h | h⟩
                                · exact ⟨h0, .inl h⟩
                                · exact ⟨h0, .inr h⟩
                                · exact absurd h.1 e
                              · rintro ⟨h0, h | h⟩
                                · exact ⟨h0, .inl h⟩
                                · exact ⟨h0, .inr (.inl h)⟩
                          have HBD := Lib.hid hbd
                          clear hbd
                          try simp only [Int.natCast_add, Int.natCast_one] at w0 w1 w2
                          cases ov with
                          | true =>
                            go_wp2_with (first
                              | (refine wpList_store_bool rfl (.tmp 97) (.tmp 96) rfl V.heap.size (fr + (n + 1)) 201 (by simp [Act.eval, w1]) true (by simp [Act.eval]) _ (fun m => (m ≤ kids.length ∧ ((∃ f, f < fr ∧ Reach x.slots kids i f ∧ Hop s kids f m) ∨ HopTo s kids fr ((n + 1) + 1) m))) HST.out.1 (by omega) (fun m hm => HBD.out _ rfl m hm) ?_
                                 intro P ht hc
                                 have HP := Lib.hid (And.intro ht hc)
                                 clear ht hc
                                 ((try dsimp only); (try simp only [Act.put, List.setIfInBounds_toArray, List.set_cons_zero, List.set_cons_succ])))
                              | (skip; fail))
                            go_roundw
                            case rel => exact ⟨(n + 1) + 1, by omega, by go_num, Lib.hid ⟨(H3.out.1.andThen HQ.out.1 (by simp)).trans HP.out.2, HP.out.1, fun j hj => HQ.out.2 j (by omega)⟩⟩
                            case measure => simp [intOf]; omega
                          | false =>
                            by_cases c3 : s.least ≤ (((n + 1) : Nat) : Int)
                            · have d3 : decide (s.least ≤ (((n + 1) : Nat) : Int)) = true := decide_eq_true c3
                              try simp only [Int.natCast_add, Int.natCast_one] at d3
                              go_wp2_with (first
                                | (refine wpList_store_bool rfl (.tmp 97) (.tmp 96) rfl V.heap.size (fr + (n + 1)) 201 (by simp [Act.eval, w1]) true (by simp [Act.eval]) _ (fun m => (m ≤ kids.length ∧ ((∃ f, f < fr ∧ Reach x.slots kids i f ∧ Hop s kids f m) ∨ HopTo s kids fr ((n + 1) + 1) m))) HST.out.1 (by omega) (fun m hm => HBD.out true (decide_eq_true c3).symm m hm) ?_
                                   intro P ht hc
                                   have HP := Lib.hid (And.intro ht hc)
                                   clear ht hc
                                   ((try dsimp only); (try simp only [Act.put, List.setIfInBounds_toArray, List.set_cons_zero, List.set_cons_succ])))
                                | (skip; fail))
                              go_roundw
                              case rel => exact ⟨(n + 1) + 1, by omega, by go_num, Lib.hid ⟨(H3.out.1.andThen HQ.out.1 (by simp)).trans HP.out.2, HP.out.1, fun j hj => HQ.out.2 j (by omega)⟩⟩
                              case measure => simp [intOf]; omega
                            · have d3 : decide (s.least ≤ (((n + 1) : Nat) : Int)) = false := decide_eq_false c3
                              try simp only [Int.natCast_add, Int.natCast_one] at d3
                              go_wp2_with (first
                                | (refine wpList_store_bool rfl (.tmp 97) (.tmp 96) rfl V.heap.size (fr + (n + 1)) 201 (by simp [Act.eval, w1]) false (by simp [Act.eval]) _ (fun m => (m ≤ kids.length ∧ ((∃ f, f < fr ∧ Reach x.slots kids i f ∧ Hop s kids f m) ∨ HopTo s kids fr ((n + 1) + 1) m))) HST.out.1 (by omega) (fun m hm => HBD.out false (decide_eq_false c3).symm m hm) ?_
                                   intro P ht hc
                                   have HP := Lib.hid (And.intro ht hc)
                                   clear ht hc
                                   ((try dsimp only); (try simp only [Act.put, List.setIfInBounds_toArray, List.set_cons_zero, List.set_cons_succ])))
                                | (skip; fail))
                              go_roundw
                              case rel => exact ⟨(n + 1) + 1, by omega, by go_num, Lib.hid ⟨(H3.out.1.andThen HQ.out.1 (by simp)).trans HP.out.2, HP.out.1, fun j hj => HQ.out.2 j (by omega)⟩⟩
                              case measure => simp [intOf]; omega
                    · have d1 : decide ((n : Int) ≤ s.most) = false := decide_eq_false c1
                      have HF : Hid (∀ m, m ≤ kids.length → (HopTo s kids fr n m ↔ Hop s kids fr m)) := Lib.hid fun m hm => HopTo.all (fun n' h1 _ h2 _ => by omega) hm
                      go_wp2_with (skip; fail)
                      go_roundw
                      case rel =>
                        refine ⟨fr + 1, by omega, by go_num, Lib.hid ⟨H3.out.1, H3.out.2.1.imp fun m hm => ?_⟩⟩
                        constructor
                        · rintro ⟨h0, ⟨f, h1, h2⟩ | h⟩
                          · exact ⟨h0, f, by omega, h2⟩
                          · exact ⟨h0, fr, by omega, HRe.out, (HF.out m h0).1 h⟩
                        · rintro ⟨h0, f, h1, h2, h3⟩
                          refine ⟨h0, ?_⟩
                          by_cases e : f = fr
                          · subst e; exact .inr ((HF.out m h0).2 h3)
                          · exact .inl ⟨f, by omega, h2, h3⟩
                      case measure => simp [intOf]; omega
                  · have d2 : decide ((fr : Int) + n ≤ (kids.length : Int)) = false := decide_eq_false (by omega)
                    have HF : Hid (∀ m, m ≤ kids.length → (HopTo s kids fr n m ↔ Hop s kids fr m)) := Lib.hid fun m hm => HopTo.all (fun n' h1 h2 _ _ => by omega) hm
                    go_wp2_with (skip; fail)
                    go_roundw
                    case rel =>
                      refine ⟨fr + 1, by omega, by go_num, Lib.hid ⟨H3.out.1, H3.out.2.1.imp fun m hm => ?_⟩⟩
                      constructor
                      · rintro ⟨h0, ⟨f, h1, h2⟩ | h⟩
                        · exact ⟨h0, f, by omega, h2⟩
                        · exact ⟨h0, fr, by omega, HRe.out, (HF.out m h0).1 h⟩
                      · rintro ⟨h0, f, h1, h2, h3⟩
                        refine ⟨h0, ?_⟩
                        by_cases e : f = fr
                        · subst e; exact .inr ((HF.out m h0).2 h3)
                        · exact .inl ⟨f, by omega, h2, h3⟩
                    case measure => simp [intOf]; omega
            · obtain rfl : fr = kids.length + 1 := by omega
              obtain ⟨cells, hc1, hc2, hc3, hc4⟩ := HL.out.2.cells
              obtain ⟨old, ho1, ho2, ho3, _⟩ := (HY1.out.2.2.of HL.out.1 (by simp; omega)).cells
              have HCe := Lib.hid (And.intro hc1 (And.intro hc2 (And.intro hc3 (And.intro hc4 (And.intro ho1 ho2)))))
              clear hc1 hc2 hc3 hc4 ho1 ho2 ho3
              go_wp2_with (first
                | (refine wpList_load_mid rfl 201 (.tmp 11) rfl V.heap.size 0 (by kernel_rfl) cells _ (range_all HCe.out.1) Try.underlying201 rfl (by rw [HCe.out.2.1]; exact infoAR) ?_
                   ((try dsimp only); (try simp only [Act.put, List.setIfInBounds_toArray, List.set_cons_zero, List.set_cons_succ])))
                | (refine wpList_store_row rfl 201 (.tmp 8) (.tmp 99) rfl X.heap.size (by kernel_rfl) cells.toArray (by kernel_rfl) _ _ HCe.out.2.2.2.2.1 (by rw [List.size_toArray, HCe.out.2.1]; exact infoAR) (by rw [List.size_toArray, List.size_toArray, HCe.out.2.1, HCe.out.2.2.2.2.2]) HCe.out.2.2.1 ?_
                   refine wpList_world (fun P => P.heap[X.heap.size]? = some (.cells cells.toArray 201 (0, 0)) ∧ Chg [X.heap.size] U2 P) ⟨setRow_heap _ _ _ _ _ _ HCe.out.2.2.2.2.1, setRow_chg _ _ _⟩ ?_
                   rintro P ⟨hp1, hp2⟩
                   have HP := Lib.hid (And.intro (HCe.out.2.2.2.1 P X.heap.size hp1) hp2)
                   clear hp1 hp2
                   ((try dsimp only); (try simp only [Act.put, List.setIfInBounds_toArray, List.set_cons_zero, List.set_cons_succ])))
                | (skip; fail))
              rw [Exit.noGoto_normal]
              go_wp2_with (skip; fail)
              go_roundw
              case rel =>
                refine ⟨i + 1, by omega, by go_num, Lib.hid ⟨(H.out.1.trans (HY1.out.2.1.andThen HL.out.1 (by simp))).andThen HP.out.2 (by simp), HP.out.1.imp fun m hm => ?_⟩⟩
                rw [reach_succ HSL.out.2.2.1]
                constructor
                · rintro ⟨h0, f, _, h⟩; exact ⟨h0, f, h⟩
                · rintro ⟨h0, f, h1, h2⟩
                  obtain ⟨n, h3, h4⟩ := h2
                  exact ⟨h0, f, by omega, h1, n, h3, h4⟩
              case measure => simp [intOf]; omega
        · obtain rfl : i = x.slots.length := by omega
          obtain ⟨v, hv, hvr⟩ := H.out.2.at (m := kids.length) (by omega)
          have HV := Lib.hid hvr
          clear hvr
          have i1 : (kids.length : Int) < 201 := by omega
          go_wp2_with (skip; fail)
          go_ret
          exact ⟨v, rfl, ⟨fun h => ⟨HK.out.1, hkl2, x, HK.out.2.1, (HV.out.1 h).2⟩, fun ⟨_, _, y, hy, h⟩ => by rw [HK.out.2.1] at hy; cases hy; exact HV.out.2 ⟨Nat.le_refl _, h⟩⟩, HX.out.trans H.out.1⟩
    · have HN := Lib.hid (show ¬ FitsOk g k kids from fun h => hk2 h.2.1)
      have dc : decide (200 < (kids.length : Int)) = true := decide_eq_true (by omega)
      have dc' : decide (200 < kids.length) = true := decide_eq_true (by omega)
      clear hk2 hat
      go_wp2_with (skip; fail)
      go_ret
      exact BoolIs.no HN.out HX.out
  · have HN := Lib.hid (show ¬ FitsOk g k kids from fun ⟨h1, _, x, hx, _⟩ => hn ⟨h1, x, hx⟩)
    clear hn
    go_wp2_with (skip; fail)
    go_ret
    exact BoolIs.no HN.out HX.out
end Go.Proofs.Ytofjocjljbkjgaa
namespace Go.Proofs.Ytofjocjljbkjgaa
open Go.RowKit
def Tr.kinds (t : Tr) : List Int := t.kids.map Tr.kind
theorem cellOne {W : World} {b : Nat} {v : Value} {t : TypeId} (h : W.heap[b]? = some (.cells #[v] t (0, 0))) : W.cell? ⟨b, 0, none⟩ = some v := range_all (cs := [v]) h 0 _ rfl
theorem infoI : (Try.prog.info? 3).map (fun i => (i.zero, i.size, i.bytes)) = some (some (.int .i64 0), 1, 8) := by kernel_rfl
def OwnI (w : World) (base : Nat) (v : Value) (xs : List Int) : Prop := w.ownsRow base 3 1 v xs.length (xs.map (Value.int .i64))
theorem OwnI.nil (w : World) (base : Nat) : OwnI w base (.slice none 0 0) [] := World.ownsRow_nil _ _ _ _
theorem OwnI.slice {w : World} {base : Nat} {v : Value} {xs : List Int} (h : OwnI w base v xs) : ∃ A c, v = .slice A xs.length c := own_slice h
theorem OwnI.own {w : World} {base : Nat} {v : Value} {xs : List Int} (h : OwnI w base v xs) : ∀ k ∈ v.ownBlock.toList, base ≤ k ∧ k < w.heap.size := fun k hk => World.ownsRow.lt h k (by simpa using hk)
theorem OwnI.kept {w w' : World} {base : Nat} {v : Value} {xs : List Int} {l : List Nat} (h : OwnI w base v xs) (hc : Chg l w w') (hl : ∀ k, v.ownBlock = some k → k ∉ l) : OwnI w' base v xs := own_kept h hc hl
theorem OwnI.row {w : World} {base : Nat} {A : Option Addr} {c : Nat} {xs : List Int} (h : OwnI w base (.slice A xs.length c) xs) : RowP w 1 IntAt A xs := by
  intro i x hx
  have hi := (List.getElem?_eq_some_iff.1 hx).1
  obtain ⟨g, hA, _, hg, _, hc⟩ := own_row h (by omega)
  refine ⟨g, 0, hA, hg, ?_⟩
  unfold IntAt
  rw [Nat.mul_one, Nat.zero_add]
  exact hc i _ (by rw [List.getElem?_map, hx]; rfl)
theorem wpList_push_int {ops : Array Oper} {rest : List Oper} {o : Oper} {a : Act} {w : World} {Q : Exit → Act → World → Prop} (hgd : o.guard = none) (s x : Operand) (ho : o.op = .call { callee := .builtin .append, args := #[s, x], argTypes := #[109, 109] }) (base : Nat) (v : Value) (xs : List Int) (hs : a.eval s = v) (hv : OwnI w base v xs)
    (g : Nat) (u : Int) (hx : a.eval x = .slice (some ⟨g, 0, none⟩) 1 1) (hg : w.cell? ⟨g, 0, none⟩ = some (.int .i64 u)) (hl : xs.length ≤ 1000000000) (hbase : base ≤ w.heap.size)
    (h : ∀ v' w', OwnI w' base v' (xs ++ [u]) → Chg v.ownBlock.toList w w' → (v'.ownBlock = v.ownBlock ∨ v'.ownBlock = some w.heap.size) → wpList Try.prog ops Q rest (a.put o.dst v') w') : wpList Try.prog ops Q (o :: rest) a w := by
  obtain ⟨ip, hi, hz0, hz1, hz2⟩ := info_parts infoI
  refine wpList_append_own_at _ hgd s x 109 ho base 3 ip _ 1 8 Try.underlying109 hi hz0 hz1 hz2 rfl (by omega) v xs.length _ hs hv ⟨g, 0, none⟩ 1 1 [.int .i64 u] hx rfl (fun j y hy => ?_) (fun y hy => by simp at hy; subst hy; rfl) (by unfold maxLen; omega) (by omega) hbase ?_
  · have hj : j = 0 := by have := (List.getElem?_eq_some_iff.1 hy).1; simp at this; omega
    subst hj
    simp at hy
    subst hy
    rw [Addr.add_mid]
    exact hg
  · intro v' X hown hgr _ hat
    refine h v' X ?_ (Chg.grown (Chg.refl _ _) hgr (by intro k hk; rw [hk]; simp)) hat
    unfold OwnI
    rw [List.length_append, List.map_append]
    exact hown
def KindsPost (t : Tr) (w : World) (e : Ending) (w' : World) : Prop := ∃ A c, e = .returned (.slice A t.kinds.length c) ∧ RowP w' 1 IntAt A t.kinds ∧ Chg [] w w'
theorem kinds_take (t : Tr) (i : Nat) (h : i < t.kids.length) : t.kinds.take (i + 1) = t.kinds.take i ++ [(t.kids[i]).kind] := by
  unfold Tr.kinds
  rw [List.take_succ_eq_append_getElem (by simpa using h)]
  simp
set_option maxHeartbeats 8000000 in
set_option maxRecDepth 100000 in
theorem rkinds_any {ok : Nat → Prop} (t : Tr) (A : Option Addr) (c : Nat) (w : World) (hT : TrC ok w t [.int .i64 (Tr.id t), .int .i64 (Tr.kind t), .string (Tr.text t), .slice A (Tr.kids t).length c]) (hn : t.kids.length ≤ 1000000) : Calls Try.prog 135 #[.agg #[.int .i64 (Tr.id t), .int .i64 (Tr.kind t), .string (Tr.text t), .slice A (Tr.kids t).length c]] w (KindsPost t w) := by
  obtain ⟨A', c', hcs, hlc, hcm, htx, hKA⟩ := hT.opens
  simp only [List.cons.injEq, Value.slice.injEq, true_and, and_true] at hcs
  obtain ⟨rfl, rfl⟩ := hcs
  obtain ⟨W1, hW1⟩ : ∃ W1, W1 = w.alloc (.cells #[.int .i64 (Tr.id t), .int .i64 (Tr.kind t), .string (Tr.text t), .slice A (Tr.kids t).length c] 24) := ⟨_, rfl⟩
  have hch : Chg [] w W1 := by rw [hW1]; exact (by with_reducible repeat (first | exact Chg.refl _ _ | apply Chg.alloc | apply Chg.drew | apply Chg.drewN | (refine Chg.setCell ?_ _ _ (by simp))))
  have hg1 : W1.heap[w.heap.size]? = some (.cells #[.int .i64 (Tr.id t), .int .i64 (Tr.kind t), .string (Tr.text t), .slice A (Tr.kids t).length c] 24 (0, 0)) := by rw [hW1]; exact heap_new _ _ rfl
  have HC := Lib.hid (And.intro hch (And.intro hg1 (And.intro hW1 hKA)))
  clear hT hch hg1 hW1 hKA
  go_enter Try.func135, Try.ntmps135
  go_wp2_with fail
  rw [← HC.out.2.2.1]
  go_loopw [3, 4] (fun v iv wr => ∃ i : Nat, i ≤ t.kids.length ∧ iv = .int .i64 i ∧ Hid (OwnI wr W1.heap.size v (t.kinds.take i) ∧ Chg [] W1 wr)) (fun _ iv _ => t.kids.length - (intOf iv).toNat)
  case atStart => exact ⟨0, Nat.zero_le _, rfl, Lib.hid ⟨OwnI.nil _ _, Chg.refl _ _⟩⟩
  case round =>
    obtain ⟨i, hi, rfl, H⟩ := hrel
    obtain ⟨p0, p1, p2, p3⟩ := blk4 (H.out.2.at HC.out.2.1 (by simp))
    clear p0 p1 p2
    have hkl : (t.kinds.take i).length ≤ 1000000000 := by rw [List.length_take]; omega
    obtain ⟨xs, hxs⟩ : ∃ xs, xs = t.kinds.take i := ⟨_, rfl⟩
    have HXs := Lib.hid hxs
    have hown := H.out.1
    rw [← hxs] at hown hkl
    obtain ⟨Av, cv, rfl⟩ := hown.slice
    have HO := Lib.hid hown
    clear hown hxs
    by_cases hlt : i < t.kids.length
    · obtain ⟨gk, ok', hA, hokg, hat⟩ := (HC.out.2.2.2.kept (HC.out.1.trans H.out.2) (by simp)).at hlt
      subst hA
      obtain ⟨A2, c2, q0, q1, q2, q3, _⟩ := hat.cells
      clear q0 q2 q3 hat
      generalize hku : (t.kids[i]).kind = ku at q1
      have HKu := Lib.hid hku
      clear hku
      go_wp2_with (first
        | (refine wpList_push_int rfl (.tmp 12) (.tmp 19) rfl W1.heap.size _ xs rfl (HO.out.kept (Chg.alloc (Chg.refl [] wr) (.cells #[.int .i64 ku] 3)) (by simp)) wr.heap.size ku rfl (cellOne (heap_new _ _ rfl)) hkl (by have := H.out.2.size; simp; omega) ?_
           intro v' X h1 h2 h3
           have HX := Lib.hid (And.intro h1 (H.out.2.andThen (((Chg.refl (Value.slice Av xs.length cv).ownBlock.toList wr).alloc (.cells #[.int .i64 ku] 3)).trans h2) (fun k hk => .inr (HO.out.own k hk).1)))
           clear h1 h2 h3
           ((try dsimp only); (try simp only [Act.put, List.setIfInBounds_toArray, List.set_cons_zero, List.set_cons_succ])))
        | (skip; fail))
      go_roundw
      case rel => exact ⟨i + 1, by omega, by go_num, Lib.hid ⟨by rw [kinds_take t i hlt, HKu.out, ← HXs.out]; exact HX.out.1, HX.out.2⟩⟩
      case measure => simp [intOf]; omega
    · obtain rfl : i = t.kids.length := by omega
      have e1 : xs = t.kinds := by rw [HXs.out]; exact List.take_of_length_le (by simp [Tr.kinds])
      have HE := Lib.hid e1
      clear e1
      go_wp2_with (skip; fail)
      go_ret
      exact ⟨Av, cv, by rw [← HE.out]; rfl, by rw [← HE.out]; exact HO.out.row, HC.out.1.trans H.out.2⟩
set_option maxHeartbeats 8000000 in
set_option maxRecDepth 100000 in
theorem gkinds_any {ok : Nat → Prop} (t : Tr) (A : Option Addr) (c : Nat) (w : World) (hT : TrC ok w t [.int .i64 (Tr.id t), .int .i64 (Tr.kind t), .string (Tr.text t), .slice A (Tr.kids t).length c]) (hn : t.kids.length ≤ 1000000) : Calls Try.prog 149 #[.agg #[.int .i64 (Tr.id t), .int .i64 (Tr.kind t), .string (Tr.text t), .slice A (Tr.kids t).length c]] w (KindsPost t w) := by
  obtain ⟨A', c', hcs, hlc, hcm, htx, hKA⟩ := hT.opens
  simp only [List.cons.injEq, Value.slice.injEq, true_and, and_true] at hcs
  obtain ⟨rfl, rfl⟩ := hcs
  obtain ⟨W1, hW1⟩ : ∃ W1, W1 = w.alloc (.cells #[.int .i64 (Tr.id t), .int .i64 (Tr.kind t), .string (Tr.text t), .slice A (Tr.kids t).length c] 24) := ⟨_, rfl⟩
  have hch : Chg [] w W1 := by rw [hW1]; exact (by with_reducible repeat (first | exact Chg.refl _ _ | apply Chg.alloc | apply Chg.drew | apply Chg.drewN | (refine Chg.setCell ?_ _ _ (by simp))))
  have hg1 : W1.heap[w.heap.size]? = some (.cells #[.int .i64 (Tr.id t), .int .i64 (Tr.kind t), .string (Tr.text t), .slice A (Tr.kids t).length c] 24 (0, 0)) := by rw [hW1]; exact heap_new _ _ rfl
  have HC := Lib.hid (And.intro hch (And.intro hg1 (And.intro hW1 hKA)))
  clear hT hch hg1 hW1 hKA
  go_enter Try.func149, Try.ntmps149
  go_wp2_with fail
  rw [← HC.out.2.2.1]
  go_loopw [3, 8] (fun v iv wr => ∃ i : Nat, i ≤ t.kids.length ∧ iv = .int .i64 i ∧ Hid (OwnI wr W1.heap.size v (t.kinds.take i) ∧ Chg [] W1 wr)) (fun _ iv _ => t.kids.length - (intOf iv).toNat)
  case atStart => exact ⟨0, Nat.zero_le _, rfl, Lib.hid ⟨OwnI.nil _ _, Chg.refl _ _⟩⟩
  case round =>
    obtain ⟨i, hi, rfl, H⟩ := hrel
    obtain ⟨p0, p1, p2, p3⟩ := blk4 (H.out.2.at HC.out.2.1 (by simp))
    clear p0 p1 p2
    have hkl : (t.kinds.take i).length ≤ 1000000000 := by rw [List.length_take]; omega
    obtain ⟨xs, hxs⟩ : ∃ xs, xs = t.kinds.take i := ⟨_, rfl⟩
    have HXs := Lib.hid hxs
    have hown := H.out.1
    rw [← hxs] at hown hkl
    obtain ⟨Av, cv, rfl⟩ := hown.slice
    have HO := Lib.hid hown
    clear hown hxs
    by_cases hlt : i < t.kids.length
    · obtain ⟨gk, ok', hA, hokg, hat⟩ := (HC.out.2.2.2.kept (HC.out.1.trans H.out.2) (by simp)).at hlt
      subst hA
      obtain ⟨A2, c2, q0, q1, q2, q3, _⟩ := hat.cells
      clear q0 q2 q3 hat
      generalize hku : (t.kids[i]).kind = ku at q1
      have HKu := Lib.hid hku
      clear hku
      go_wp2_with (first
        | (refine wpList_push_int rfl (.tmp 11) (.tmp 18) rfl W1.heap.size _ xs rfl (HO.out.kept (Chg.alloc (Chg.refl [] wr) (.cells #[.int .i64 ku] 3)) (by simp)) wr.heap.size ku rfl (cellOne (heap_new _ _ rfl)) hkl (by have := H.out.2.size; simp; omega) ?_
           intro v' X h1 h2 h3
           have HX := Lib.hid (And.intro h1 (H.out.2.andThen (((Chg.refl (Value.slice Av xs.length cv).ownBlock.toList wr).alloc (.cells #[.int .i64 ku] 3)).trans h2) (fun k hk => .inr (HO.out.own k hk).1)))
           clear h1 h2 h3
           ((try dsimp only); (try simp only [Act.put, List.setIfInBounds_toArray, List.set_cons_zero, List.set_cons_succ])))
        | (skip; fail))
      go_roundw
      case rel => exact ⟨i + 1, by omega, by go_num, Lib.hid ⟨by rw [kinds_take t i hlt, HKu.out, ← HXs.out]; exact HX.out.1, HX.out.2⟩⟩
      case measure => simp [intOf]; omega
    · obtain rfl : i = t.kids.length := by omega
      have e1 : xs = t.kinds := by rw [HXs.out]; exact List.take_of_length_le (by simp [Tr.kinds])
      have HE := Lib.hid e1
      clear e1
      go_wp2_with (skip; fail)
      go_ret
      exact ⟨Av, cv, by rw [← HE.out]; rfl, by rw [← HE.out]; exact HO.out.row, HC.out.1.trans H.out.2⟩
end Go.Proofs.Ytofjocjljbkjgaa
namespace Go.Proofs.Ytofjocjljbkjgaa
open Go.RowKit
def NodeOk (g : Gr) (t : Tr) : Prop := TextOk g t.kind t.text ∧ FitsOk g t.kind t.kinds
theorem NodeOk.ok {g : Gr} {t : Tr} (h : NodeOk g t) : g.Ok ∧ 0 ≤ t.kind ∧ t.kind < g.kinds.length := by
  obtain ⟨⟨h1, x, hx, _⟩, _⟩ := h
  exact ⟨h1, (kindAt_of hx).1, (kindAt_of hx).2.1⟩
structure Boxes (g : Gr) (A : Option Addr) (c : Nat) (t : Tr) (B : Option Addr) (d : Nat) (w W : World) : Prop where
  cells : (W.cell? ⟨w.heap.size, 0, none⟩ = some (.slice A g.kinds.length c) ∧ W.cell? ⟨w.heap.size, 1, none⟩ = some (.int .i64 g.root) ∧ W.cell? ⟨w.heap.size + 1, 0, none⟩ = some (.int .i64 t.id) ∧ W.cell? ⟨w.heap.size + 1, 1, none⟩ = some (.int .i64 t.kind) ∧ W.cell? ⟨w.heap.size + 1, 2, none⟩ = some (.string t.text) ∧ W.cell? ⟨w.heap.size + 1, 3, none⟩ = some (.slice B t.kids.length d))
  chg : Chg [] w W
theorem Boxes.kept {g : Gr} {A : Option Addr} {c : Nat} {t : Tr} {B : Option Addr} {d : Nat} {w W W' : World} (h : Boxes g A c t B d w W) (hc : Chg [] W W') : Boxes g A c t B d w W' := by
  obtain ⟨h1, h2, h3, h4, h5, h6⟩ := h.cells
  exact ⟨⟨hc.cell h1 (by simp), hc.cell h2 (by simp), hc.cell h3 (by simp), hc.cell h4 (by simp), hc.cell h5 (by simp), hc.cell h6 (by simp)⟩, h.chg.trans hc⟩
theorem Boxes.new (g : Gr) (A : Option Addr) (c : Nat) (t : Tr) (B : Option Addr) (d : Nat) (w : World) : Boxes g A c t B d w ((w.alloc (.cells #[.slice A g.kinds.length c, .int .i64 g.root] 43)).alloc (.cells #[.int .i64 (Tr.id t), .int .i64 (Tr.kind t), .string (Tr.text t), .slice B (Tr.kids t).length d] 24)) := by
  have h1 : ((w.alloc (.cells #[.slice A g.kinds.length c, .int .i64 g.root] 43)).alloc (.cells #[.int .i64 (Tr.id t), .int .i64 (Tr.kind t), .string (Tr.text t), .slice B (Tr.kids t).length d] 24)).heap[w.heap.size]? = some (.cells #[.slice A g.kinds.length c, .int .i64 g.root] 43 (0, 0)) := heap_old (heap_new _ _ rfl) _
  have h2 : ((w.alloc (.cells #[.slice A g.kinds.length c, .int .i64 g.root] 43)).alloc (.cells #[.int .i64 (Tr.id t), .int .i64 (Tr.kind t), .string (Tr.text t), .slice B (Tr.kids t).length d] 24)).heap[w.heap.size + 1]? = some (.cells #[.int .i64 (Tr.id t), .int .i64 (Tr.kind t), .string (Tr.text t), .slice B (Tr.kids t).length d] 24 (0, 0)) := heap_new _ _ (by simp)
  obtain ⟨a0, a1⟩ := cell2 h1
  obtain ⟨p0, p1, p2, p3⟩ := blk4 h2
  exact ⟨⟨a0, a1, p0, p1, p2, p3⟩, (by with_reducible repeat (first | exact Chg.refl _ _ | apply Chg.alloc | apply Chg.drew | apply Chg.drewN | (refine Chg.setCell ?_ _ _ (by simp))))⟩
set_option maxHeartbeats 16000000 in
set_option maxRecDepth 100000 in
theorem rnode_any {ok : Nat → Prop} (g : Gr) (A : Option Addr) (c : Nat) (t : Tr) (B : Option Addr) (d : Nat) (w : World) (hG : GrC w A c g.kinds) (hT : TrC ok w t [.int .i64 (Tr.id t), .int .i64 (Tr.kind t), .string (Tr.text t), .slice B (Tr.kids t).length d]) (hn : t.kids.length ≤ 1000000) :
    Calls Try.prog 108 #[.agg #[.slice A g.kinds.length c, .int .i64 g.root], .agg #[.int .i64 (Tr.id t), .int .i64 (Tr.kind t), .string (Tr.text t), .slice B (Tr.kids t).length d]] w (BoolIs (NodeOk g t) w) := by
  have htx : t.text.size ≤ 9223372036854775807 := by obtain ⟨_, _, _, _, _, h, _⟩ := hT.opens; exact h
  have hgl : g.kinds.length ≤ 9223372036854775807 := by have := hG.cap; have := hG.big; omega
  have HG := Lib.hid (And.intro hG (And.intro hT (And.intro htx hn)))
  obtain ⟨W1, hW1⟩ : ∃ W1, W1 = (w.alloc (.cells #[.slice A g.kinds.length c, .int .i64 g.root] 43)).alloc (.cells #[.int .i64 (Tr.id t), .int .i64 (Tr.kind t), .string (Tr.text t), .slice B (Tr.kids t).length d] 24) := ⟨_, rfl⟩
  have hB : Boxes g A c t B d w W1 := by rw [hW1]; exact Boxes.new g A c t B d w
  have HB := Lib.hid (And.intro hB hW1)
  clear hG hT htx hn hB hW1
  go_enter Try.func108, Try.ntmps108
  go_wp2_with fail
  rw [← HB.out.2]
  refine wp_region_M (fun W => (W.cell? ⟨w.heap.size, 0, none⟩ = some (.slice A g.kinds.length c) ∧ W.cell? ⟨w.heap.size, 1, none⟩ = some (.int .i64 g.root) ∧ W.cell? ⟨w.heap.size + 1, 0, none⟩ = some (.int .i64 t.id) ∧ W.cell? ⟨w.heap.size + 1, 1, none⟩ = some (.int .i64 t.kind) ∧ W.cell? ⟨w.heap.size + 1, 2, none⟩ = some (.string t.text) ∧ W.cell? ⟨w.heap.size + 1, 3, none⟩ = some (.slice B t.kids.length d))) (fun k => [1, 22, 29, 30].contains k) (fun _ => false) (by kernel_rfl) ?_
  have hBd : Boxes g A c t B d w W1.drew := HB.out.1.kept (Chg.refl _ _).drew
  obtain ⟨Z, hZ⟩ : ∃ Z, Z = W1.drew := ⟨_, rfl⟩
  rw [← hZ] at hBd ⊢
  have HZ := Lib.hid hBd
  clear hZ hBd
  have hS := HZ.out.cells
  ((try dsimp only); (try simp only [Act.put, List.setIfInBounds_toArray, List.set_cons_zero, List.set_cons_succ]))
  refine M_semi (i := 0) (v := ?_) rfl (by kernel_rfl) (by kernel_rfl) (by kernel_rfl) (by kernel_rfl) (fun _ _ _ h => h) (by rfl) hS ?hy ?_; (case hy => (intro w hS; go_simp; with_reducible rfl)); ((try dsimp only); (try simp only [Act.put, List.setIfInBounds_toArray, List.set_cons_zero, List.set_cons_succ]))
  refine M_eff (i := 1) rfl (by kernel_rfl) (by rfl) ?_
  clear hS
  go_wp2_with fail
  refine (rcheck_any g A c Z (HG.out.1.kept HZ.out.chg)).mono ?_
  rintro e Z1 ⟨z, rfl, hz, hzz, hcx⟩
  have HZ1 := Lib.hid (And.intro (HZ.out.kept hcx) hz)
  clear hcx
  have hS := HZ1.out.1.cells
  go_wp2_with fail
  refine ⟨hS, ?_⟩
  ((try dsimp only); (try simp only [Act.put, List.setIfInBounds_toArray, List.set_cons_zero, List.set_cons_succ]))
  by_cases hz0 : z = 0
  · subst hz0
    have HOk := Lib.hid (hz.1 rfl)
    clear hz hzz
    by_cases hk0 : 0 ≤ t.kind
    · have d0 : decide (0 ≤ t.kind) = true := decide_eq_true hk0
      by_cases hk1 : t.kind < g.kinds.length
      · have d1 : decide (t.kind < (g.kinds.length : Int)) = true := decide_eq_true hk1
        refine M_pure (i := 2) (v := ?_) rfl (by kernel_rfl) (by kernel_rfl) (by kernel_rfl) (fun _ _ _ h => h) (by rfl) ?hy ?_; (case hy => (intro w; go_simp; with_reducible rfl)); ((try dsimp only); (try simp only [Act.put, List.setIfInBounds_toArray, List.set_cons_zero, List.set_cons_succ]))
        refine M_pure (i := 3) (v := ?_) rfl (by kernel_rfl) (by kernel_rfl) (by kernel_rfl) (fun _ _ _ h => h) (by rfl) ?hy ?_; (case hy => (intro w; go_simp; with_reducible rfl)); ((try dsimp only); (try simp only [Act.put, List.setIfInBounds_toArray, List.set_cons_zero, List.set_cons_succ]))
        refine M_pure (i := 4) (v := ?_) rfl (by kernel_rfl) (by kernel_rfl) (by kernel_rfl) (fun _ _ _ h => h) (by rfl) ?hy ?_; (case hy => (intro w; go_simp; with_reducible rfl)); ((try dsimp only); (try simp only [Act.put, List.setIfInBounds_toArray, List.set_cons_zero, List.set_cons_succ]))
        refine M_semi (i := 5) (v := ?_) rfl (by kernel_rfl) (by kernel_rfl) (by kernel_rfl) (by kernel_rfl) (fun _ _ _ h => h) (by rfl) hS ?hy ?_; (case hy => (intro w hS; go_simp; with_reducible rfl)); ((try dsimp only); (try simp only [Act.put, List.setIfInBounds_toArray, List.set_cons_zero, List.set_cons_succ]))
        refine M_pure (i := 6) (v := ?_) rfl (by kernel_rfl) (by kernel_rfl) (by kernel_rfl) (fun _ _ _ h => h) (by rfl) ?hy ?_; (case hy => (intro w; go_simp; with_reducible rfl)); ((try dsimp only); (try simp only [Act.put, List.setIfInBounds_toArray, List.set_cons_zero, List.set_cons_succ]))
        refine M_pure (i := 7) (v := ?_) rfl (by kernel_rfl) (by kernel_rfl) (by kernel_rfl) (fun _ _ _ h => h) (by rfl) ?hy ?_; (case hy => (intro w; go_simp; with_reducible rfl)); ((try dsimp only); (try simp only [Act.put, List.setIfInBounds_toArray, List.set_cons_zero, List.set_cons_succ]))
        refine M_pure (i := 8) (v := ?_) rfl (by kernel_rfl) (by kernel_rfl) (by kernel_rfl) (fun _ _ _ h => h) (by rfl) ?hy ?_; (case hy => (intro w; go_simp; with_reducible rfl)); ((try dsimp only); (try simp only [Act.put, List.setIfInBounds_toArray, List.set_cons_zero, List.set_cons_succ]))
        refine M_pure (i := 9) (v := ?_) rfl (by kernel_rfl) (by kernel_rfl) (by kernel_rfl) (fun _ _ _ h => h) (by rfl) ?hy ?_; (case hy => (intro w; go_simp; with_reducible rfl)); ((try dsimp only); (try simp only [Act.put, List.setIfInBounds_toArray, List.set_cons_zero, List.set_cons_succ]))
        refine M_semi (i := 10) (v := ?_) rfl (by kernel_rfl) (by kernel_rfl) (by kernel_rfl) (by kernel_rfl) (fun _ _ _ h => h) (by rfl) hS ?hy ?_; (case hy => (intro w hS; go_simp; with_reducible rfl)); ((try dsimp only); (try simp only [Act.put, List.setIfInBounds_toArray, List.set_cons_zero, List.set_cons_succ]))
        refine M_pure (i := 11) (v := ?_) rfl (by kernel_rfl) (by kernel_rfl) (by kernel_rfl) (fun _ _ _ h => h) (by rfl) ?hy ?_; (case hy => (intro w; go_simp; with_reducible rfl)); ((try dsimp only); (try simp only [Act.put, List.setIfInBounds_toArray, List.set_cons_zero, List.set_cons_succ]))
        refine M_semi (i := 12) (v := ?_) rfl (by kernel_rfl) (by kernel_rfl) (by kernel_rfl) (by kernel_rfl) (fun _ _ _ h => h) (by rfl) hS ?hy ?_; (case hy => (intro w hS; go_simp; with_reducible rfl)); ((try dsimp only); (try simp only [Act.put, List.setIfInBounds_toArray, List.set_cons_zero, List.set_cons_succ]))
        refine M_pure (i := 13) (v := ?_) rfl (by kernel_rfl) (by kernel_rfl) (by kernel_rfl) (fun _ _ _ h => h) (by rfl) ?hy ?_; (case hy => (intro w; go_simp; with_reducible rfl)); ((try dsimp only); (try simp only [Act.put, List.setIfInBounds_toArray, List.set_cons_zero, List.set_cons_succ]))
        refine M_pure (i := 14) (v := ?_) rfl (by kernel_rfl) (by kernel_rfl) (by kernel_rfl) (fun _ _ _ h => h) (by rfl) ?hy ?_; (case hy => (intro w; go_simp; with_reducible rfl)); ((try dsimp only); (try simp only [Act.put, List.setIfInBounds_toArray, List.set_cons_zero, List.set_cons_succ]))
        refine M_pure (i := 15) (v := ?_) rfl (by kernel_rfl) (by kernel_rfl) (by kernel_rfl) (fun _ _ _ h => h) (by rfl) ?hy ?_; (case hy => (intro w; go_simp; with_reducible rfl)); ((try dsimp only); (try simp only [Act.put, List.setIfInBounds_toArray, List.set_cons_zero, List.set_cons_succ]))
        refine M_pure (i := 16) (v := ?_) rfl (by kernel_rfl) (by kernel_rfl) (by kernel_rfl) (fun _ _ _ h => h) (by rfl) ?hy ?_; (case hy => (intro w; go_simp; with_reducible rfl)); ((try dsimp only); (try simp only [Act.put, List.setIfInBounds_toArray, List.set_cons_zero, List.set_cons_succ]))
        refine M_semi (i := 17) (v := ?_) rfl (by kernel_rfl) (by kernel_rfl) (by kernel_rfl) (by kernel_rfl) (fun _ _ _ h => h) (by rfl) hS ?hy ?_; (case hy => (intro w hS; go_simp; with_reducible rfl)); ((try dsimp only); (try simp only [Act.put, List.setIfInBounds_toArray, List.set_cons_zero, List.set_cons_succ]))
        refine M_pure (i := 18) (v := ?_) rfl (by kernel_rfl) (by kernel_rfl) (by kernel_rfl) (fun _ _ _ h => h) (by rfl) ?hy ?_; (case hy => (intro w; go_simp; with_reducible rfl)); ((try dsimp only); (try simp only [Act.put, List.setIfInBounds_toArray, List.set_cons_zero, List.set_cons_succ]))
        refine M_semi (i := 19) (v := ?_) rfl (by kernel_rfl) (by kernel_rfl) (by kernel_rfl) (by kernel_rfl) (fun _ _ _ h => h) (by rfl) hS ?hy ?_; (case hy => (intro w hS; go_simp; with_reducible rfl)); ((try dsimp only); (try simp only [Act.put, List.setIfInBounds_toArray, List.set_cons_zero, List.set_cons_succ]))
        refine M_pure (i := 20) (v := ?_) rfl (by kernel_rfl) (by kernel_rfl) (by kernel_rfl) (fun _ _ _ h => h) (by rfl) ?hy ?_; (case hy => (intro w; go_simp; with_reducible rfl)); ((try dsimp only); (try simp only [Act.put, List.setIfInBounds_toArray, List.set_cons_zero, List.set_cons_succ]))
        refine M_semi (i := 21) (v := ?_) rfl (by kernel_rfl) (by kernel_rfl) (by kernel_rfl) (by kernel_rfl) (fun _ _ _ h => h) (by rfl) hS ?hy ?_; (case hy => (intro w hS; go_simp; with_reducible rfl)); ((try dsimp only); (try simp only [Act.put, List.setIfInBounds_toArray, List.set_cons_zero, List.set_cons_succ]))
        refine M_eff (i := 22) rfl (by kernel_rfl) (by rfl) ?_
        clear hS
        go_wp2_with fail
        refine (rtext_any g A c t.kind t.text Z1 (HG.out.1.kept HZ1.out.1.chg) HG.out.2.2.1).mono ?_
        rintro e Z2 ⟨bt, rfl, hbt, hcx⟩
        have HZ2 := Lib.hid (And.intro (HZ1.out.1.kept hcx) hbt)
        clear hcx hbt
        have hS := HZ2.out.1.cells
        go_wp2_with fail
        refine ⟨hS, ?_⟩
        ((try dsimp only); (try simp only [Act.put, List.setIfInBounds_toArray, List.set_cons_zero, List.set_cons_succ]))
        cases bt with
        | false =>
          refine M_pure (i := 23) (v := ?_) rfl (by kernel_rfl) (by kernel_rfl) (by kernel_rfl) (fun _ _ _ h => h) (by rfl) ?hy ?_; (case hy => (intro w; go_simp; with_reducible rfl)); ((try dsimp only); (try simp only [Act.put, List.setIfInBounds_toArray, List.set_cons_zero, List.set_cons_succ]))
          refine M_pure (i := 24) (v := ?_) rfl (by kernel_rfl) (by kernel_rfl) (by kernel_rfl) (fun _ _ _ h => h) (by rfl) ?hy ?_; (case hy => (intro w; go_simp; with_reducible rfl)); ((try dsimp only); (try simp only [Act.put, List.setIfInBounds_toArray, List.set_cons_zero, List.set_cons_succ]))
          refine M_skip (i := 25) rfl (by kernel_rfl) (by kernel_rfl) (by kernel_rfl) (fun _ _ _ h => h) (by rfl) ?_; ((try dsimp only); (try simp only [Act.put, List.setIfInBounds_toArray, List.set_cons_zero, List.set_cons_succ]))
          refine M_skip (i := 26) rfl (by kernel_rfl) (by kernel_rfl) (by kernel_rfl) (fun _ _ _ h => h) (by rfl) ?_; ((try dsimp only); (try simp only [Act.put, List.setIfInBounds_toArray, List.set_cons_zero, List.set_cons_succ]))
          refine M_skip (i := 27) rfl (by kernel_rfl) (by kernel_rfl) (by kernel_rfl) (fun _ _ _ h => h) (by rfl) ?_; ((try dsimp only); (try simp only [Act.put, List.setIfInBounds_toArray, List.set_cons_zero, List.set_cons_succ]))
          refine M_skip (i := 28) rfl (by kernel_rfl) (by kernel_rfl) (by kernel_rfl) (fun _ _ _ h => h) (by rfl) ?_; ((try dsimp only); (try simp only [Act.put, List.setIfInBounds_toArray, List.set_cons_zero, List.set_cons_succ]))
          refine M_skip (i := 29) rfl (by kernel_rfl) (by kernel_rfl) (by kernel_rfl) (fun _ _ _ h => h) (by rfl) ?_; ((try dsimp only); (try simp only [Act.put, List.setIfInBounds_toArray, List.set_cons_zero, List.set_cons_succ]))
          refine M_skip (i := 30) rfl (by kernel_rfl) (by kernel_rfl) (by kernel_rfl) (fun _ _ _ h => h) (by rfl) ?_; ((try dsimp only); (try simp only [Act.put, List.setIfInBounds_toArray, List.set_cons_zero, List.set_cons_succ]))
          refine M_pure (i := 31) (v := ?_) rfl (by kernel_rfl) (by kernel_rfl) (by kernel_rfl) (fun _ _ _ h => h) (by rfl) ?hy ?_; (case hy => (intro w; go_simp; with_reducible rfl)); ((try dsimp only); (try simp only [Act.put, List.setIfInBounds_toArray, List.set_cons_zero, List.set_cons_succ]))
          refine M_pure (i := 32) (v := ?_) rfl (by kernel_rfl) (by kernel_rfl) (by kernel_rfl) (fun _ _ _ h => h) (by rfl) ?hy ?_; (case hy => (intro w; go_simp; with_reducible rfl)); ((try dsimp only); (try simp only [Act.put, List.setIfInBounds_toArray, List.set_cons_zero, List.set_cons_succ]))
          refine M_done (by kernel_rfl) ?_ _
          go_wp2_with fail
          go_ret
          exact BoolIs.no (fun h => by have := HZ2.out.2.2 h.1; cases this) HZ2.out.1.chg
        | true =>
          refine M_pure (i := 23) (v := ?_) rfl (by kernel_rfl) (by kernel_rfl) (by kernel_rfl) (fun _ _ _ h => h) (by rfl) ?hy ?_; (case hy => (intro w; go_simp; with_reducible rfl)); ((try dsimp only); (try simp only [Act.put, List.setIfInBounds_toArray, List.set_cons_zero, List.set_cons_succ]))
          refine M_pure (i := 24) (v := ?_) rfl (by kernel_rfl) (by kernel_rfl) (by kernel_rfl) (fun _ _ _ h => h) (by rfl) ?hy ?_; (case hy => (intro w; go_simp; with_reducible rfl)); ((try dsimp only); (try simp only [Act.put, List.setIfInBounds_toArray, List.set_cons_zero, List.set_cons_succ]))
          refine M_semi (i := 25) (v := ?_) rfl (by kernel_rfl) (by kernel_rfl) (by kernel_rfl) (by kernel_rfl) (fun _ _ _ h => h) (by rfl) hS ?hy ?_; (case hy => (intro w hS; go_simp; with_reducible rfl)); ((try dsimp only); (try simp only [Act.put, List.setIfInBounds_toArray, List.set_cons_zero, List.set_cons_succ]))
          refine M_pure (i := 26) (v := ?_) rfl (by kernel_rfl) (by kernel_rfl) (by kernel_rfl) (fun _ _ _ h => h) (by rfl) ?hy ?_; (case hy => (intro w; go_simp; with_reducible rfl)); ((try dsimp only); (try simp only [Act.put, List.setIfInBounds_toArray, List.set_cons_zero, List.set_cons_succ]))
          refine M_semi (i := 27) (v := ?_) rfl (by kernel_rfl) (by kernel_rfl) (by kernel_rfl) (by kernel_rfl) (fun _ _ _ h => h) (by rfl) hS ?hy ?_; (case hy => (intro w hS; go_simp; with_reducible rfl)); ((try dsimp only); (try simp only [Act.put, List.setIfInBounds_toArray, List.set_cons_zero, List.set_cons_succ]))
          refine M_semi (i := 28) (v := ?_) rfl (by kernel_rfl) (by kernel_rfl) (by kernel_rfl) (by kernel_rfl) (fun _ _ _ h => h) (by rfl) hS ?hy ?_; (case hy => (intro w hS; go_simp; with_reducible rfl)); ((try dsimp only); (try simp only [Act.put, List.setIfInBounds_toArray, List.set_cons_zero, List.set_cons_succ]))
          refine M_eff (i := 29) rfl (by kernel_rfl) (by rfl) ?_
          clear hS
          go_wp2_with fail
          refine (rkinds_any t B d Z2 (HG.out.2.1.kept HZ2.out.1.chg (by simp)) HG.out.2.2.2).mono ?_
          rintro e Z3 ⟨Ak, ck, rfl, hkr, hcx⟩
          have HZ3 := Lib.hid (And.intro (HZ2.out.1.kept hcx) hkr)
          clear hcx hkr
          have hS := HZ3.out.1.cells
          go_wp2_with fail
          refine ⟨hS, ?_⟩
          ((try dsimp only); (try simp only [Act.put, List.setIfInBounds_toArray, List.set_cons_zero, List.set_cons_succ]))
          refine M_eff (i := 30) rfl (by kernel_rfl) (by rfl) ?_
          clear hS
          go_wp2_with fail
          refine (rfits_any g A c t.kind Ak t.kinds ck Z3 (HG.out.1.kept HZ3.out.1.chg) HZ3.out.2 (by have := HG.out.2.2.2; simp [Tr.kinds]; omega)).mono ?_
          rintro e Z4 ⟨bf, rfl, hbf, hcx⟩
          have HZ4 := Lib.hid (And.intro (HZ3.out.1.kept hcx) hbf)
          clear hcx hbf
          have hS := HZ4.out.1.cells
          go_wp2_with fail
          refine ⟨hS, ?_⟩
          ((try dsimp only); (try simp only [Act.put, List.setIfInBounds_toArray, List.set_cons_zero, List.set_cons_succ]))
          refine M_pure (i := 31) (v := ?_) rfl (by kernel_rfl) (by kernel_rfl) (by kernel_rfl) (fun _ _ _ h => h) (by rfl) ?hy ?_; (case hy => (intro w; go_simp; with_reducible rfl)); ((try dsimp only); (try simp only [Act.put, List.setIfInBounds_toArray, List.set_cons_zero, List.set_cons_succ]))
          refine M_pure (i := 32) (v := ?_) rfl (by kernel_rfl) (by kernel_rfl) (by kernel_rfl) (fun _ _ _ h => h) (by rfl) ?hy ?_; (case hy => (intro w; go_simp; with_reducible rfl)); ((try dsimp only); (try simp only [Act.put, List.setIfInBounds_toArray, List.set_cons_zero, List.set_cons_succ]))
          refine M_done (by kernel_rfl) ?_ _
          go_wp2_with fail
          go_ret
          exact ⟨bf, rfl, ⟨fun h => ⟨HZ2.out.2.1 (by first | rfl | trivial), HZ4.out.2.1 h⟩, fun h => HZ4.out.2.2 h.2⟩, HZ4.out.1.chg⟩
      · have d1 : decide (t.kind < (g.kinds.length : Int)) = false := decide_eq_false hk1
        refine M_pure (i := 2) (v := ?_) rfl (by kernel_rfl) (by kernel_rfl) (by kernel_rfl) (fun _ _ _ h => h) (by rfl) ?hy ?_; (case hy => (intro w; go_simp; with_reducible rfl)); ((try dsimp only); (try simp only [Act.put, List.setIfInBounds_toArray, List.set_cons_zero, List.set_cons_succ]))
        refine M_pure (i := 3) (v := ?_) rfl (by kernel_rfl) (by kernel_rfl) (by kernel_rfl) (fun _ _ _ h => h) (by rfl) ?hy ?_; (case hy => (intro w; go_simp; with_reducible rfl)); ((try dsimp only); (try simp only [Act.put, List.setIfInBounds_toArray, List.set_cons_zero, List.set_cons_succ]))
        refine M_pure (i := 4) (v := ?_) rfl (by kernel_rfl) (by kernel_rfl) (by kernel_rfl) (fun _ _ _ h => h) (by rfl) ?hy ?_; (case hy => (intro w; go_simp; with_reducible rfl)); ((try dsimp only); (try simp only [Act.put, List.setIfInBounds_toArray, List.set_cons_zero, List.set_cons_succ]))
        refine M_semi (i := 5) (v := ?_) rfl (by kernel_rfl) (by kernel_rfl) (by kernel_rfl) (by kernel_rfl) (fun _ _ _ h => h) (by rfl) hS ?hy ?_; (case hy => (intro w hS; go_simp; with_reducible rfl)); ((try dsimp only); (try simp only [Act.put, List.setIfInBounds_toArray, List.set_cons_zero, List.set_cons_succ]))
        refine M_pure (i := 6) (v := ?_) rfl (by kernel_rfl) (by kernel_rfl) (by kernel_rfl) (fun _ _ _ h => h) (by rfl) ?hy ?_; (case hy => (intro w; go_simp; with_reducible rfl)); ((try dsimp only); (try simp only [Act.put, List.setIfInBounds_toArray, List.set_cons_zero, List.set_cons_succ]))
        refine M_pure (i := 7) (v := ?_) rfl (by kernel_rfl) (by kernel_rfl) (by kernel_rfl) (fun _ _ _ h => h) (by rfl) ?hy ?_; (case hy => (intro w; go_simp; with_reducible rfl)); ((try dsimp only); (try simp only [Act.put, List.setIfInBounds_toArray, List.set_cons_zero, List.set_cons_succ]))
        refine M_pure (i := 8) (v := ?_) rfl (by kernel_rfl) (by kernel_rfl) (by kernel_rfl) (fun _ _ _ h => h) (by rfl) ?hy ?_; (case hy => (intro w; go_simp; with_reducible rfl)); ((try dsimp only); (try simp only [Act.put, List.setIfInBounds_toArray, List.set_cons_zero, List.set_cons_succ]))
        refine M_pure (i := 9) (v := ?_) rfl (by kernel_rfl) (by kernel_rfl) (by kernel_rfl) (fun _ _ _ h => h) (by rfl) ?hy ?_; (case hy => (intro w; go_simp; with_reducible rfl)); ((try dsimp only); (try simp only [Act.put, List.setIfInBounds_toArray, List.set_cons_zero, List.set_cons_succ]))
        refine M_semi (i := 10) (v := ?_) rfl (by kernel_rfl) (by kernel_rfl) (by kernel_rfl) (by kernel_rfl) (fun _ _ _ h => h) (by rfl) hS ?hy ?_; (case hy => (intro w hS; go_simp; with_reducible rfl)); ((try dsimp only); (try simp only [Act.put, List.setIfInBounds_toArray, List.set_cons_zero, List.set_cons_succ]))
        refine M_pure (i := 11) (v := ?_) rfl (by kernel_rfl) (by kernel_rfl) (by kernel_rfl) (fun _ _ _ h => h) (by rfl) ?hy ?_; (case hy => (intro w; go_simp; with_reducible rfl)); ((try dsimp only); (try simp only [Act.put, List.setIfInBounds_toArray, List.set_cons_zero, List.set_cons_succ]))
        refine M_semi (i := 12) (v := ?_) rfl (by kernel_rfl) (by kernel_rfl) (by kernel_rfl) (by kernel_rfl) (fun _ _ _ h => h) (by rfl) hS ?hy ?_; (case hy => (intro w hS; go_simp; with_reducible rfl)); ((try dsimp only); (try simp only [Act.put, List.setIfInBounds_toArray, List.set_cons_zero, List.set_cons_succ]))
        refine M_pure (i := 13) (v := ?_) rfl (by kernel_rfl) (by kernel_rfl) (by kernel_rfl) (fun _ _ _ h => h) (by rfl) ?hy ?_; (case hy => (intro w; go_simp; with_reducible rfl)); ((try dsimp only); (try simp only [Act.put, List.setIfInBounds_toArray, List.set_cons_zero, List.set_cons_succ]))
        refine M_pure (i := 14) (v := ?_) rfl (by kernel_rfl) (by kernel_rfl) (by kernel_rfl) (fun _ _ _ h => h) (by rfl) ?hy ?_; (case hy => (intro w; go_simp; with_reducible rfl)); ((try dsimp only); (try simp only [Act.put, List.setIfInBounds_toArray, List.set_cons_zero, List.set_cons_succ]))
        refine M_pure (i := 15) (v := ?_) rfl (by kernel_rfl) (by kernel_rfl) (by kernel_rfl) (fun _ _ _ h => h) (by rfl) ?hy ?_; (case hy => (intro w; go_simp; with_reducible rfl)); ((try dsimp only); (try simp only [Act.put, List.setIfInBounds_toArray, List.set_cons_zero, List.set_cons_succ]))
        refine M_pure (i := 16) (v := ?_) rfl (by kernel_rfl) (by kernel_rfl) (by kernel_rfl) (fun _ _ _ h => h) (by rfl) ?hy ?_; (case hy => (intro w; go_simp; with_reducible rfl)); ((try dsimp only); (try simp only [Act.put, List.setIfInBounds_toArray, List.set_cons_zero, List.set_cons_succ]))
        refine M_skip (i := 17) rfl (by kernel_rfl) (by kernel_rfl) (by kernel_rfl) (fun _ _ _ h => h) (by rfl) ?_; ((try dsimp only); (try simp only [Act.put, List.setIfInBounds_toArray, List.set_cons_zero, List.set_cons_succ]))
        refine M_skip (i := 18) rfl (by kernel_rfl) (by kernel_rfl) (by kernel_rfl) (fun _ _ _ h => h) (by rfl) ?_; ((try dsimp only); (try simp only [Act.put, List.setIfInBounds_toArray, List.set_cons_zero, List.set_cons_succ]))
        refine M_skip (i := 19) rfl (by kernel_rfl) (by kernel_rfl) (by kernel_rfl) (fun _ _ _ h => h) (by rfl) ?_; ((try dsimp only); (try simp only [Act.put, List.setIfInBounds_toArray, List.set_cons_zero, List.set_cons_succ]))
        refine M_skip (i := 20) rfl (by kernel_rfl) (by kernel_rfl) (by kernel_rfl) (fun _ _ _ h => h) (by rfl) ?_; ((try dsimp only); (try simp only [Act.put, List.setIfInBounds_toArray, List.set_cons_zero, List.set_cons_succ]))
        refine M_skip (i := 21) rfl (by kernel_rfl) (by kernel_rfl) (by kernel_rfl) (fun _ _ _ h => h) (by rfl) ?_; ((try dsimp only); (try simp only [Act.put, List.setIfInBounds_toArray, List.set_cons_zero, List.set_cons_succ]))
        refine M_skip (i := 22) rfl (by kernel_rfl) (by kernel_rfl) (by kernel_rfl) (fun _ _ _ h => h) (by rfl) ?_; ((try dsimp only); (try simp only [Act.put, List.setIfInBounds_toArray, List.set_cons_zero, List.set_cons_succ]))
        refine M_pure (i := 23) (v := ?_) rfl (by kernel_rfl) (by kernel_rfl) (by kernel_rfl) (fun _ _ _ h => h) (by rfl) ?hy ?_; (case hy => (intro w; go_simp; with_reducible rfl)); ((try dsimp only); (try simp only [Act.put, List.setIfInBounds_toArray, List.set_cons_zero, List.set_cons_succ]))
        refine M_pure (i := 24) (v := ?_) rfl (by kernel_rfl) (by kernel_rfl) (by kernel_rfl) (fun _ _ _ h => h) (by rfl) ?hy ?_; (case hy => (intro w; go_simp; with_reducible rfl)); ((try dsimp only); (try simp only [Act.put, List.setIfInBounds_toArray, List.set_cons_zero, List.set_cons_succ]))
        refine M_skip (i := 25) rfl (by kernel_rfl) (by kernel_rfl) (by kernel_rfl) (fun _ _ _ h => h) (by rfl) ?_; ((try dsimp only); (try simp only [Act.put, List.setIfInBounds_toArray, List.set_cons_zero, List.set_cons_succ]))
        refine M_skip (i := 26) rfl (by kernel_rfl) (by kernel_rfl) (by kernel_rfl) (fun _ _ _ h => h) (by rfl) ?_; ((try dsimp only); (try simp only [Act.put, List.setIfInBounds_toArray, List.set_cons_zero, List.set_cons_succ]))
        refine M_skip (i := 27) rfl (by kernel_rfl) (by kernel_rfl) (by kernel_rfl) (fun _ _ _ h => h) (by rfl) ?_; ((try dsimp only); (try simp only [Act.put, List.setIfInBounds_toArray, List.set_cons_zero, List.set_cons_succ]))
        refine M_skip (i := 28) rfl (by kernel_rfl) (by kernel_rfl) (by kernel_rfl) (fun _ _ _ h => h) (by rfl) ?_; ((try dsimp only); (try simp only [Act.put, List.setIfInBounds_toArray, List.set_cons_zero, List.set_cons_succ]))
        refine M_skip (i := 29) rfl (by kernel_rfl) (by kernel_rfl) (by kernel_rfl) (fun _ _ _ h => h) (by rfl) ?_; ((try dsimp only); (try simp only [Act.put, List.setIfInBounds_toArray, List.set_cons_zero, List.set_cons_succ]))
        refine M_skip (i := 30) rfl (by kernel_rfl) (by kernel_rfl) (by kernel_rfl) (fun _ _ _ h => h) (by rfl) ?_; ((try dsimp only); (try simp only [Act.put, List.setIfInBounds_toArray, List.set_cons_zero, List.set_cons_succ]))
        refine M_pure (i := 31) (v := ?_) rfl (by kernel_rfl) (by kernel_rfl) (by kernel_rfl) (fun _ _ _ h => h) (by rfl) ?hy ?_; (case hy => (intro w; go_simp; with_reducible rfl)); ((try dsimp only); (try simp only [Act.put, List.setIfInBounds_toArray, List.set_cons_zero, List.set_cons_succ]))
        refine M_pure (i := 32) (v := ?_) rfl (by kernel_rfl) (by kernel_rfl) (by kernel_rfl) (fun _ _ _ h => h) (by rfl) ?hy ?_; (case hy => (intro w; go_simp; with_reducible rfl)); ((try dsimp only); (try simp only [Act.put, List.setIfInBounds_toArray, List.set_cons_zero, List.set_cons_succ]))
        refine M_done (by kernel_rfl) ?_ _
        go_wp2_with fail
        go_ret
        exact BoolIs.no (fun h => by have := h.ok.2.2; omega) HZ1.out.1.chg
    · have d0 : decide (0 ≤ t.kind) = false := decide_eq_false hk0
      refine M_pure (i := 2) (v := ?_) rfl (by kernel_rfl) (by kernel_rfl) (by kernel_rfl) (fun _ _ _ h => h) (by rfl) ?hy ?_; (case hy => (intro w; go_simp; with_reducible rfl)); ((try dsimp only); (try simp only [Act.put, List.setIfInBounds_toArray, List.set_cons_zero, List.set_cons_succ]))
      refine M_pure (i := 3) (v := ?_) rfl (by kernel_rfl) (by kernel_rfl) (by kernel_rfl) (fun _ _ _ h => h) (by rfl) ?hy ?_; (case hy => (intro w; go_simp; with_reducible rfl)); ((try dsimp only); (try simp only [Act.put, List.setIfInBounds_toArray, List.set_cons_zero, List.set_cons_succ]))
      refine M_pure (i := 4) (v := ?_) rfl (by kernel_rfl) (by kernel_rfl) (by kernel_rfl) (fun _ _ _ h => h) (by rfl) ?hy ?_; (case hy => (intro w; go_simp; with_reducible rfl)); ((try dsimp only); (try simp only [Act.put, List.setIfInBounds_toArray, List.set_cons_zero, List.set_cons_succ]))
      refine M_semi (i := 5) (v := ?_) rfl (by kernel_rfl) (by kernel_rfl) (by kernel_rfl) (by kernel_rfl) (fun _ _ _ h => h) (by rfl) hS ?hy ?_; (case hy => (intro w hS; go_simp; with_reducible rfl)); ((try dsimp only); (try simp only [Act.put, List.setIfInBounds_toArray, List.set_cons_zero, List.set_cons_succ]))
      refine M_pure (i := 6) (v := ?_) rfl (by kernel_rfl) (by kernel_rfl) (by kernel_rfl) (fun _ _ _ h => h) (by rfl) ?hy ?_; (case hy => (intro w; go_simp; with_reducible rfl)); ((try dsimp only); (try simp only [Act.put, List.setIfInBounds_toArray, List.set_cons_zero, List.set_cons_succ]))
      refine M_pure (i := 7) (v := ?_) rfl (by kernel_rfl) (by kernel_rfl) (by kernel_rfl) (fun _ _ _ h => h) (by rfl) ?hy ?_; (case hy => (intro w; go_simp; with_reducible rfl)); ((try dsimp only); (try simp only [Act.put, List.setIfInBounds_toArray, List.set_cons_zero, List.set_cons_succ]))
      refine M_pure (i := 8) (v := ?_) rfl (by kernel_rfl) (by kernel_rfl) (by kernel_rfl) (fun _ _ _ h => h) (by rfl) ?hy ?_; (case hy => (intro w; go_simp; with_reducible rfl)); ((try dsimp only); (try simp only [Act.put, List.setIfInBounds_toArray, List.set_cons_zero, List.set_cons_succ]))
      refine M_skip (i := 9) rfl (by kernel_rfl) (by kernel_rfl) (by kernel_rfl) (fun _ _ _ h => h) (by rfl) ?_; ((try dsimp only); (try simp only [Act.put, List.setIfInBounds_toArray, List.set_cons_zero, List.set_cons_succ]))
      refine M_skip (i := 10) rfl (by kernel_rfl) (by kernel_rfl) (by kernel_rfl) (fun _ _ _ h => h) (by rfl) ?_; ((try dsimp only); (try simp only [Act.put, List.setIfInBounds_toArray, List.set_cons_zero, List.set_cons_succ]))
      refine M_skip (i := 11) rfl (by kernel_rfl) (by kernel_rfl) (by kernel_rfl) (fun _ _ _ h => h) (by rfl) ?_; ((try dsimp only); (try simp only [Act.put, List.setIfInBounds_toArray, List.set_cons_zero, List.set_cons_succ]))
      refine M_skip (i := 12) rfl (by kernel_rfl) (by kernel_rfl) (by kernel_rfl) (fun _ _ _ h => h) (by rfl) ?_; ((try dsimp only); (try simp only [Act.put, List.setIfInBounds_toArray, List.set_cons_zero, List.set_cons_succ]))
      refine M_skip (i := 13) rfl (by kernel_rfl) (by kernel_rfl) (by kernel_rfl) (fun _ _ _ h => h) (by rfl) ?_; ((try dsimp only); (try simp only [Act.put, List.setIfInBounds_toArray, List.set_cons_zero, List.set_cons_succ]))
      refine M_skip (i := 14) rfl (by kernel_rfl) (by kernel_rfl) (by kernel_rfl) (fun _ _ _ h => h) (by rfl) ?_; ((try dsimp only); (try simp only [Act.put, List.setIfInBounds_toArray, List.set_cons_zero, List.set_cons_succ]))
      refine M_pure (i := 15) (v := ?_) rfl (by kernel_rfl) (by kernel_rfl) (by kernel_rfl) (fun _ _ _ h => h) (by rfl) ?hy ?_; (case hy => (intro w; go_simp; with_reducible rfl)); ((try dsimp only); (try simp only [Act.put, List.setIfInBounds_toArray, List.set_cons_zero, List.set_cons_succ]))
      refine M_pure (i := 16) (v := ?_) rfl (by kernel_rfl) (by kernel_rfl) (by kernel_rfl) (fun _ _ _ h => h) (by rfl) ?hy ?_; (case hy => (intro w; go_simp; with_reducible rfl)); ((try dsimp only); (try simp only [Act.put, List.setIfInBounds_toArray, List.set_cons_zero, List.set_cons_succ]))
      refine M_skip (i := 17) rfl (by kernel_rfl) (by kernel_rfl) (by kernel_rfl) (fun _ _ _ h => h) (by rfl) ?_; ((try dsimp only); (try simp only [Act.put, List.setIfInBounds_toArray, List.set_cons_zero, List.set_cons_succ]))
      refine M_skip (i := 18) rfl (by kernel_rfl) (by kernel_rfl) (by kernel_rfl) (fun _ _ _ h => h) (by rfl) ?_; ((try dsimp only); (try simp only [Act.put, List.setIfInBounds_toArray, List.set_cons_zero, List.set_cons_succ]))
      refine M_skip (i := 19) rfl (by kernel_rfl) (by kernel_rfl) (by kernel_rfl) (fun _ _ _ h => h) (by rfl) ?_; ((try dsimp only); (try simp only [Act.put, List.setIfInBounds_toArray, List.set_cons_zero, List.set_cons_succ]))
      refine M_skip (i := 20) rfl (by kernel_rfl) (by kernel_rfl) (by kernel_rfl) (fun _ _ _ h => h) (by rfl) ?_; ((try dsimp only); (try simp only [Act.put, List.setIfInBounds_toArray, List.set_cons_zero, List.set_cons_succ]))
      refine M_skip (i := 21) rfl (by kernel_rfl) (by kernel_rfl) (by kernel_rfl) (fun _ _ _ h => h) (by rfl) ?_; ((try dsimp only); (try simp only [Act.put, List.setIfInBounds_toArray, List.set_cons_zero, List.set_cons_succ]))
      refine M_skip (i := 22) rfl (by kernel_rfl) (by kernel_rfl) (by kernel_rfl) (fun _ _ _ h => h) (by rfl) ?_; ((try dsimp only); (try simp only [Act.put, List.setIfInBounds_toArray, List.set_cons_zero, List.set_cons_succ]))
      refine M_pure (i := 23) (v := ?_) rfl (by kernel_rfl) (by kernel_rfl) (by kernel_rfl) (fun _ _ _ h => h) (by rfl) ?hy ?_; (case hy => (intro w; go_simp; with_reducible rfl)); ((try dsimp only); (try simp only [Act.put, List.setIfInBounds_toArray, List.set_cons_zero, List.set_cons_succ]))
      refine M_pure (i := 24) (v := ?_) rfl (by kernel_rfl) (by kernel_rfl) (by kernel_rfl) (fun _ _ _ h => h) (by rfl) ?hy ?_; (case hy => (intro w; go_simp; with_reducible rfl)); ((try dsimp only); (try simp only [Act.put, List.setIfInBounds_toArray, List.set_cons_zero, List.set_cons_succ]))
      refine M_skip (i := 25) rfl (by kernel_rfl) (by kernel_rfl) (by kernel_rfl) (fun _ _ _ h => h) (by rfl) ?_; ((try dsimp only); (try simp only [Act.put, List.setIfInBounds_toArray, List.set_cons_zero, List.set_cons_succ]))
      refine M_skip (i := 26) rfl (by kernel_rfl) (by kernel_rfl) (by kernel_rfl) (fun _ _ _ h => h) (by rfl) ?_; ((try dsimp only); (try simp only [Act.put, List.setIfInBounds_toArray, List.set_cons_zero, List.set_cons_succ]))
      refine M_skip (i := 27) rfl (by kernel_rfl) (by kernel_rfl) (by kernel_rfl) (fun _ _ _ h => h) (by rfl) ?_; ((try dsimp only); (try simp only [Act.put, List.setIfInBounds_toArray, List.set_cons_zero, List.set_cons_succ]))
      refine M_skip (i := 28) rfl (by kernel_rfl) (by kernel_rfl) (by kernel_rfl) (fun _ _ _ h => h) (by rfl) ?_; ((try dsimp only); (try simp only [Act.put, List.setIfInBounds_toArray, List.set_cons_zero, List.set_cons_succ]))
      refine M_skip (i := 29) rfl (by kernel_rfl) (by kernel_rfl) (by kernel_rfl) (fun _ _ _ h => h) (by rfl) ?_; ((try dsimp only); (try simp only [Act.put, List.setIfInBounds_toArray, List.set_cons_zero, List.set_cons_succ]))
      refine M_skip (i := 30) rfl (by kernel_rfl) (by kernel_rfl) (by kernel_rfl) (fun _ _ _ h => h) (by rfl) ?_; ((try dsimp only); (try simp only [Act.put, List.setIfInBounds_toArray, List.set_cons_zero, List.set_cons_succ]))
      refine M_pure (i := 31) (v := ?_) rfl (by kernel_rfl) (by kernel_rfl) (by kernel_rfl) (fun _ _ _ h => h) (by rfl) ?hy ?_; (case hy => (intro w; go_simp; with_reducible rfl)); ((try dsimp only); (try simp only [Act.put, List.setIfInBounds_toArray, List.set_cons_zero, List.set_cons_succ]))
      refine M_pure (i := 32) (v := ?_) rfl (by kernel_rfl) (by kernel_rfl) (by kernel_rfl) (fun _ _ _ h => h) (by rfl) ?hy ?_; (case hy => (intro w; go_simp; with_reducible rfl)); ((try dsimp only); (try simp only [Act.put, List.setIfInBounds_toArray, List.set_cons_zero, List.set_cons_succ]))
      refine M_done (by kernel_rfl) ?_ _
      go_wp2_with fail
      go_ret
      exact BoolIs.no (fun h => by have := h.ok.2.1; omega) HZ1.out.1.chg
  · have HN := Lib.hid (show ¬ NodeOk g t from fun h => hz0 (hz.2 h.ok.1))
    obtain rfl : z = 50 := by omega
    clear hz hzz hz0
    refine M_pure (i := 2) (v := ?_) rfl (by kernel_rfl) (by kernel_rfl) (by kernel_rfl) (fun _ _ _ h => h) (by rfl) ?hy ?_; (case hy => (intro w; go_simp; with_reducible rfl)); ((try dsimp only); (try simp only [Act.put, List.setIfInBounds_toArray, List.set_cons_zero, List.set_cons_succ]))
    refine M_pure (i := 3) (v := ?_) rfl (by kernel_rfl) (by kernel_rfl) (by kernel_rfl) (fun _ _ _ h => h) (by rfl) ?hy ?_; (case hy => (intro w; go_simp; with_reducible rfl)); ((try dsimp only); (try simp only [Act.put, List.setIfInBounds_toArray, List.set_cons_zero, List.set_cons_succ]))
    refine M_skip (i := 4) rfl (by kernel_rfl) (by kernel_rfl) (by kernel_rfl) (fun _ _ _ h => h) (by rfl) ?_; ((try dsimp only); (try simp only [Act.put, List.setIfInBounds_toArray, List.set_cons_zero, List.set_cons_succ]))
    refine M_skip (i := 5) rfl (by kernel_rfl) (by kernel_rfl) (by kernel_rfl) (fun _ _ _ h => h) (by rfl) ?_; ((try dsimp only); (try simp only [Act.put, List.setIfInBounds_toArray, List.set_cons_zero, List.set_cons_succ]))
    refine M_skip (i := 6) rfl (by kernel_rfl) (by kernel_rfl) (by kernel_rfl) (fun _ _ _ h => h) (by rfl) ?_; ((try dsimp only); (try simp only [Act.put, List.setIfInBounds_toArray, List.set_cons_zero, List.set_cons_succ]))
    refine M_pure (i := 7) (v := ?_) rfl (by kernel_rfl) (by kernel_rfl) (by kernel_rfl) (fun _ _ _ h => h) (by rfl) ?hy ?_; (case hy => (intro w; go_simp; with_reducible rfl)); ((try dsimp only); (try simp only [Act.put, List.setIfInBounds_toArray, List.set_cons_zero, List.set_cons_succ]))
    refine M_pure (i := 8) (v := ?_) rfl (by kernel_rfl) (by kernel_rfl) (by kernel_rfl) (fun _ _ _ h => h) (by rfl) ?hy ?_; (case hy => (intro w; go_simp; with_reducible rfl)); ((try dsimp only); (try simp only [Act.put, List.setIfInBounds_toArray, List.set_cons_zero, List.set_cons_succ]))
    refine M_skip (i := 9) rfl (by kernel_rfl) (by kernel_rfl) (by kernel_rfl) (fun _ _ _ h => h) (by rfl) ?_; ((try dsimp only); (try simp only [Act.put, List.setIfInBounds_toArray, List.set_cons_zero, List.set_cons_succ]))
    refine M_skip (i := 10) rfl (by kernel_rfl) (by kernel_rfl) (by kernel_rfl) (fun _ _ _ h => h) (by rfl) ?_; ((try dsimp only); (try simp only [Act.put, List.setIfInBounds_toArray, List.set_cons_zero, List.set_cons_succ]))
    refine M_skip (i := 11) rfl (by kernel_rfl) (by kernel_rfl) (by kernel_rfl) (fun _ _ _ h => h) (by rfl) ?_; ((try dsimp only); (try simp only [Act.put, List.setIfInBounds_toArray, List.set_cons_zero, List.set_cons_succ]))
    refine M_skip (i := 12) rfl (by kernel_rfl) (by kernel_rfl) (by kernel_rfl) (fun _ _ _ h => h) (by rfl) ?_; ((try dsimp only); (try simp only [Act.put, List.setIfInBounds_toArray, List.set_cons_zero, List.set_cons_succ]))
    refine M_skip (i := 13) rfl (by kernel_rfl) (by kernel_rfl) (by kernel_rfl) (fun _ _ _ h => h) (by rfl) ?_; ((try dsimp only); (try simp only [Act.put, List.setIfInBounds_toArray, List.set_cons_zero, List.set_cons_succ]))
    refine M_skip (i := 14) rfl (by kernel_rfl) (by kernel_rfl) (by kernel_rfl) (fun _ _ _ h => h) (by rfl) ?_; ((try dsimp only); (try simp only [Act.put, List.setIfInBounds_toArray, List.set_cons_zero, List.set_cons_succ]))
    refine M_pure (i := 15) (v := ?_) rfl (by kernel_rfl) (by kernel_rfl) (by kernel_rfl) (fun _ _ _ h => h) (by rfl) ?hy ?_; (case hy => (intro w; go_simp; with_reducible rfl)); ((try dsimp only); (try simp only [Act.put, List.setIfInBounds_toArray, List.set_cons_zero, List.set_cons_succ]))
    refine M_pure (i := 16) (v := ?_) rfl (by kernel_rfl) (by kernel_rfl) (by kernel_rfl) (fun _ _ _ h => h) (by rfl) ?hy ?_; (case hy => (intro w; go_simp; with_reducible rfl)); ((try dsimp only); (try simp only [Act.put, List.setIfInBounds_toArray, List.set_cons_zero, List.set_cons_succ]))
    refine M_skip (i := 17) rfl (by kernel_rfl) (by kernel_rfl) (by kernel_rfl) (fun _ _ _ h => h) (by rfl) ?_; ((try dsimp only); (try simp only [Act.put, List.setIfInBounds_toArray, List.set_cons_zero, List.set_cons_succ]))
    refine M_skip (i := 18) rfl (by kernel_rfl) (by kernel_rfl) (by kernel_rfl) (fun _ _ _ h => h) (by rfl) ?_; ((try dsimp only); (try simp only [Act.put, List.setIfInBounds_toArray, List.set_cons_zero, List.set_cons_succ]))
    refine M_skip (i := 19) rfl (by kernel_rfl) (by kernel_rfl) (by kernel_rfl) (fun _ _ _ h => h) (by rfl) ?_; ((try dsimp only); (try simp only [Act.put, List.setIfInBounds_toArray, List.set_cons_zero, List.set_cons_succ]))
    refine M_skip (i := 20) rfl (by kernel_rfl) (by kernel_rfl) (by kernel_rfl) (fun _ _ _ h => h) (by rfl) ?_; ((try dsimp only); (try simp only [Act.put, List.setIfInBounds_toArray, List.set_cons_zero, List.set_cons_succ]))
    refine M_skip (i := 21) rfl (by kernel_rfl) (by kernel_rfl) (by kernel_rfl) (fun _ _ _ h => h) (by rfl) ?_; ((try dsimp only); (try simp only [Act.put, List.setIfInBounds_toArray, List.set_cons_zero, List.set_cons_succ]))
    refine M_skip (i := 22) rfl (by kernel_rfl) (by kernel_rfl) (by kernel_rfl) (fun _ _ _ h => h) (by rfl) ?_; ((try dsimp only); (try simp only [Act.put, List.setIfInBounds_toArray, List.set_cons_zero, List.set_cons_succ]))
    refine M_pure (i := 23) (v := ?_) rfl (by kernel_rfl) (by kernel_rfl) (by kernel_rfl) (fun _ _ _ h => h) (by rfl) ?hy ?_; (case hy => (intro w; go_simp; with_reducible rfl)); ((try dsimp only); (try simp only [Act.put, List.setIfInBounds_toArray, List.set_cons_zero, List.set_cons_succ]))
    refine M_pure (i := 24) (v := ?_) rfl (by kernel_rfl) (by kernel_rfl) (by kernel_rfl) (fun _ _ _ h => h) (by rfl) ?hy ?_; (case hy => (intro w; go_simp; with_reducible rfl)); ((try dsimp only); (try simp only [Act.put, List.setIfInBounds_toArray, List.set_cons_zero, List.set_cons_succ]))
    refine M_skip (i := 25) rfl (by kernel_rfl) (by kernel_rfl) (by kernel_rfl) (fun _ _ _ h => h) (by rfl) ?_; ((try dsimp only); (try simp only [Act.put, List.setIfInBounds_toArray, List.set_cons_zero, List.set_cons_succ]))
    refine M_skip (i := 26) rfl (by kernel_rfl) (by kernel_rfl) (by kernel_rfl) (fun _ _ _ h => h) (by rfl) ?_; ((try dsimp only); (try simp only [Act.put, List.setIfInBounds_toArray, List.set_cons_zero, List.set_cons_succ]))
    refine M_skip (i := 27) rfl (by kernel_rfl) (by kernel_rfl) (by kernel_rfl) (fun _ _ _ h => h) (by rfl) ?_; ((try dsimp only); (try simp only [Act.put, List.setIfInBounds_toArray, List.set_cons_zero, List.set_cons_succ]))
    refine M_skip (i := 28) rfl (by kernel_rfl) (by kernel_rfl) (by kernel_rfl) (fun _ _ _ h => h) (by rfl) ?_; ((try dsimp only); (try simp only [Act.put, List.setIfInBounds_toArray, List.set_cons_zero, List.set_cons_succ]))
    refine M_skip (i := 29) rfl (by kernel_rfl) (by kernel_rfl) (by kernel_rfl) (fun _ _ _ h => h) (by rfl) ?_; ((try dsimp only); (try simp only [Act.put, List.setIfInBounds_toArray, List.set_cons_zero, List.set_cons_succ]))
    refine M_skip (i := 30) rfl (by kernel_rfl) (by kernel_rfl) (by kernel_rfl) (fun _ _ _ h => h) (by rfl) ?_; ((try dsimp only); (try simp only [Act.put, List.setIfInBounds_toArray, List.set_cons_zero, List.set_cons_succ]))
    refine M_pure (i := 31) (v := ?_) rfl (by kernel_rfl) (by kernel_rfl) (by kernel_rfl) (fun _ _ _ h => h) (by rfl) ?hy ?_; (case hy => (intro w; go_simp; with_reducible rfl)); ((try dsimp only); (try simp only [Act.put, List.setIfInBounds_toArray, List.set_cons_zero, List.set_cons_succ]))
    refine M_pure (i := 32) (v := ?_) rfl (by kernel_rfl) (by kernel_rfl) (by kernel_rfl) (fun _ _ _ h => h) (by rfl) ?hy ?_; (case hy => (intro w; go_simp; with_reducible rfl)); ((try dsimp only); (try simp only [Act.put, List.setIfInBounds_toArray, List.set_cons_zero, List.set_cons_succ]))
    refine M_done (by kernel_rfl) ?_ _
    go_wp2_with fail
    go_ret
    exact BoolIs.no HN.out HZ1.out.1.chg
set_option maxHeartbeats 16000000 in
set_option maxRecDepth 100000 in
theorem gnode_any {ok : Nat → Prop} (g : Gr) (A : Option Addr) (c : Nat) (t : Tr) (B : Option Addr) (d : Nat) (w : World) (hG : GrC w A c g.kinds) (hT : TrC ok w t [.int .i64 (Tr.id t), .int .i64 (Tr.kind t), .string (Tr.text t), .slice B (Tr.kids t).length d]) (hn : t.kids.length ≤ 1000000) :
    Calls Try.prog 124 #[.agg #[.slice A g.kinds.length c, .int .i64 g.root], .agg #[.int .i64 (Tr.id t), .int .i64 (Tr.kind t), .string (Tr.text t), .slice B (Tr.kids t).length d]] w (BoolIs (NodeOk g t) w) := by
  have htx : t.text.size ≤ 9223372036854775807 := by obtain ⟨_, _, _, _, _, h, _⟩ := hT.opens; exact h
  have hgl : g.kinds.length ≤ 9223372036854775807 := by have := hG.cap; have := hG.big; omega
  have HG := Lib.hid (And.intro hG (And.intro hT (And.intro htx hn)))
  obtain ⟨W1, hW1⟩ : ∃ W1, W1 = (w.alloc (.cells #[.slice A g.kinds.length c, .int .i64 g.root] 43)).alloc (.cells #[.int .i64 (Tr.id t), .int .i64 (Tr.kind t), .string (Tr.text t), .slice B (Tr.kids t).length d] 24) := ⟨_, rfl⟩
  have hB : Boxes g A c t B d w W1 := by rw [hW1]; exact Boxes.new g A c t B d w
  have HB := Lib.hid (And.intro hB hW1)
  clear hG hT htx hn hB hW1
  go_enter Try.func124, Try.ntmps124
  go_wp2_with fail
  rw [← HB.out.2]
  refine wp_region_M (fun W => (W.cell? ⟨w.heap.size, 0, none⟩ = some (.slice A g.kinds.length c) ∧ W.cell? ⟨w.heap.size, 1, none⟩ = some (.int .i64 g.root) ∧ W.cell? ⟨w.heap.size + 1, 0, none⟩ = some (.int .i64 t.id) ∧ W.cell? ⟨w.heap.size + 1, 1, none⟩ = some (.int .i64 t.kind) ∧ W.cell? ⟨w.heap.size + 1, 2, none⟩ = some (.string t.text) ∧ W.cell? ⟨w.heap.size + 1, 3, none⟩ = some (.slice B t.kids.length d))) (fun k => [4, 5, 12].contains k) (fun _ => false) (by kernel_rfl) ?_
  have hBd : Boxes g A c t B d w W1.drew := HB.out.1.kept (Chg.refl _ _).drew
  obtain ⟨Z, hZ⟩ : ∃ Z, Z = W1.drew := ⟨_, rfl⟩
  rw [← hZ] at hBd ⊢
  have HZ := Lib.hid hBd
  clear hZ hBd
  have hS := HZ.out.cells
  ((try dsimp only); (try simp only [Act.put, List.setIfInBounds_toArray, List.set_cons_zero, List.set_cons_succ]))
  refine M_semi (i := 0) (v := ?_) rfl (by kernel_rfl) (by kernel_rfl) (by kernel_rfl) (by kernel_rfl) (fun _ _ _ h => h) (by rfl) hS ?hy ?_; (case hy => (intro w hS; go_simp; with_reducible rfl)); ((try dsimp only); (try simp only [Act.put, List.setIfInBounds_toArray, List.set_cons_zero, List.set_cons_succ]))
  refine M_pure (i := 1) (v := ?_) rfl (by kernel_rfl) (by kernel_rfl) (by kernel_rfl) (fun _ _ _ h => h) (by rfl) ?hy ?_; (case hy => (intro w; go_simp; with_reducible rfl)); ((try dsimp only); (try simp only [Act.put, List.setIfInBounds_toArray, List.set_cons_zero, List.set_cons_succ]))
  refine M_semi (i := 2) (v := ?_) rfl (by kernel_rfl) (by kernel_rfl) (by kernel_rfl) (by kernel_rfl) (fun _ _ _ h => h) (by rfl) hS ?hy ?_; (case hy => (intro w hS; go_simp; with_reducible rfl)); ((try dsimp only); (try simp only [Act.put, List.setIfInBounds_toArray, List.set_cons_zero, List.set_cons_succ]))
  refine M_semi (i := 3) (v := ?_) rfl (by kernel_rfl) (by kernel_rfl) (by kernel_rfl) (by kernel_rfl) (fun _ _ _ h => h) (by rfl) hS ?hy ?_; (case hy => (intro w hS; go_simp; with_reducible rfl)); ((try dsimp only); (try simp only [Act.put, List.setIfInBounds_toArray, List.set_cons_zero, List.set_cons_succ]))
  refine M_eff (i := 4) rfl (by kernel_rfl) (by rfl) ?_
  clear hS
  go_wp2_with fail
  refine (gkinds_any t B d Z (HG.out.2.1.kept HZ.out.chg (by simp)) HG.out.2.2.2).mono ?_
  rintro e Z3 ⟨Ak, ck, rfl, hkr, hcx⟩
  have HZ3 := Lib.hid (And.intro (HZ.out.kept hcx) hkr)
  clear hcx hkr
  have hS := HZ3.out.1.cells
  go_wp2_with fail
  refine ⟨hS, ?_⟩
  ((try dsimp only); (try simp only [Act.put, List.setIfInBounds_toArray, List.set_cons_zero, List.set_cons_succ]))
  refine M_eff (i := 5) rfl (by kernel_rfl) (by rfl) ?_
  clear hS
  go_wp2_with fail
  refine (gfits_any g A c t.kind Ak t.kinds ck Z3 (HG.out.1.kept HZ3.out.1.chg) HZ3.out.2 (by have := HG.out.2.2.2; simp [Tr.kinds]; omega)).mono ?_
  rintro e Z4 ⟨bf, rfl, hbf, hcx⟩
  have HZ4 := Lib.hid (And.intro (HZ3.out.1.kept hcx) hbf)
  clear hcx hbf
  have hS := HZ4.out.1.cells
  go_wp2_with fail
  refine ⟨hS, ?_⟩
  ((try dsimp only); (try simp only [Act.put, List.setIfInBounds_toArray, List.set_cons_zero, List.set_cons_succ]))
  cases bf with
  | false =>
    refine M_pure (i := 6) (v := ?_) rfl (by kernel_rfl) (by kernel_rfl) (by kernel_rfl) (fun _ _ _ h => h) (by rfl) ?hy ?_; (case hy => (intro w; go_simp; with_reducible rfl)); ((try dsimp only); (try simp only [Act.put, List.setIfInBounds_toArray, List.set_cons_zero, List.set_cons_succ]))
    refine M_skip (i := 7) rfl (by kernel_rfl) (by kernel_rfl) (by kernel_rfl) (fun _ _ _ h => h) (by rfl) ?_; ((try dsimp only); (try simp only [Act.put, List.setIfInBounds_toArray, List.set_cons_zero, List.set_cons_succ]))
    refine M_skip (i := 8) rfl (by kernel_rfl) (by kernel_rfl) (by kernel_rfl) (fun _ _ _ h => h) (by rfl) ?_; ((try dsimp only); (try simp only [Act.put, List.setIfInBounds_toArray, List.set_cons_zero, List.set_cons_succ]))
    refine M_skip (i := 9) rfl (by kernel_rfl) (by kernel_rfl) (by kernel_rfl) (fun _ _ _ h => h) (by rfl) ?_; ((try dsimp only); (try simp only [Act.put, List.setIfInBounds_toArray, List.set_cons_zero, List.set_cons_succ]))
    refine M_skip (i := 10) rfl (by kernel_rfl) (by kernel_rfl) (by kernel_rfl) (fun _ _ _ h => h) (by rfl) ?_; ((try dsimp only); (try simp only [Act.put, List.setIfInBounds_toArray, List.set_cons_zero, List.set_cons_succ]))
    refine M_skip (i := 11) rfl (by kernel_rfl) (by kernel_rfl) (by kernel_rfl) (fun _ _ _ h => h) (by rfl) ?_; ((try dsimp only); (try simp only [Act.put, List.setIfInBounds_toArray, List.set_cons_zero, List.set_cons_succ]))
    refine M_skip (i := 12) rfl (by kernel_rfl) (by kernel_rfl) (by kernel_rfl) (fun _ _ _ h => h) (by rfl) ?_; ((try dsimp only); (try simp only [Act.put, List.setIfInBounds_toArray, List.set_cons_zero, List.set_cons_succ]))
    refine M_pure (i := 13) (v := ?_) rfl (by kernel_rfl) (by kernel_rfl) (by kernel_rfl) (fun _ _ _ h => h) (by rfl) ?hy ?_; (case hy => (intro w; go_simp; with_reducible rfl)); ((try dsimp only); (try simp only [Act.put, List.setIfInBounds_toArray, List.set_cons_zero, List.set_cons_succ]))
    refine M_pure (i := 14) (v := ?_) rfl (by kernel_rfl) (by kernel_rfl) (by kernel_rfl) (fun _ _ _ h => h) (by rfl) ?hy ?_; (case hy => (intro w; go_simp; with_reducible rfl)); ((try dsimp only); (try simp only [Act.put, List.setIfInBounds_toArray, List.set_cons_zero, List.set_cons_succ]))
    refine M_done (by kernel_rfl) ?_ _
    go_wp2_with fail
    go_ret
    exact BoolIs.no (fun h => by have := HZ4.out.2.2 h.2; cases this) HZ4.out.1.chg
  | true =>
    refine M_pure (i := 6) (v := ?_) rfl (by kernel_rfl) (by kernel_rfl) (by kernel_rfl) (fun _ _ _ h => h) (by rfl) ?hy ?_; (case hy => (intro w; go_simp; with_reducible rfl)); ((try dsimp only); (try simp only [Act.put, List.setIfInBounds_toArray, List.set_cons_zero, List.set_cons_succ]))
    refine M_semi (i := 7) (v := ?_) rfl (by kernel_rfl) (by kernel_rfl) (by kernel_rfl) (by kernel_rfl) (fun _ _ _ h => h) (by rfl) hS ?hy ?_; (case hy => (intro w hS; go_simp; with_reducible rfl)); ((try dsimp only); (try simp only [Act.put, List.setIfInBounds_toArray, List.set_cons_zero, List.set_cons_succ]))
    refine M_pure (i := 8) (v := ?_) rfl (by kernel_rfl) (by kernel_rfl) (by kernel_rfl) (fun _ _ _ h => h) (by rfl) ?hy ?_; (case hy => (intro w; go_simp; with_reducible rfl)); ((try dsimp only); (try simp only [Act.put, List.setIfInBounds_toArray, List.set_cons_zero, List.set_cons_succ]))
    refine M_semi (i := 9) (v := ?_) rfl (by kernel_rfl) (by kernel_rfl) (by kernel_rfl) (by kernel_rfl) (fun _ _ _ h => h) (by rfl) hS ?hy ?_; (case hy => (intro w hS; go_simp; with_reducible rfl)); ((try dsimp only); (try simp only [Act.put, List.setIfInBounds_toArray, List.set_cons_zero, List.set_cons_succ]))
    refine M_pure (i := 10) (v := ?_) rfl (by kernel_rfl) (by kernel_rfl) (by kernel_rfl) (fun _ _ _ h => h) (by rfl) ?hy ?_; (case hy => (intro w; go_simp; with_reducible rfl)); ((try dsimp only); (try simp only [Act.put, List.setIfInBounds_toArray, List.set_cons_zero, List.set_cons_succ]))
    refine M_semi (i := 11) (v := ?_) rfl (by kernel_rfl) (by kernel_rfl) (by kernel_rfl) (by kernel_rfl) (fun _ _ _ h => h) (by rfl) hS ?hy ?_; (case hy => (intro w hS; go_simp; with_reducible rfl)); ((try dsimp only); (try simp only [Act.put, List.setIfInBounds_toArray, List.set_cons_zero, List.set_cons_succ]))
    refine M_eff (i := 12) rfl (by kernel_rfl) (by rfl) ?_
    clear hS
    go_wp2_with fail
    refine (gtext_any g A c t.kind t.text Z4 (HG.out.1.kept HZ4.out.1.chg) HG.out.2.2.1).mono ?_
    rintro e Z5 ⟨bt, rfl, hbt, hcx⟩
    have HZ5 := Lib.hid (And.intro (HZ4.out.1.kept hcx) hbt)
    clear hcx hbt
    have hS := HZ5.out.1.cells
    go_wp2_with fail
    refine ⟨hS, ?_⟩
    ((try dsimp only); (try simp only [Act.put, List.setIfInBounds_toArray, List.set_cons_zero, List.set_cons_succ]))
    refine M_pure (i := 13) (v := ?_) rfl (by kernel_rfl) (by kernel_rfl) (by kernel_rfl) (fun _ _ _ h => h) (by rfl) ?hy ?_; (case hy => (intro w; go_simp; with_reducible rfl)); ((try dsimp only); (try simp only [Act.put, List.setIfInBounds_toArray, List.set_cons_zero, List.set_cons_succ]))
    refine M_pure (i := 14) (v := ?_) rfl (by kernel_rfl) (by kernel_rfl) (by kernel_rfl) (fun _ _ _ h => h) (by rfl) ?hy ?_; (case hy => (intro w; go_simp; with_reducible rfl)); ((try dsimp only); (try simp only [Act.put, List.setIfInBounds_toArray, List.set_cons_zero, List.set_cons_succ]))
    refine M_done (by kernel_rfl) ?_ _
    go_wp2_with fail
    go_ret
    exact ⟨bt, rfl, ⟨fun h => ⟨HZ5.out.2.1 h, HZ4.out.2.1 (by first | rfl | trivial)⟩, fun h => HZ5.out.2.2 h.1⟩, HZ5.out.1.chg⟩
end Go.Proofs.Ytofjocjljbkjgaa
namespace Go.Proofs.Ytofjocjljbkjgaa
open Go.RowKit
mutual
theorem walk_nodes : ∀ (t : Tr) (d : Int) (x : Tr) (e : Int), (x, e) ∈ t.walk d → x.nodes ≤ t.nodes
  | ⟨i, k, s, ks⟩, d, x, e, h => by
    unfold Tr.walk at h
    rcases List.mem_cons.1 h with h | h
    · cases h; exact Nat.le_refl _
    · have := walkL_nodes ks (d + 1) x e h
      show x.nodes ≤ 1 + nodesL ks
      omega
theorem walkL_nodes : ∀ (ks : List Tr) (d : Int) (x : Tr) (e : Int), (x, e) ∈ walkL ks d → x.nodes ≤ nodesL ks
  | [], d, x, e, h => by simp [walkL] at h
  | k :: ks, d, x, e, h => by
    unfold walkL at h
    unfold nodesL
    rcases List.mem_append.1 h with h | h
    · have := walk_nodes k d x e h; omega
    · have := walkL_nodes ks d x e h; omega
end
theorem Tr.kids_le (t : Tr) : t.kids.length ≤ t.nodes := by
  have := nodesL_len t.kids
  rw [t.nodes_eq]
  omega
def Good0 (g : Gr) (y : Tr × Int) : Prop := y.2 ≤ 32 ∧ 1 ≤ y.1.id ∧ y.1.id ≤ 1125899906842624 ∧ NodeOk g y.1
def GoodTo (g : Gr) (l : List (Tr × Int)) (i : Nat) : Prop := ∀ j y, j < i → l[j]? = some y → Good0 g y ∧ ∀ k z, k < j → l[k]? = some z → z.1.id ≠ y.1.id
def SubOk (g : Gr) (t : Tr) : Prop := t.nodes ≤ 200 ∧ GoodTo g (t.walk 1) (t.walk 1).length
theorem GoodTo.next {g : Gr} {l : List (Tr × Int)} {i : Nat} {y : Tr × Int} (h : GoodTo g l i) (hy : l[i]? = some y) (h1 : Good0 g y) (h2 : ∀ k z, k < i → l[k]? = some z → z.1.id ≠ y.1.id) : GoodTo g l (i + 1) := fun j x hj hx => by
  by_cases e : j = i
  · subst e; rw [hy] at hx; cases hx; exact ⟨h1, h2⟩
  · exact h j x (by omega) hx
def ConfPost (p : Prop) (g : Gr) (w : World) (e : Ending) (w' : World) : Prop := ∃ a z : Int, e = .returned (.tuple #[.int .i64 a, .int .i64 z]) ∧ (z = 0 ↔ g.Ok ∧ p) ∧ (z = 0 ∨ (z = 50 ∧ ¬ g.Ok) ∨ (z = 70 ∧ g.Ok)) ∧ Chg [] w w'
theorem ConfPost.no {p : Prop} {g : Gr} {w w' : World} (a : Int) (h : g.Ok) (hp : ¬ p) (hc : Chg [] w w') : ConfPost p g w (.returned (.tuple #[.int .i64 a, .int .i64 70])) w' := ⟨a, 70, rfl, by simp [hp], .inr (.inr ⟨rfl, h⟩), hc⟩
theorem ConfPost.yes {p : Prop} {g : Gr} {w w' : World} (a : Int) (h : g.Ok) (hp : p) (hc : Chg [] w w') : ConfPost p g w (.returned (.tuple #[.int .i64 a, .int .i64 0])) w' := ⟨a, 0, rfl, by simp [h, hp], .inl rfl, hc⟩
end Go.Proofs.Ytofjocjljbkjgaa
namespace Go.Proofs.Ytofjocjljbkjgaa
open Go.RowKit
abbrev W0 : Fence := Fence.wide
def isBook : Obj → Bool
  | .loop _ => true
  | .deferred _ => true
  | _ => false
def Quiet (B : Nat) (W W' : World) : Prop := ∃ L, Chg L W W' ∧ ∀ k ∈ L, B ≤ k ∧ ∃ o, W.heap[k]? = some o ∧ isBook o = true
theorem Quiet.of_chg {B : Nat} {W W' : World} (h : Chg [] W W') : Quiet B W W' := ⟨[], h, by simp⟩
theorem Quiet.put {B : Nat} {W : World} {k : Nat} {o : Obj} (o' : Obj) (hk : W.heap[k]? = some o) (ho : isBook o = true) (hB : B ≤ k) : Quiet B W (W.putObj k o') :=
  ⟨[k], ⟨rfl, rfl, rfl, by simp, fun j _ hj => World.putObj_heap_other (by simpa using hj)⟩, fun j hj => by simp at hj; subst hj; exact ⟨hB, o, hk, ho⟩⟩
theorem Quiet.chg {l : List Nat} {B : Nat} {a W W' : World} (h : Quiet B W W') (hc : Chg l a W) (hB : a.heap.size ≤ B) : Chg l a W' := by
  obtain ⟨L, h1, h2⟩ := h
  exact hc.andThen h1 (fun i hi => .inr (by have := (h2 i hi).1; omega))
theorem Quiet.at {B b : Nat} {W W' : World} {o : Obj} (h : Quiet B W W') (hb : W.heap[b]? = some o) (ho : isBook o = false) : W'.heap[b]? = some o := by
  obtain ⟨L, h1, h2⟩ := h
  refine h1.at hb (fun hm => ?_)
  obtain ⟨_, o', h3, h4⟩ := h2 b hm
  rw [hb] at h3
  injection h3 with h3
  subst h3
  rw [ho] at h4
  cases h4
theorem Quiet.low {B b : Nat} {W W' : World} {o : Obj} (h : Quiet B W W') (hb : W.heap[b]? = some o) (ho : b < B) : W'.heap[b]? = some o := by
  obtain ⟨L, h1, h2⟩ := h
  exact h1.at hb (fun hm => by have := (h2 b hm).1; omega)
def Books (B : Nat) (W W' : World) : Prop := W.heap.size ≤ W'.heap.size ∧ ∀ k o, B ≤ k → W.heap[k]? = some o → isBook o = true → W'.heap[k]? = some o
theorem Books.refl (B : Nat) (W : World) : Books B W W := ⟨Nat.le_refl _, fun _ _ _ h _ => h⟩
theorem Books.trans {B : Nat} {a b c : World} (h : Books B a b) (k : Books B b c) : Books B a c := ⟨Nat.le_trans h.1 k.1, fun i o hB ho hk => k.2 i o hB (h.2 i o hB ho hk) hk⟩
variable {P : Program}
section
variable {F : Fence} {n : Nat} {P : Program} {ops : Array Oper} {rest : List Oper} {o : Oper} {a : Act} {w : World} {Q : Exit → Act → World → Prop}
theorem bodyM_ret {fn : Func} {R : Ending → World → Prop} {a : Act} {w : World} {D : Nat} {v : Value} (hd : a.defers = [{ target := .collected D, args := #[] }]) (hK : w.heap[D]? = some (.deferred (some []))) (hr : (results fn a.tmps).run P (w.putObj D (.deferred none)) = .ok v (w.putObj D (.deferred none)))
    (h : R (.returned v) (w.putObj D (.deferred none))) : bodyPostM W0 0 P fn R .ret a w := by
  show LeavesInM W0 0 P fn a.tmps R a.defers .returning w
  rw [hd]
  exact ⟨by simp, .inl ⟨_, _, rfl, run_takeDeferred hK, ⟨_, hr, h⟩⟩⟩
end
end Go.Proofs.Ytofjocjljbkjgaa
namespace Go.Proofs.Ytofjocjljbkjgaa
open Go.RowKit
def Above (B : Nat) (W W' : World) : Prop := W.heap.size ≤ W'.heap.size ∧ ∀ k, B ≤ k → k < W.heap.size → W'.heap[k]? = W.heap[k]?
theorem Above.refl (B : Nat) (W : World) : Above B W W := ⟨Nat.le_refl _, fun _ _ _ => rfl⟩
theorem Above.trans {B : Nat} {a b c : World} (h : Above B a b) (k : Above B b c) : Above B a c := ⟨Nat.le_trans h.1 k.1, fun i h1 h2 => (k.2 i h1 (Nat.lt_of_lt_of_le h2 h.1)).trans (h.2 i h1 h2)⟩
theorem Above.mono {B B' : Nat} {W W' : World} (h : Above B W W') (hB : B ≤ B') : Above B' W W' := ⟨h.1, fun k h1 h2 => h.2 k (by omega) h2⟩
theorem Above.of_chg {B : Nat} {W W' : World} {L : List Nat} (h : Chg L W W') (hL : ∀ k ∈ L, k < B ∨ W.heap.size ≤ k) : Above B W W' := ⟨h.size, fun k h1 h2 => h.block k h2 (fun hm => by rcases hL k hm with h | h <;> omega)⟩
theorem Above.of_chg0 {B : Nat} {W W' : World} (h : Chg [] W W') : Above B W W' := Above.of_chg h (by simp)
theorem Above.at {B b : Nat} {W W' : World} {o : Obj} (h : Above B W W') (hb : W.heap[b]? = some o) (hB : B ≤ b) : W'.heap[b]? = some o := (h.2 b hB (lt_of_block hb)).trans hb
theorem Quiet.mono {B B' : Nat} {W W' : World} (h : Quiet B' W W') (hB : B ≤ B') : Quiet B W W' := by
  obtain ⟨L, h1, h2⟩ := h
  exact ⟨L, h1, fun k hk => ⟨Nat.le_trans hB (h2 k hk).1, (h2 k hk).2⟩⟩
def IterK {β : Type} (P : Program) (g : Nat) (lb : Array Value) (Rep : Nat → Nat → β → Array Value → World → Prop) (xs : List β) (St : World → Prop) : Prop :=
  ∀ (l S : Nat) (J : Nat → World → Prop) (Jx : World → Prop) (W : World),
    (∀ i W, J i W → St W) → (∀ i W W', J i W → Quiet S W W' → J i W') → (∀ W W', Jx W → Quiet S W W' → Jx W') →
    (∀ i x args W1, J i W1 → S ≤ W1.heap.size → xs[i]? = some x → Rep l i x args W1 → YieldAt W0 0 P l args W1 fun e W' => ((e = .returned (.bool true) ∧ J (i + 1) W') ∨ (e = .returned (.bool false) ∧ Jx W')) ∧ Above S W1 W') →
    J 0 W → l < W.heap.size → S ≤ W.heap.size → Calls P g (#[.func (.yield l) #[] #[]] ++ lb) W fun e W' => (∃ v, e = .returned v) ∧ (J xs.length W' ∨ Jx W') ∧ W.heap.size ≤ W'.heap.size
def bodyEndK (B i : Nat) (I : Nat → World → Prop) (Ix : Code → World → Prop) (W : World) : Exit → Act → World → Prop
  | .normal, _, W' => Above B W W' ∧ I (i + 1) W'
  | .ret, _, W' => Above B W W' ∧ Ix .ret W'
  | .exit id, _, W' => Above B W W' ∧ Ix (.exit id) W'
  | .goto t, _, W' => Above B W W' ∧ Ix (.goto t) W'
  | .panic _, _, _ => False
  | .outgrown, _, _ => False
variable {P : Program}
theorem wp_rangeK {β : Type} {g : Operand} {ps : Array Tmp} {assign body : Code} {Q : Exit → Act → World → Prop} {a : Act} {w : World} {gf : Nat} {lb : Array Value} (hg : a.eval g = .func (.func gf) #[] lb)
    (eg : ∀ args w, (callFunc gf args).run P w = .ok (.enter gf args) w) {Rep : Nat → Nat → β → Array Value → World → Prop} {xs : List β} {St : World → Prop} (hseq : IterK P gf lb Rep xs St) (hps : ∀ l i x args W, Rep l i x args W → args.size = ps.size)
    (I : Nat → World → Prop) (Ix : Code → World → Prop) (hSt : ∀ i W, I i W → St W) (hI : ∀ i W W', I i W → Quiet w.heap.size W W' → I i W') (hIx : ∀ c W W', Ix c W → Quiet w.heap.size W W' → Ix c W') (h0 : I 0 w)
    (hround : ∀ l i x args W, I i W → xs[i]? = some x → Rep l i x args W → (∃ r, W.heap[l]? = some (.loop r)) → w.heap.size ≤ l →
      assign.wpIn (W0.inRound l) 0 P (Exit.then (fun a₁ W1 => Above w.heap.size W W1 ∧ ∀ W2, Chg [l] W1 W2 → Quiet w.heap.size W1 W2 → body.wpIn (W0.inRound l) 0 P (bodyEndK w.heap.size i I Ix W2) a₁ W2) (fun _ _ _ => False))
        { tmps := (ps.zip args).foldl (fun t (p, v) => t.setIfInBounds p v) a.tmps, defers := [] } W)
    (hdone : ∀ (D : Nat) (W : World), w.heap.size ≤ D → I xs.length W → W.heap[D]? = some (.deferred (some [])) → Q .normal { a with defers := { target := .collected D, args := #[] } :: a.defers } W)
    (hstop : ∀ (D : Nat) (c : Code) (W : World), w.heap.size ≤ D → Ix c W → W.heap[D]? = some (.deferred (some [])) → c.wpIn W0 0 P Q { a with defers := { target := .collected D, args := #[] } :: a.defers } W) :
    (Code.rangeFunc g ps assign body).wpIn W0 0 P Q a w := by
  refine wpIn_rangeFunc ?_
  intro fn hfn
  show ∃ l, _
  obtain ⟨rec, hrec⟩ : ∃ rec : LoopState → Option Code → Loop, rec = fun st pe => { state := st, pending := pe, fn, tmps := a.tmps, params := ps, assign, body, defers := w.heap.size } := ⟨_, rfl⟩
  obtain ⟨W1, hW1⟩ : ∃ W1, (w.alloc (.deferred (some []))).alloc (.loop (rec .ready none)) = W1 := ⟨_, rfl⟩
  have hL1 : W1.heap[w.heap.size + 1]? = some (.loop (rec .ready none)) := by
    rw [← hW1]; exact heap_new _ _ (by simp)
  have hK1 : W1.heap[w.heap.size]? = some (.deferred (some [])) := by
    rw [← hW1]; exact heap_old (heap_new _ _ rfl) _
  have hsz1 : W1.heap.size = w.heap.size + 2 := by rw [← hW1]; simp
  have hc1 : Chg [] w W1 := by rw [← hW1]; exact ((Chg.refl _ _).alloc _).alloc _
  have hI1 : I 0 W1 := hI _ _ _ h0 (.of_chg hc1)
  refine ⟨w.heap.size + 1, [{ target := .collected w.heap.size, args := #[] }], W1, { target := .fn (.func gf) lb, args := #[.func (.yield (w.heap.size + 1)) #[] #[]] }, W1, gf,
    #[.func (.yield (w.heap.size + 1)) #[] #[]] ++ lb, W1, ?_, ?_, ?_, ?_, fun h => by simp [Fence.wide] at h, ?_⟩
  · rw [← hW1, hrec]; exact run_enterLoop_outer _ _ _ _ _
  · simp only [resolve, hg]
    simp [go_sem]
  · intro f' hf'; trivial
  · simp [invoke, go_sem, eg]
  · refine (callsIn_wide.2 (hseq (w.heap.size + 1) W1.heap.size
      (fun i W => I i W ∧ W.heap[w.heap.size + 1]? = some (.loop (rec .ready none)) ∧ W.heap[w.heap.size]? = some (.deferred (some [])))
      (fun W => ∃ c, Ix c W ∧ W.heap[w.heap.size + 1]? = some (.loop (rec .done (some c))) ∧ W.heap[w.heap.size]? = some (.deferred (some [])))
      W1 (fun i W h => hSt i W h.1) (fun i W W' h hc => ⟨hI _ _ _ h.1 (hc.mono (by omega)), hc.low h.2.1 (by omega), hc.low h.2.2 (by omega)⟩)
      (fun W W' h hc => by
        obtain ⟨c, h1, h2, h3⟩ := h
        exact ⟨c, hIx _ _ _ h1 (hc.mono (by omega)), hc.low h2 (by omega), hc.low h3 (by omega)⟩) ?_ ⟨hI1, hL1, hK1⟩ (lt_of_block hL1) (Nat.le_refl _))).mono ?_
    · rintro i x args W ⟨hi, hl, hk⟩ hSW hx hrep
      have hy := run_yield (P := P) (args := args) hl (by rw [hrec]; exact hps _ _ _ _ _ hrep)
      rw [hrec] at hy
      refine ⟨fn, _, assign, body, hy, roundIn_of_wpIn hfn ?_⟩
      refine wpIn_mono (hround (w.heap.size + 1) i x args W hi hx hrep ⟨_, hl⟩ (by omega)) ?_
      clear hy
      intro e a' Wa hp
      cases e with
      | normal =>
        obtain ⟨hbk, hbody⟩ := hp
        have hla := hbk.at hl (by omega)
        have hka := hbk.at hk (Nat.le_refl _)
        have hlt := lt_of_block hla
        refine ⟨_, run_beginRound hla (by rw [hrec]), ?_⟩
        have hl2 : (Wa.putObj (w.heap.size + 1) (.loop { rec .ready none with state := .busy })).heap[w.heap.size + 1]? = some (.loop { rec .ready none with state := .busy }) := World.putObj_heap_same hlt
        have hk2 : (Wa.putObj (w.heap.size + 1) (.loop { rec .ready none with state := .busy })).heap[w.heap.size]? = some (.deferred (some [])) := (World.putObj_heap_other (by omega)).trans hka
        refine wpIn_mono (hbody _ ⟨rfl, rfl, rfl, by simp, fun j _ hj => World.putObj_heap_other (by simpa using hj)⟩ (.put _ hla rfl (by omega))) ?_
        have fin : ∀ (jump : Option Code) (W3 : World), Above w.heap.size (Wa.putObj (w.heap.size + 1) (.loop { rec .ready none with state := .busy })) W3 →
            (Instr.endRound (w.heap.size + 1) jump).run P W3 = .ok (.bool jump.isNone) (W3.putObj (w.heap.size + 1) (.loop (rec (if jump.isNone then .ready else .done) jump))) ∧
            W3.heap[w.heap.size + 1]? = some (.loop { rec .ready none with state := .busy }) ∧
            (W3.putObj (w.heap.size + 1) (.loop (rec (if jump.isNone then .ready else .done) jump))).heap[w.heap.size + 1]? = some (.loop (rec (if jump.isNone then .ready else .done) jump)) ∧
            (W3.putObj (w.heap.size + 1) (.loop (rec (if jump.isNone then .ready else .done) jump))).heap[w.heap.size]? = some (.deferred (some [])) := fun jump W3 hk3 => by
          have hl3 := hk3.at hl2 (by omega)
          have := run_endRound (P := P) jump hl3
          rw [hrec] at this ⊢
          exact ⟨this, by rw [hrec] at hl3; exact hl3, World.putObj_heap_same (lt_of_block hl3), (World.putObj_heap_other (by omega)).trans (hk3.at hk2 (Nat.le_refl _))⟩
        have habove : ∀ {W3 : World} {o : Obj}, Above w.heap.size (Wa.putObj (w.heap.size + 1) (.loop { rec .ready none with state := .busy })) W3 → Above W1.heap.size W (W3.putObj (w.heap.size + 1) o) := fun {W3 o} h3 =>
          ⟨by have h1 := hbk.1; have h2 := h3.1; simp at h2 ⊢; omega, fun k hk1 hk2 => by
            rw [World.putObj_heap_other (by omega), h3.2 k (by omega) (by have := hbk.1; simp; omega), World.putObj_heap_other (by omega)]
            exact hbk.2 k (by omega) hk2⟩
        rintro e a3 W3 hp
        cases e with
        | normal =>
          obtain ⟨hk3, hi3⟩ := hp
          obtain ⟨hr, hl3, hl4, hk4⟩ := fin none W3 hk3
          exact ⟨_, _, hr, .inl ⟨rfl, ⟨hI _ _ _ hi3 (.put _ hl3 rfl (by omega)), hl4, hk4⟩⟩, habove hk3⟩
        | ret =>
          obtain ⟨hk3, hi3⟩ := hp
          obtain ⟨hr, hl3, hl4, hk4⟩ := fin (some .ret) W3 hk3
          exact ⟨_, _, hr, .inr ⟨rfl, .ret, hIx _ _ _ hi3 (.put _ hl3 rfl (by omega)), hl4, hk4⟩, habove hk3⟩
        | exit id =>
          obtain ⟨hk3, hi3⟩ := hp
          obtain ⟨hr, hl3, hl4, hk4⟩ := fin (some (.exit id)) W3 hk3
          exact ⟨_, _, hr, .inr ⟨rfl, .exit id, hIx _ _ _ hi3 (.put _ hl3 rfl (by omega)), hl4, hk4⟩, habove hk3⟩
        | goto t =>
          obtain ⟨hk3, hi3⟩ := hp
          obtain ⟨hr, hl3, hl4, hk4⟩ := fin (some (.goto t)) W3 hk3
          exact ⟨_, _, hr, .inr ⟨rfl, .goto t, hIx _ _ _ hi3 (.put _ hl3 rfl (by omega)), hl4, hk4⟩, habove hk3⟩
        | panic ch => exact hp.elim
        | outgrown => exact hp.elim
      | ret => exact hp.elim
      | exit id => exact hp.elim
      | goto t => exact hp.elim
      | panic ch => exact hp.elim
      | outgrown => exact hp.elim
    · rintro e W2 ⟨⟨v, rfl⟩, (⟨hi, hl, hk⟩ | ⟨c, hi, hl, hk⟩), _⟩
      · exact ⟨none, _, by have := run_endLoop (P := P) hl (by rw [hrec]; simp); rw [hrec] at this; exact this, hdone _ _ (Nat.le_refl _) (hI _ _ _ hi (.put _ hl rfl (by omega))) ((World.putObj_heap_other (by omega)).trans hk)⟩
      · exact ⟨some c, _, by have := run_endLoop (P := P) hl (by rw [hrec]; simp); rw [hrec] at this; exact this, (hstop _ c _ (Nat.le_refl _) (hIx _ _ _ hi (.put _ hl rfl (by omega))) ((World.putObj_heap_other (by omega)).trans hk))⟩
def NoPanic (Q : Exit → Act → World → Prop) : Exit → Act → World → Prop
  | .panic _, _, _ => False
  | e, a, w => Q e a w
theorem NoPanic.normal {Q : Exit → Act → World → Prop} {a : Act} {w : World} (h : Q .normal a w) : NoPanic Q .normal a w := h
theorem wp_noPanic {P : Program} {c : Code} {Q : Exit → Act → World → Prop} {a : Act} {w : World} (h : c.wp P (NoPanic Q) a w) : c.wp P Q a w :=
  Code.wp_mono (fun e a w h => by cases e <;> first | exact h | exact h.elim) h
def mark (D : Nat) : Deferred := { target := .collected D, args := #[] }
def Marks (B : Nat) (Ds : List Nat) (W : World) : Prop := Ds.Nodup ∧ ∀ D ∈ Ds, B ≤ D ∧ W.heap[D]? = some (.deferred (some []))
theorem Marks.nil (B : Nat) (W : World) : Marks B [] W := ⟨List.nodup_nil, by simp⟩
theorem Marks.above {B S : Nat} {Ds : List Nat} {W W' : World} (h : Marks B Ds W) (ha : Above S W W') (hS : S ≤ B) : Marks B Ds W' := ⟨h.1, fun D hD => ⟨(h.2 D hD).1, ha.at (h.2 D hD).2 (Nat.le_trans hS (h.2 D hD).1)⟩⟩
theorem Marks.quiet {B S : Nat} {Ds : List Nat} {W W' : World} (h : Marks B Ds W) (hq : Quiet S W W') (hS : ∀ D ∈ Ds, D < S) : Marks B Ds W' := ⟨h.1, fun D hD => ⟨(h.2 D hD).1, hq.low (h.2 D hD).2 (hS D hD)⟩⟩
theorem Marks.chg {B : Nat} {Ds : List Nat} {W W' : World} (h : Marks B Ds W) (hc : Chg [] W W') : Marks B Ds W' := ⟨h.1, fun D hD => ⟨(h.2 D hD).1, hc.at (h.2 D hD).2 (by simp)⟩⟩
theorem Marks.push {B : Nat} {Ds : List Nat} {W : World} {D : Nat} (h : Marks B Ds W) (hD : ∀ E ∈ Ds, E < D) (hB : B ≤ D) (hK : W.heap[D]? = some (.deferred (some []))) : Marks B (D :: Ds) W :=
  ⟨List.nodup_cons.2 ⟨fun hm => Nat.lt_irrefl _ (hD D hm), h.1⟩, fun E hE => by
    rcases List.mem_cons.1 hE with rfl | hE
    · exact ⟨hB, hK⟩
    · exact h.2 E hE⟩
theorem marks_ret {P : Program} {fn : Func} {R : Ending → World → Prop} {tmps : Array Value} {B : Nat} : ∀ (Ds : List Nat) (w : World), Marks B Ds w → (∀ w', Quiet B w w' → ∃ v, (results fn tmps).run P w' = .ok v w' ∧ R (.returned v) w') →
    LeavesInM W0 0 P fn tmps R (Ds.map mark) .returning w
  | [], w, _, h => by
    obtain ⟨v, h1, h2⟩ := h w (.of_chg (Chg.refl _ _))
    exact ⟨v, h1, h2⟩
  | D :: Ds, w, hM, h => by
    obtain ⟨hB, hK⟩ := hM.2 D (by simp)
    have hp : Quiet B w (w.putObj D (.deferred none)) := .put _ hK rfl hB
    refine ⟨by simp, .inl ⟨D, _, rfl, run_takeDeferred hK, marks_ret Ds _ ⟨(List.nodup_cons.1 hM.1).2, fun E hE => ⟨(hM.2 E (by simp [hE])).1, ?_⟩⟩ (fun w' hq => h w' ?_)⟩⟩
    · have hne : E ≠ D := fun e => (List.nodup_cons.1 hM.1).1 (by rw [← e]; exact hE)
      exact (World.putObj_heap_other hne).trans (hM.2 E (by simp [hE])).2
    · obtain ⟨L, h1, h2⟩ := hp
      obtain ⟨L', h3, h4⟩ := hq
      refine ⟨D :: L', ⟨h3.os.trans h1.os, h3.tape.trans h1.tape, h3.output.trans h1.output, Nat.le_trans h1.size h3.size, fun k hk hn => ?_⟩, fun k hk => ?_⟩
      · simp only [List.mem_cons, not_or] at hn
        rw [h3.block k (Nat.lt_of_lt_of_le hk h1.size) hn.2]
        exact World.putObj_heap_other hn.1
      · rcases List.mem_cons.1 hk with rfl | hk
        · exact ⟨hB, _, hK, rfl⟩
        · obtain ⟨h5, o, h6, h7⟩ := h4 k hk
          by_cases e : k = D
          · subst e; exact ⟨hB, _, hK, rfl⟩
          · exact ⟨h5, o, (World.putObj_heap_other e).symm.trans h6, h7⟩
end Go.Proofs.Ytofjocjljbkjgaa
namespace Go.Proofs.Ytofjocjljbkjgaa
open Go.RowKit
def isDefer (o : Oper) : Bool := match o.op with | .defer _ => true | _ => false
def noDefer (ops : Array Oper) : Bool := ops.all fun o => !isDefer o
theorem noDefer_spec {ops : Array Oper} (h : noDefer ops = true) {i : Nat} {o : Oper} (ho : ops[i]? = some o) : ∀ c, o.op ≠ .defer c := fun c e => by
  have h1 := (Array.all_eq_true_iff_forall_mem.1 h) o (Array.mem_of_getElem? ho)
  simp [isDefer, e] at h1
section
variable {P : Program} {ops : Array Oper} {o : Oper} {a : Act} {w : World} {Q : Exit → Act → World → Prop} {l n : Nat}
theorem rows_in {row : String} {args : Array Value} {R : Value → World → Prop} (h : Rows P row args w R) : RowsIn (W0.inRound l) n P row args w R :=
  fun c cs _ => let ⟨v, w', r, s⟩ := h c cs; ⟨v, w', r, stepsIn_wide.2 s⟩
theorem calls_in {f : FuncId} {args : Array Value} {R : Ending → World → Prop} (h : Calls P f args w R) : CallsIn (W0.inRound l) n P f args w R := (callsIn_wide (n := n)).2 h
theorem upon_in {next : Act → World → Prop} {r : Result Next} (h : o.upon P a next Q r) : o.uponIn (W0.inRound l) n P a next Q r := by
  cases r with
  | ok x w' =>
    cases x <;> simp only [Oper.upon, Oper.uponIn] at h ⊢ <;>
      first
        | exact h
        | exact ⟨(fun h => by cases h), calls_in h⟩
        | exact ⟨(fun h => by cases h), rows_in h⟩
  | halt x w' => cases x <;> simp only [Oper.upon, Oper.uponIn] at h ⊢ <;> exact h
theorem operIn {next : Act → World → Prop} (hd : ∀ c, o.op ≠ .defer c) (h : o.wp P a w next Q) : o.wpIn (W0.inRound l) n P a w next Q := by
  refine ⟨fun _ _ => trivial, ?_⟩
  rw [show (W0.inRound l).round = some l from rfl, Oper.semAt_some l _ _ hd]
  exact upon_in h
theorem wpOp_in (hnd : noDefer ops = true) (hQ : ¬ LetsOut Q) {i : Nat} {K : Act → World → Prop} (h : wpOp P ops Q i K a w) : wpOpIn (W0.inRound l) n P ops Q i K a w := by
  unfold wpOp at h
  unfold wpOpIn
  cases ho : ops[i]? with
  | none => simpa [ho] using h
  | some o =>
    simp only [ho] at h ⊢
    split
    · rename_i hw
      simp only [hw, if_true] at h
      exact operIn (noDefer_spec hnd ho) (h.resolve_right fun h => hQ h.2)
    · rename_i hw
      simp only [hw] at h
      exact ⟨fun _ _ => trivial, h⟩
theorem wpAny_in (hnd : noDefer ops = true) (hQ : ¬ LetsOut Q) {md : Region.Mode} : ∀ (fuel : Nat) (listed : Array Bool) (a : Act) (w : World), wpAny P md ops Q fuel listed a w → wpAnyIn (W0.inRound l) n P md ops Q fuel listed a w
  | 0, _, _, _, h => h
  | fuel + 1, _, _, _, h => ⟨h.1, fun i hi => wpOp_in hnd hQ (wpOp_mono (fun a w => wpAny_in hnd hQ fuel _ a w) (h.2 i hi))⟩
theorem wpIn_region_M {id : Nat} (S : World → Prop) (eff brk : Nat → Bool) (hm : P.follows .mixedOrders = true) (hnd : noDefer ops = true) (hQ : ¬ LetsOut Q)
    (h : wpAnyM P .any ops Q S eff brk ops.size (Array.replicate ops.size false) a w.drew) : (Code.region id ops true).wpIn (W0.inRound l) n P Q a w :=
  wpIn_region_any hm (wpAny_in hnd hQ _ _ _ _ (wpAny_of_M _ _ _ _ h))
end
end Go.Proofs.Ytofjocjljbkjgaa
namespace Go.Proofs.Ytofjocjljbkjgaa
open Go.RowKit
attribute [local go_sem] Oper.semAt_some
structure StW (Wb : World) (B p1 p2 g o : Nat) (d : Int) (W : World) : Prop where
  b1 : W.heap[p1]? = some (.cells #[.pointer (some ⟨g, o, none⟩)] 103 (0, 0))
  b2 : W.heap[p2]? = some (.cells #[.int .i64 d] 3 (0, 0))
  base : ∀ k, k < B → W.heap[k]? = Wb.heap[k]?
theorem TrAt.base {B : Nat} {Wb W : World} {g o : Nat} {t : Tr} (h : TrAt (fun b => b < B) Wb g o t) (hg : g < B) (hb : ∀ k, k < B → W.heap[k]? = Wb.heap[k]?) : TrAt (fun b => b < B) W g o t := by
  obtain ⟨cs, hr, ht⟩ := h
  exact ⟨cs, fun j v hv => (World.cell?_of_block (w := Wb) (hb g hg)).trans (hr j v hv), ht.move fun k hk _ => ⟨hb k hk, hk⟩⟩
theorem walkf_any (g o : Nat) (d : Int) (w : World) : Calls Try.prog 123 #[.pointer (some ⟨g, o, none⟩), .int .i64 d] w fun e w' => e = .returned (.func (.func 147) #[] #[.pointer (some ⟨w.heap.size, 0, none⟩), .pointer (some ⟨w.heap.size + 1, 0, none⟩)]) ∧ w'.heap[w.heap.size]? = some (.cells #[.pointer (some ⟨g, o, none⟩)] 103 (0, 0)) ∧ w'.heap[w.heap.size + 1]? = some (.cells #[.int .i64 d] 3 (0, 0)) ∧ w'.heap.size = w.heap.size + 2 ∧ Chg [] w w' := by
  go_enter Try.func123, Try.ntmps123
  go_wp2
  go_ret
  exact ⟨rfl, heap_old (heap_new _ _ rfl) _, heap_new _ _ (by simp), by simp, (by with_reducible repeat (first | exact Chg.refl _ _ | apply Chg.alloc | apply Chg.drew | apply Chg.drewN | (refine Chg.setCell ?_ _ _ (by simp))))⟩
theorem walkL_at : ∀ (ks : List Tr) (d : Int) (i j : Nat) (h : i < ks.length) (x : Tr × Int), ((ks[i]).walk d)[j]? = some x → (walkL ks d)[nodesL (ks.take i) + j]? = some x
  | [], d, i, j, h, x, _ => by simp at h
  | k :: ks, d, 0, j, h, x, hx => by
    have hj := (List.getElem?_eq_some_iff.1 hx).1
    unfold walkL
    simp only [List.take_zero, nodesL, Nat.zero_add]
    rw [List.getElem?_append_left (by simpa using hj)]
    exact hx
  | k :: ks, d, i + 1, j, h, x, hx => by
    unfold walkL
    rw [List.take_succ_cons]
    show (k.walk d ++ walkL ks d)[k.nodes + nodesL (ks.take i) + j]? = some x
    rw [List.getElem?_append_right (by rw [Tr.walk_length]; omega), Tr.walk_length, show k.nodes + nodesL (ks.take i) + j - k.nodes = nodesL (ks.take i) + j by omega]
    exact walkL_at ks d i j (by simpa using h) x hx
theorem Tr.walk_at (t : Tr) (d : Int) (i j : Nat) (h : i < t.kids.length) (x : Tr × Int) (hx : ((t.kids[i]).walk (d + 1))[j]? = some x) : (t.walk d)[1 + nodesL (t.kids.take i) + j]? = some x := by
  rw [t.walk_eq, show 1 + nodesL (t.kids.take i) + j = (nodesL (t.kids.take i) + j) + 1 by omega, List.getElem?_cons_succ]
  exact walkL_at _ _ _ _ h x hx
def RepW (B l i : Nat) (x : Tr × Int) (args : Array Value) (W : World) : Prop := ∃ g o, args = #[.pointer (some ⟨g, o, none⟩), .int .i64 x.2] ∧ TrAt (fun b => b < B) W g o x.1 ∧ g < B
set_option maxHeartbeats 16000000 in
set_option maxRecDepth 100000 in
theorem walk_iter (B : Nat) (Wb : World) : ∀ (t : Tr) (d : Int) (p1 p2 g o : Nat), TrAt (fun b => b < B) Wb g o t → g < B → 0 ≤ d → d + t.nodes ≤ 1000000 → IterK Try.prog 147 #[.pointer (some ⟨p1, 0, none⟩), .pointer (some ⟨p2, 0, none⟩)] (RepW B) (t.walk d) (StW Wb B p1 p2 g o d) := by
  intro t
  induction t using Tr.ind with
  | h t ih =>
  intro d p1 p2 g o hT hgB hd0 hd1 l S J Jx W hSt hJ hJx hY h0 hl hS
  have hs := hSt 0 W h0
  have hwx : (t.walk d)[0]? = some (t, d) := by rw [t.walk_eq]; rfl
  obtain ⟨W1, hW1⟩ : ∃ W1, W1 = W.alloc (.cells #[.func (.yield l) #[] #[]] 192) := ⟨_, rfl⟩
  have hc1 : Chg [] W W1 := by rw [hW1]; exact (by with_reducible repeat (first | exact Chg.refl _ _ | apply Chg.alloc | apply Chg.drew | apply Chg.drewN | (refine Chg.setCell ?_ _ _ (by simp))))
  have hb1 : W1.heap[W.heap.size]? = some (.cells #[.func (.yield l) #[] #[]] 192 (0, 0)) := by rw [hW1]; exact heap_new _ _ rfl
  have hJ1 := hJ 0 W W1 h0 (.of_chg hc1)
  have hs1 := hSt 0 W1 hJ1
  obtain ⟨fn, tmps, assign, body, hy, hR⟩ := hY 0 _ #[.pointer (some ⟨g, o, none⟩), .int .i64 d] W1 hJ1 (Nat.le_trans hS hc1.size) hwx ⟨g, o, rfl, hT.base hgB hs1.base, hgB⟩
  have c1 := cellOne hs.b1
  have c2 := cellOne hs.b2
  have l1 := lt_of_block hs.b1
  have l2 := lt_of_block hs.b2
  rw [hW1] at hy
  have HH := Lib.hid (And.intro hSt (And.intro hJ (And.intro hJx (And.intro hY (And.intro hR (And.intro hc1 (And.intro hb1 hW1)))))))
  have HI := Lib.hid (And.intro ih hT)
  have HSl := Lib.hid (And.intro hS hl)
  clear hSt hJ hJx hY hR hc1 hb1 hW1 ih hT h0 hs hs1 hJ1 hwx hS hl
  refine callsIn_wide.1 (callsIn_of_wp_marks (n := 0) Try.func147 rfl trivial ?_)
  simp only [Try.ntmps147, List.size_toArray, List.length_cons, List.length_nil, Nat.reduceAdd, Nat.reduceSub, Array.replicate_succ, Array.replicate_zero, List.push_toArray, List.append_toArray, List.nil_append, List.cons_append]
  gi_wp2
  refine ⟨rfl, ?_⟩
  rw [← HH.out.2.2.2.2.2.2.2]
  refine HH.out.2.2.2.2.1.mono ?_
  clear hy c1 c2 l1 l2
  rintro e W2 ⟨(⟨rfl, hj⟩ | ⟨rfl, hjx⟩), hab⟩
  · have H2 := Lib.hid (And.intro hj (And.intro hab (HH.out.1 1 W2 hj)))
    clear hj hab
    have b0 := cellOne H2.out.2.2.b1
    obtain ⟨A, c, s0, s1, s2, s3, hlc, hcm, _, hK⟩ := HI.out.2.cells
    have q3 := (World.cell?_of_block (w := Wb) (w' := W2) (a := ⟨g, o + 3, none⟩) (H2.out.2.2.base g hgB)).trans s3
    have HK := Lib.hid (And.intro hK s3)
    clear s0 s1 s2 s3 hK
    have hnl : t.kids.length ≤ 1000000 := by have := t.kids_le; omega
    gi_wp2
    refine wpIn_loop (fun a wr => ∃ (i : Nat) (Ds : List Nat) (x4 x5 x6 x18 x19 x20 x21 x22 x23 x24 x25 x26 x27 x28 x29 x30 x31 x32 x33 x34 x35 x36 : Value), i ≤ t.kids.length ∧ a = { tmps := #[.func (.yield l) #[] #[], .pointer (some ⟨p1, 0, none⟩), .pointer (some ⟨p2, 0, none⟩), .pointer (some ⟨W.heap.size, 0, none⟩), x4, x5, x6, .func (.yield l) #[] #[], .pointer (some ⟨g, o, none⟩), .int .i64 d, .bool true, .bool false, .pointer (some ⟨g, o, none⟩), .pointer (some ⟨g, o, none⟩), .pointer (some ⟨g, o + 3, none⟩), .slice A t.kids.length c, .int .i64 t.kids.length, .int .i64 i, x18, x19, x20, x21, x22, x23, x24, x25, x26, x27, x28, x29, x30, x31, x32, x33, x34, x35, x36], defers := Ds.map mark } ∧ Hid (J (1 + nodesL (t.kids.take i)) wr ∧ Marks S Ds wr ∧ (∀ D ∈ Ds, D < wr.heap.size) ∧ W1.heap.size ≤ wr.heap.size ∧ wr.heap[W.heap.size]? = some (.cells #[.func (.yield l) #[] #[]] 192 (0, 0)))) (fun a _ => t.kids.length - (intOf (a.tmps.getD 17 undef)).toNat) ?start ?round
    case start =>
      exact ⟨0, [], undef, undef, undef, undef, undef, undef, undef, undef, undef, undef, undef, undef, undef, undef, undef, undef, undef, undef, undef, undef, undef, undef, Nat.zero_le _, rfl, Lib.hid ⟨by simpa [nodesL] using H2.out.1, Marks.nil _ _, by simp, H2.out.2.1.1, H2.out.2.1.at HH.out.2.2.2.2.2.2.1 HSl.out.1⟩⟩
    case round =>
      rintro a wr ⟨i, Ds, x4, x5, x6, x18, x19, x20, x21, x22, x23, x24, x25, x26, x27, x28, x29, x30, x31, x32, x33, x34, x35, x36, hi, rfl, hH⟩
      have H := hH
      clear hH
      by_cases hlt : i < t.kids.length
      · have hst := HH.out.1 _ wr H.out.1
        have b1 := cellOne hst.b1
        have b2 := cellOne hst.b2
        have q3' := (World.cell?_of_block (w := Wb) (w' := wr) (a := ⟨g, o + 3, none⟩) (hst.base g hgB)).trans HK.out.2
        obtain ⟨gK, oK, hA, hokg, hat⟩ := HK.out.1.at hlt
        subst hA
        obtain ⟨k, hk⟩ : ∃ k, k = t.kids[i] := ⟨_, rfl⟩
        have hkm : k ∈ t.kids := by rw [hk]; exact List.getElem_mem hlt
        have HKi := Lib.hid (And.intro hat (And.intro hk (And.intro hokg hkm)))
        have hd2 : d + 1 + k.nodes ≤ 1000000 := by have h1 := nodesL_mem hkm; have h2 := t.nodes_eq; omega
        have HD2 := Lib.hid hd2
        have hwf := walkf_any gK (oK + i * 4) (d + 1) wr.drew
        have HWf := Lib.hid hwf
        clear hat hk hokg hkm hst hwf hd2
        gi_wp2
        refine wpIn_wide.2 (wp_noPanic ?_)
        refine wp_region_M (fun _ => True) (fun k => [8].contains k) (fun _ => false) (by kernel_rfl) ?_
        have hdr : Chg [] wr wr.drew := (Chg.refl _ _).drew
        have b1 := hdr.cell b1 (by simp)
        have b2 := hdr.cell b2 (by simp)
        have q3 := hdr.cell q3' (by simp)
        clear q3'
        obtain ⟨Z, hZ⟩ : ∃ Z, Z = wr.drew := ⟨_, rfl⟩
        rw [← hZ] at hdr b1 b2 q3 HWf ⊢
        have hzs : Z.heap.size = wr.heap.size := by rw [hZ]; rfl
        have HZ := Lib.hid (And.intro hdr hzs)
        have hdw : IntKind.i64.wrap (d + 1) = d + 1 := IntWalk.i64_in _ (by omega)
        clear hdr hZ hzs
        ((try dsimp only); (try simp only [Act.put, List.setIfInBounds_toArray, List.set_cons_zero, List.set_cons_succ]))
        refine M_take (i := 0) (v := ?_) rfl (by kernel_rfl) (by kernel_rfl) (by kernel_rfl) (by kernel_rfl) (fun _ _ _ h => h) (by rfl) ?hy ?_; (case hy => (go_simp; with_reducible rfl)); ((try dsimp only); (try simp only [Act.put, List.setIfInBounds_toArray, List.set_cons_zero, List.set_cons_succ]))
        refine M_pure (i := 1) (v := ?_) rfl (by kernel_rfl) (by kernel_rfl) (by kernel_rfl) (fun _ _ _ h => h) (by rfl) ?hy ?_; (case hy => (intro w; go_simp; with_reducible rfl)); ((try dsimp only); (try simp only [Act.put, List.setIfInBounds_toArray, List.set_cons_zero, List.set_cons_succ]))
        refine M_pure (i := 2) (v := ?_) rfl (by kernel_rfl) (by kernel_rfl) (by kernel_rfl) (fun _ _ _ h => h) (by rfl) ?hy ?_; (case hy => (intro w; go_simp; with_reducible rfl)); ((try dsimp only); (try simp only [Act.put, List.setIfInBounds_toArray, List.set_cons_zero, List.set_cons_succ]))
        refine M_take (i := 3) (v := ?_) rfl (by kernel_rfl) (by kernel_rfl) (by kernel_rfl) (by kernel_rfl) (fun _ _ _ h => h) (by rfl) ?hy ?_; (case hy => (go_simp; with_reducible rfl)); ((try dsimp only); (try simp only [Act.put, List.setIfInBounds_toArray, List.set_cons_zero, List.set_cons_succ]))
        refine M_pure (i := 4) (v := ?_) rfl (by kernel_rfl) (by kernel_rfl) (by kernel_rfl) (fun _ _ _ h => h) (by rfl) ?hy ?_; (case hy => (intro w; go_simp; with_reducible rfl)); ((try dsimp only); (try simp only [Act.put, List.setIfInBounds_toArray, List.set_cons_zero, List.set_cons_succ]))
        refine M_pure (i := 5) (v := ?_) rfl (by kernel_rfl) (by kernel_rfl) (by kernel_rfl) (fun _ _ _ h => h) (by rfl) ?hy ?_; (case hy => (intro w; go_simp; with_reducible rfl)); ((try dsimp only); (try simp only [Act.put, List.setIfInBounds_toArray, List.set_cons_zero, List.set_cons_succ]))
        refine M_take (i := 6) (v := ?_) rfl (by kernel_rfl) (by kernel_rfl) (by kernel_rfl) (by kernel_rfl) (fun _ _ _ h => h) (by rfl) ?hy ?_; (case hy => (go_simp; with_reducible rfl)); ((try dsimp only); (try simp only [Act.put, List.setIfInBounds_toArray, List.set_cons_zero, List.set_cons_succ]))
        refine M_pure (i := 7) (v := ?_) rfl (by kernel_rfl) (by kernel_rfl) (by kernel_rfl) (fun _ _ _ h => h) (by rfl) ?hy ?_; (case hy => (intro w; go_simp; with_reducible rfl)); ((try dsimp only); (try simp only [Act.put, List.setIfInBounds_toArray, List.set_cons_zero, List.set_cons_succ]))
        refine M_eff (i := 8) rfl (by kernel_rfl) (by rfl) ?_
        go_wp2_with fail
        refine HWf.out.mono ?_
        rintro e Y ⟨rfl, hy1, hy2, hys, hyc⟩
        have HY := Lib.hid (And.intro hy1 (And.intro hy2 (And.intro hys (HZ.out.1.trans hyc))))
        clear hy1 hy2 hys hyc b1 b2 q3 hdw
        go_wp2_with fail
        refine ⟨trivial, ?_⟩
        ((try dsimp only); (try simp only [Act.put, List.setIfInBounds_toArray, List.set_cons_zero, List.set_cons_succ]))
        refine M_done (by kernel_rfl) (NoPanic.normal ?_) _
        go_wp2_with fail
        gi_wp2
        have hkw := HI.out.1 k HKi.out.2.2.2 (d + 1) Z.heap.size (Z.heap.size + 1) gK (oK + i * 4) (by rw [HKi.out.2.1]; exact HKi.out.1) HKi.out.2.2.1 (by omega) HD2.out
        have HKw := Lib.hid hkw
        clear hkw
        have hYS : S ≤ Y.heap.size := by have h1 := HSl.out.1; have h2 := HH.out.2.2.2.2.2.1.size; have h3 := H.out.2.2.2.1; have h4 := HZ.out.2; have h5 := HY.out.2.2.1; omega
        have hZS : S ≤ Z.heap.size := by have h1 := HSl.out.1; have h2 := HH.out.2.2.2.2.2.1.size; have h3 := H.out.2.2.2.1; have h4 := HZ.out.2; omega
        refine wp_rangeK (gf := 147) (lb := #[.pointer (some ⟨Z.heap.size, 0, none⟩), .pointer (some ⟨Z.heap.size + 1, 0, none⟩)]) rfl (enters_of Try.func147 (by kernel_rfl) rfl) HKw.out
          (fun l i x args W h => by obtain ⟨g, o, rfl, _⟩ := h; rfl)
          (fun j W' => J (1 + nodesL (t.kids.take i) + j) W' ∧ W'.heap[Z.heap.size]? = some (.cells #[.pointer (some ⟨gK, oK + i * 4, none⟩)] 103 (0, 0)) ∧ W'.heap[Z.heap.size + 1]? = some (.cells #[.int .i64 (d + 1)] 3 (0, 0)) ∧ Marks S Ds W' ∧ W1.heap.size ≤ W'.heap.size ∧ W'.heap[W.heap.size]? = some (.cells #[.func (.yield l) #[] #[]] 192 (0, 0)))
          (fun c W' => c = .ret ∧ Jx W' ∧ Marks S Ds W' ∧ W1.heap.size ≤ W'.heap.size)
          (fun j W' h => ⟨h.2.1, h.2.2.1, (HH.out.1 _ _ h.1).base⟩)
          (fun j W' W'' h hq => ⟨HH.out.2.1 _ _ _ h.1 (hq.mono hYS), hq.at h.2.1 rfl, hq.at h.2.2.1 rfl, h.2.2.2.1.quiet hq (fun D hD => ?hlowD), Nat.le_trans h.2.2.2.2.1 (by obtain ⟨L, h1, _⟩ := hq; exact h1.size), hq.at h.2.2.2.2.2 rfl⟩)
          (fun c W' W'' h hq => ⟨h.1, HH.out.2.2.1 _ _ h.2.1 (hq.mono hYS), h.2.2.1.quiet hq (fun D hD => ?hlowD2), Nat.le_trans h.2.2.2 (by obtain ⟨L, h1, _⟩ := hq; exact h1.size)⟩)
          ⟨HH.out.2.1 _ _ _ H.out.1 (.of_chg HY.out.2.2.2), HY.out.1, HY.out.2.1, H.out.2.1.chg HY.out.2.2.2, Nat.le_trans H.out.2.2.2.1 HY.out.2.2.2.size, HY.out.2.2.2.at H.out.2.2.2.2 (by simp)⟩ ?round ?done ?stop
        case hlowD => have h1 := H.out.2.2.1 D hD; have h2 := HY.out.2.2.2.size; omega
        case hlowD2 => have h1 := H.out.2.2.1 D hD; have h2 := HY.out.2.2.2.size; omega
        case round =>
          rintro l2 j x args W' ⟨hj, hb1, hb2, hm, hsz, hbx⟩ hx ⟨g', o', rfl, htr, hlow⟩ ⟨r, hr⟩ hl2
          have H5 := Lib.hid (And.intro hj (And.intro hb1 (And.intro hb2 (And.intro hm (And.intro hsz (And.intro hbx (And.intro hx htr)))))))
          clear hj hb1 hb2 hm hsz hbx hx htr hr
          gi_wp2
          refine ⟨Above.refl _ _, fun W2' hc2 hq2 => ?_⟩
          have hj2 := HH.out.2.1 _ _ _ H5.out.1 (hq2.mono hYS)
          have hst := HH.out.1 _ _ hj2
          have hYW : S ≤ W2'.heap.size := by
            obtain ⟨L, h1, _⟩ := hq2
            have h2 := lt_of_block H5.out.2.1
            have h3 := h1.size
            have h4 := HSl.out.1; have h5 := HH.out.2.2.2.2.2.1.size; have h6 := H5.out.2.2.2.2.1
            omega
          obtain ⟨fn2, tmps2, assign2, body2, hy2, hR2⟩ := HH.out.2.2.2.1 (1 + nodesL (t.kids.take i) + j) x #[.pointer (some ⟨g', o', none⟩), .int .i64 x.2] W2' hj2 hYW (t.walk_at d i j hlt x (by rw [← HKi.out.2.1]; exact H5.out.2.2.2.2.2.2.1)) ⟨g', o', rfl, H5.out.2.2.2.2.2.2.2.base hlow (fun k hk => (hst.base k hk).trans ((HH.out.1 _ _ H5.out.1).base k hk).symm), hlow⟩
          have c3 := cellOne (hq2.at H5.out.2.2.2.2.2.1 rfl)
          have H6 := Lib.hid (And.intro hR2 (And.intro hq2 (And.intro hst hYW)))
          clear hj2 hst hR2 hq2 hc2 hYW
          gi_wp2
          refine ⟨rfl, ?_⟩
          refine H6.out.1.mono ?_
          clear hy2 c3
          rintro e W3 ⟨(⟨rfl, hj⟩ | ⟨rfl, hjx⟩), hab⟩
          · have H7 := Lib.hid (And.intro hj hab)
            clear hj hab
            gi_wp2
            exact ⟨H7.out.2.mono hYS, H7.out.1, H7.out.2.at (H6.out.2.1.at H5.out.2.1 rfl) (by omega), H7.out.2.at (H6.out.2.1.at H5.out.2.2.1 rfl) (by omega), (H5.out.2.2.2.1.quiet H6.out.2.1 (fun D hD => by have h1 := H.out.2.2.1 D hD; have h2 := HY.out.2.2.2.size; omega)).above H7.out.2 (Nat.le_refl _), Nat.le_trans H5.out.2.2.2.2.1 (Nat.le_trans (by obtain ⟨L, h1, _⟩ := H6.out.2.1; exact h1.size) H7.out.2.1), H7.out.2.at (H6.out.2.1.at H5.out.2.2.2.2.2.1 rfl) HSl.out.1⟩
          · have H7 := Lib.hid (And.intro hjx hab)
            clear hjx hab
            gi_wp2
            exact ⟨H7.out.2.mono hYS, rfl, H7.out.1, (H5.out.2.2.2.1.quiet H6.out.2.1 (fun D hD => by have h1 := H.out.2.2.1 D hD; have h2 := HY.out.2.2.2.size; omega)).above H7.out.2 (Nat.le_refl _), Nat.le_trans H5.out.2.2.2.2.1 (Nat.le_trans (by obtain ⟨L, h1, _⟩ := H6.out.2.1; exact h1.size) H7.out.2.1)⟩
        case done =>
          rintro D W' hD ⟨hj, hb1, hb2, hm, hsz, hbx⟩ hK2
          have H5 := Lib.hid (And.intro hj (And.intro hm (And.intro hsz (And.intro hbx hK2))))
          clear hj hb1 hb2 hm hsz hbx hK2
          gi_wp2
          have hdl : ∀ E ∈ Ds, E < D := fun E hE => by have h1 := H.out.2.2.1 E hE; have h2 := HY.out.2.2.2.size; omega
          have hm2 := H5.out.2.1.push hdl (by omega) H5.out.2.2.2.2
          refine ⟨⟨i + 1, D :: Ds, _, _, _, _, _, _, _, _, _, _, _, _, _, _, _, _, _, _, _, _, _, _, by omega, rfl, Lib.hid ⟨?_, hm2, fun E hE => lt_of_block (hm2.2 E hE).2, H5.out.2.2.1, H5.out.2.2.2.1⟩⟩, ?_⟩
          · have h := H5.out.1
            rw [Tr.walk_length, HKi.out.2.1] at h
            rw [nodesL_take t.kids i hlt]
            rw [show 1 + (nodesL (t.kids.take i) + (t.kids[i]).nodes) = 1 + nodesL (t.kids.take i) + (t.kids[i]).nodes by omega]
            exact h
          · simp [intOf]
            omega
        case stop =>
          rintro D c W' hD ⟨rfl, hjx, hm, hsz⟩ hK2
          have H5 := Lib.hid (And.intro hjx (And.intro hm (And.intro hsz hK2)))
          clear hjx hm hsz hK2
          gi_wp2
          have hdl : ∀ E ∈ Ds, E < D := fun E hE => by have h1 := H.out.2.2.1 E hE; have h2 := HY.out.2.2.2.size; omega
          refine marks_ret (D :: Ds) W' (H5.out.2.1.push hdl (by omega) H5.out.2.2.2) (fun w' hq => ⟨_, results_none rfl _ _ _, ⟨_, rfl⟩, .inr (HH.out.2.2.1 _ _ H5.out.1 hq), ?_⟩)
          obtain ⟨L, h1, _⟩ := hq
          exact Nat.le_trans (Nat.le_trans HH.out.2.2.2.2.2.1.size H5.out.2.2.1) h1.size
      · obtain rfl : i = t.kids.length := by omega
        gi_wp2
        refine marks_ret Ds wr H.out.2.1 (fun w' hq => ⟨_, results_none rfl _ _ _, ⟨_, rfl⟩, .inl ?_, ?_⟩)
        · have h := HH.out.2.1 _ _ _ H.out.1 hq
          rw [List.take_of_length_le (Nat.le_refl _)] at h
          rw [Tr.walk_length, t.nodes_eq]
          exact h
        · obtain ⟨L, h1, _⟩ := hq
          exact Nat.le_trans (Nat.le_trans HH.out.2.2.2.2.2.1.size H.out.2.2.2.1) h1.size
  · have H2 := Lib.hid (And.intro hjx hab)
    clear hjx hab
    gi_wp2
    exact ⟨_, results_none rfl _ _ _, ⟨_, rfl⟩, .inr H2.out.1, Nat.le_trans HH.out.2.2.2.2.2.1.size H2.out.2.1⟩
end Go.Proofs.Ytofjocjljbkjgaa
namespace Go.Proofs.Ytofjocjljbkjgaa
open Go.RowKit
attribute [local go_sem] Oper.semAt_some
structure Cnt (w : World) (B g o n : Nat) (j : Nat) (r : Bool) (W : World) : Prop where
  rb : W.heap[n]? = some (.cells #[.bool r] 4 (0, 0))
  cb : W.heap[n + 1]? = some (.cells #[.int .i64 j] 3 (0, 0))
  st : StW w B (n + 2) (n + 2 + 1) g o 1 W
  chg : Chg [] w W
theorem StW.quiet {Wb : World} {B p1 p2 g o S : Nat} {d : Int} {W W' : World} (h : StW Wb B p1 p2 g o d W) (hq : Quiet S W W') (hB : B ≤ S) (hp : B ≤ p1) : StW Wb B p1 p2 g o d W' := by
  refine ⟨hq.at h.b1 rfl, hq.at h.b2 rfl, fun k hk => ?_⟩
  obtain ⟨L, h1, h2⟩ := hq
  have hl1 := lt_of_block h.b1
  rw [← h.base k hk]
  exact h1.block k (by omega) (fun hm => by have := (h2 k hm).1; omega)
theorem StW.chg {Wb : World} {B p1 p2 g o : Nat} {d : Int} {W W' : World} {L : List Nat} (h : StW Wb B p1 p2 g o d W) (hc : Chg L W W') (h1 : p1 ∉ L) (h2 : p2 ∉ L) (hL : ∀ k ∈ L, B ≤ k) (hp : B ≤ p1) : StW Wb B p1 p2 g o d W' :=
  ⟨hc.at h.b1 h1, hc.at h.b2 h2, fun k hk => by
    have hl1 := lt_of_block h.b1
    rw [← h.base k hk]
    exact hc.block k (by omega) (fun hm => by have := hL k hm; omega)⟩
theorem Cnt.quiet {w W W' : World} {B g o n j S : Nat} {r : Bool} (h : Cnt w B g o n j r W) (hq : Quiet S W W') (hS : n + 2 + 1 < S) (hw : w.heap.size ≤ n) (hB : B ≤ n) : Cnt w B g o n j r W' :=
  ⟨hq.at h.rb rfl, hq.at h.cb rfl, h.st.quiet hq (by omega) (by omega), hq.chg h.chg (by omega)⟩
theorem cnt_ret {w W : World} {B g o n j D : Nat} {r : Bool} (h : Cnt w B g o n j r W) (hD : n + 2 + 1 < D) (hw : w.heap.size ≤ n) (hK : W.heap[D]? = some (.deferred (some []))) (a : Act) (hd : a.defers = [{ target := .collected D, args := #[] }]) (h2 : a.tmps.getD 2 undef = .pointer (some ⟨n, 0, none⟩)) :
    bodyPostM W0 0 Try.prog Try.f122 (fun e w' => e = .returned (.bool r) ∧ Chg [] w w') .ret a W := by
  have hP : Chg [D] W (W.putObj D (.deferred none)) := ⟨rfl, rfl, rfl, by simp, fun j _ hj => World.putObj_heap_other (by simpa using hj)⟩
  have k2 := cellOne (hP.at h.rb (by simp <;> omega))
  have h2' : a.tmps[2]?.getD undef = .pointer (some ⟨n, 0, none⟩) := by simpa using h2
  refine bodyM_ret hd hK (v := .bool r) ?_ ⟨rfl, h.chg.andThen hP (fun j hj => .inr (by simp at hj; omega))⟩
  simp [results, Try.results122, go_sem, h2', k2]
set_option maxHeartbeats 8000000 in
set_option maxRecDepth 100000 in
theorem many_any (B g o : Nat) (t : Tr) (w : World) (hT : TrAt (fun b => b < B) w g o t) (hg : g < B) (hB : B ≤ w.heap.size) (hn : 1 + t.nodes ≤ 1000000) : Calls Try.prog 122 #[.pointer (some ⟨g, o, none⟩)] w fun e w' => e = .returned (.bool (decide (200 < t.nodes))) ∧ Chg [] w w' := by
  have HT := Lib.hid hT
  clear hT
  refine callsIn_wide.1 (callsIn_of_wp_marks (n := 0) Try.func122 rfl trivial ?_)
  simp only [Try.ntmps122, List.size_toArray, List.length_cons, List.length_nil, Nat.reduceAdd, Nat.reduceSub, Array.replicate_succ, Array.replicate_zero, List.push_toArray, List.append_toArray, List.nil_append, List.cons_append]
  obtain ⟨W1, hW1⟩ : ∃ W1, W1 = (w.alloc (.cells #[.bool false] 4)).alloc (.cells #[.int .i64 0] 3) := ⟨_, rfl⟩
  have hc1 : Chg [] w W1 := by rw [hW1]; exact (by with_reducible repeat (first | exact Chg.refl _ _ | apply Chg.alloc | apply Chg.drew | apply Chg.drewN | (refine Chg.setCell ?_ _ _ (by simp))))
  have hb1 : W1.heap[w.heap.size]? = some (.cells #[.bool false] 4 (0, 0)) := by rw [hW1]; exact heap_old (heap_new _ _ rfl) _
  have hb2 : W1.heap[w.heap.size + 1]? = some (.cells #[.int .i64 0] 3 (0, 0)) := by rw [hW1]; exact heap_new _ _ (by simp)
  have hs1 : W1.heap.size = w.heap.size + 2 := by rw [hW1]; simp
  have HW := Lib.hid (And.intro hc1 (And.intro hb1 (And.intro hb2 (And.intro hs1 hW1))))
  clear hc1 hb1 hb2 hs1 hW1
  gi_wp2_with (skip; fail)
  refine ⟨trivial, rfl, ?_⟩
  gi_at_call 123
  rw [← HW.out.2.2.2.2]
  refine (callsIn_wide.2 (walkf_any g o 1 W1)).mono ?_
  rintro e X ⟨rfl, hx1, hx2, hxs, hxc⟩
  rw [HW.out.2.2.2.1] at hx1 hx2 hxs
  have hC : Cnt w B g o w.heap.size 0 false X := ⟨hxc.at HW.out.2.1 (by simp), hxc.at HW.out.2.2.1 (by simp), ⟨hx1, hx2, fun k hk => (hxc.block k (by have := HW.out.2.2.2.1; omega) (by simp)).trans (HW.out.1.block k (by omega) (by simp))⟩, HW.out.1.trans hxc⟩
  have HC := Lib.hid (And.intro hC hxs)
  have hW2 := HW.out.2.2.2.1
  clear hx1 hx2 hxs hxc hC
  gi_wp2
  refine wp_rangeK (gf := 147) (lb := #[.pointer (some ⟨w.heap.size + 2, 0, none⟩), .pointer (some ⟨w.heap.size + 2 + 1, 0, none⟩)]) rfl (enters_of Try.func147 (by kernel_rfl) rfl) (walk_iter B w t 1 (w.heap.size + 2) (w.heap.size + 2 + 1) g o HT.out hg (by omega) (by omega))
    (fun l i x args W h => by obtain ⟨g, o, rfl, _⟩ := h; rfl)
    (fun j W => Cnt w B g o w.heap.size j false W ∧ j ≤ 200) (fun c W => c = .ret ∧ Cnt w B g o w.heap.size 201 true W ∧ 200 < t.nodes)
    (fun j W h => h.1.st) (fun j W W' h hq => ⟨h.1.quiet hq (by have := HC.out.2; omega) (Nat.le_refl _) hB, h.2⟩) (fun c W W' h hq => ⟨h.1, h.2.1.quiet hq (by have := HC.out.2; omega) (Nat.le_refl _) hB, h.2.2⟩) ⟨HC.out.1, by omega⟩ ?round ?done ?stop
  case round =>
    rintro l j x args W ⟨hC, hj⟩ hx ⟨g', o', rfl, _⟩ hl hlB
    have hjn : j < t.nodes := by have := (List.getElem?_eq_some_iff.1 hx).1; rwa [Tr.walk_length] at this
    have H1 := Lib.hid hC
    clear hC hx hl
    gi_wp2
    refine ⟨Above.refl _ _, fun W2 hc2 hq2 => ?_⟩
    have hC2 := H1.out.quiet hq2 (by have := HC.out.2; omega) (Nat.le_refl _) hB
    have c2 := cellOne hC2.rb
    have c3 := cellOne hC2.cb
    have f2 := blkF hC2.rb 0
    have f3 := blkF hC2.cb 0
    have hS1 : Chg [w.heap.size + 1] W2 (W2.setCell ⟨w.heap.size + 1, 0, none⟩ (.int .i64 (j + 1 : Nat))) := (Chg.refl _ _).setCell _ _ (by simp)
    have hC3 : Cnt w B g o w.heap.size (j + 1) false (W2.setCell ⟨w.heap.size + 1, 0, none⟩ (.int .i64 (j + 1 : Nat))) :=
      ⟨hS1.at hC2.rb (by simp), heap_setCell_same _ _ 0 _ _ _ hC2.cb, hC2.st.chg hS1 (by simp <;> omega) (by simp <;> omega) (by simp <;> omega) (by omega), hC2.chg.andThen hS1 (by simp)⟩
    have hS2 : Chg [w.heap.size] (W2.setCell ⟨w.heap.size + 1, 0, none⟩ (.int .i64 (j + 1 : Nat))) ((W2.setCell ⟨w.heap.size + 1, 0, none⟩ (.int .i64 (j + 1 : Nat))).setCell ⟨w.heap.size, 0, none⟩ (.bool true)) := (Chg.refl _ _).setCell _ _ (by simp)
    have hC4 : Cnt w B g o w.heap.size (j + 1) true ((W2.setCell ⟨w.heap.size + 1, 0, none⟩ (.int .i64 (j + 1 : Nat))).setCell ⟨w.heap.size, 0, none⟩ (.bool true)) :=
      ⟨heap_setCell_same _ _ 0 _ _ _ hC3.rb, hS2.at hC3.cb (by simp), hC3.st.chg hS2 (by simp <;> omega) (by simp <;> omega) (by simp <;> omega) (by omega), hC3.chg.andThen hS2 (by simp)⟩
    have H2 := Lib.hid (And.intro hC3 (And.intro hC4 (And.intro hS1 hS2)))
    have hXs := HC.out.2
    clear hC2 hS1 hC3 hS2 hC4 hc2 hq2
    by_cases h2 : 200 < j + 1
    · have d1 : decide (200 < (j : Int) + 1) = true := decide_eq_true (by omega)
      obtain rfl : j = 200 := by omega
      gi_wp2
      exact ⟨Above.of_chg (H2.out.2.2.1.mono (l' := [w.heap.size + 1, w.heap.size]) (by simp)) (by simp <;> omega) |>.trans (Above.of_chg H2.out.2.2.2 (by simp <;> omega)), rfl, H2.out.2.1, hjn⟩
    · have d1 : decide (200 < (j : Int) + 1) = false := decide_eq_false (by omega)
      gi_wp2
      exact ⟨Above.of_chg H2.out.2.2.1 (by simp <;> omega), H2.out.1, by omega⟩
  case done =>
    rintro D W hD ⟨hC, hj⟩ hK
    have c2 := cellOne hC.rb
    have f2 := blkF hC.rb 0
    have hS2 : Chg [w.heap.size] W (W.setCell ⟨w.heap.size, 0, none⟩ (.bool false)) := (Chg.refl _ _).setCell _ _ (by simp)
    have hC4 : Cnt w B g o w.heap.size (t.walk 1).length false (W.setCell ⟨w.heap.size, 0, none⟩ (.bool false)) :=
      ⟨heap_setCell_same _ _ 0 _ _ _ hC.rb, hS2.at hC.cb (by simp), hC.st.chg hS2 (by simp <;> omega) (by simp <;> omega) (by simp <;> omega) (by omega), hC.chg.andThen hS2 (by simp)⟩
    have H1 := Lib.hid (And.intro hC4 (hS2.at hK (by simp; have := HC.out.2; omega)))
    have hXs := HC.out.2
    rw [Tr.walk_length] at hj
    clear hC hK hS2 hC4
    gi_wp2
    rw [decide_eq_false (by omega)]
    exact cnt_ret H1.out.1 (by omega) (Nat.le_refl _) H1.out.2 _ rfl rfl
  case stop =>
    rintro D c W hD ⟨rfl, hC, hn2⟩ hK
    have H1 := Lib.hid (And.intro hC hK)
    have hXs := HC.out.2
    clear hC hK
    gi_wp2
    rw [decide_eq_true hn2]
    exact cnt_ret H1.out.1 (by omega) (Nat.le_refl _) H1.out.2 _ rfl rfl
end Go.Proofs.Ytofjocjljbkjgaa
namespace Go.Proofs.Ytofjocjljbkjgaa
open Go.RowKit
def idKey (n : Int) : Value := .agg #[.int .i64 n]
def idLit (n : Int) : Lit := .string (keyBytes [.int .i64 n])
theorem idLaw : WideMaps.KeyLaw Try.prog 173 := deep_law (m := 2) (by omega) (by kernel_rfl) (by kernel_rfl) (by kernel_rfl)
theorem keyOf_id (n : Int) (h : (Lit.int .i64 n).wf = true) : keyOf Try.prog 173 (idKey n) = some (idLit n) := by
  have h1 : Try.prog.keyType 173 = true := by kernel_rfl
  have h2 : (idKey n).formed Try.prog 173 = true := by unfold idKey; kernel_rfl
  have hk : Try.prog.keyLits (Try.prog.types.size + 1) 173 (idKey n).cells.toList = some [.int .i64 n] := by
    have hpos : (decide (0 < Try.prog.types.size)) = true := by kernel_rfl
    have hpos := of_decide_eq_true hpos
    obtain ⟨m, hm⟩ : ∃ m, Try.prog.types.size + 1 = m + 1 + 1 := ⟨Try.prog.types.size - 1, by omega⟩
    rw [hm]
    have hu := Try.underlying173
    have hc : Try.prog.cellsOf 173 = 1 := by kernel_rfl
    have hc2 : Try.prog.cellsOf 3 = 1 := by kernel_rfl
    simp [Program.keyLits, hu, hc, hc2, idKey, Value.cells, Try.underlying3, h]
  unfold keyOf
  have hu := Try.underlying173
  rw [hu]
  simp only []
  rw [hk, h1, h2]
  rfl
theorem idLit_inj {a b : Int} (ha : (Lit.int .i64 a).wf = true) (hb : (Lit.int .i64 b).wf = true) (h : idLit a = idLit b) : a = b := by
  have := idLaw.inj (keyOf_id a ha) (by rw [h]; exact keyOf_id b hb)
  unfold idKey at this
  simpa using this
def Seen (w : World) (b : Nat) (l : List Int) : Prop := ∃ D : DataW Unit, w.ownsMap Try.prog 173 (plainElem Try.prog 4) b l.length D ∧ Maps.IsMap D ∧ ∀ n, (Lit.int .i64 n).wf = true → D.atKey (idLit n) (.lit (.bool false)) = .lit (.bool (decide (n ∈ l)))
theorem Seen.made (w : World) : Seen (w.alloc (.map #[] 0)) w.heap.size [] := ⟨.map [], World.ownsMap_made _ _ _ _, Maps.isMap_empty, fun n _ => by simp [DataW.atKey]⟩
theorem Seen.look {w : World} {b : Nat} {l : List Int} (h : Seen w b l) (n : Int) (hn : (Lit.int .i64 n).wf = true) : (Instr.lookup 168 (.map (some b)) (idKey n) false).run Try.prog w = .ok (.bool (decide (n ∈ l))) w := by
  obtain ⟨D, h1, h2, h3⟩ := h
  have hz : (zeroValue 4).run Try.prog w = .ok (.bool false) w := by kernel_rfl
  obtain ⟨v, ps, hr, hv⟩ := h1.lookup (Maps.Keyed.of_law idLaw) Try.underlying168 hz (plainElem_bool Try.underlying4 false) (keyOf_id n hn)
  rw [h3 n hn] at hv
  have : v = .bool (decide (n ∈ l)) := by
    unfold plainElem at hv
    rw [show Try.prog.underlying 4 = some .bool from Try.underlying4] at hv
    cases v <;> simp at hv
    obtain ⟨h4, _⟩ := hv
    rw [h4]
  rw [← this]
  exact hr
theorem Seen.put {w : World} {b : Nat} {l : List Int} (h : Seen w b l) (n : Int) (hn : (Lit.int .i64 n).wf = true) (hl : l.length < 1000000) :
    ∃ w', (Instr.mapUpdate 168 (.map (some b)) (idKey n) (.bool true)).run Try.prog w = .ok () w' ∧ Seen w' b (l ++ [n]) ∧ Chg [b] w w' := by
  obtain ⟨D, h1, h2, h3⟩ := h
  obtain ⟨w', hr, ho, hg⟩ := h1.update (Maps.Keyed.of_law idLaw) Try.underlying168 (by unfold maxLen; omega) (keyOf_id n hn) (plainElem_bool Try.underlying4 true)
  refine ⟨w', hr, ⟨_, by rw [List.length_append]; exact ho, h2.put _ _, fun m hm => ?_⟩, Chg.grown (Chg.refl _ _) hg (by intro k hk; simp at hk; simp [hk])⟩
  by_cases e : m = n
  · subst e
    rw [Maps.atKey_put_same h2 (by unfold idLit; trivial)]
    simp
  · rw [Maps.atKey_put_other (fun h => e (idLit_inj hm hn h)), h3 m hm]
    simp [e]
end Go.Proofs.Ytofjocjljbkjgaa
namespace Go.Proofs.Ytofjocjljbkjgaa
open Go.RowKit
attribute [local go_sem] Oper.semAt_some
structure SubB (g : Gr) (A : Option Addr) (c : Nat) (t : Tr) (B : Option Addr) (d : Nat) (w : World) (a z : Int) (W : World) : Prop where
  g : W.heap[w.heap.size]? = some (.cells #[.slice A g.kinds.length c, .int .i64 g.root] 43 (0, 0))
  t : W.heap[w.heap.size + 1]? = some (.cells #[.int .i64 (Tr.id t), .int .i64 (Tr.kind t), .string (Tr.text t), .slice B (Tr.kids t).length d] 24 (0, 0))
  a : W.heap[w.heap.size + 2]? = some (.cells #[.int .i64 a] 3 (0, 0))
  z : W.heap[w.heap.size + 3]? = some (.cells #[.int .i64 z] 36 (0, 0))
  chg : Chg [] w W
theorem SubB.kept {g : Gr} {A : Option Addr} {c : Nat} {t : Tr} {B : Option Addr} {d : Nat} {w W W' : World} {a z : Int} (h : SubB g A c t B d w a z W) (hc : Chg [] W W') : SubB g A c t B d w a z W' :=
  ⟨hc.at h.g (by simp), hc.at h.t (by simp), hc.at h.a (by simp), hc.at h.z (by simp), h.chg.trans hc⟩
theorem SubB.quiet {g : Gr} {A : Option Addr} {c : Nat} {t : Tr} {B : Option Addr} {d S : Nat} {w W W' : World} {a z : Int} (h : SubB g A c t B d w a z W) (hq : Quiet S W W') (hS : w.heap.size ≤ S) : SubB g A c t B d w a z W' :=
  ⟨hq.at h.g rfl, hq.at h.t rfl, hq.at h.a rfl, hq.at h.z rfl, hq.chg h.chg hS⟩
theorem SubB.store {g : Gr} {A : Option Addr} {c : Nat} {t : Tr} {B : Option Addr} {d : Nat} {w W : World} {a z a' z' : Int} (h : SubB g A c t B d w a z W) :
    SubB g A c t B d w a' z' ((W.setCell ⟨w.heap.size + 2, 0, none⟩ (.int .i64 a')).setCell ⟨w.heap.size + 3, 0, none⟩ (.int .i64 z')) ∧ Chg [w.heap.size + 2, w.heap.size + 3] W ((W.setCell ⟨w.heap.size + 2, 0, none⟩ (.int .i64 a')).setCell ⟨w.heap.size + 3, 0, none⟩ (.int .i64 z')) := by
  have hS : Chg [w.heap.size + 2, w.heap.size + 3] W ((W.setCell ⟨w.heap.size + 2, 0, none⟩ (.int .i64 a')).setCell ⟨w.heap.size + 3, 0, none⟩ (.int .i64 z')) := ((Chg.refl _ _).setCell _ _ (by simp)).setCell _ _ (by simp)
  refine ⟨⟨hS.at h.g (by simp), hS.at h.t (by simp), ?_, ?_, h.chg.andThen hS (fun j hj => .inr (by simp at hj; omega))⟩, hS⟩
  · exact ((Chg.refl [w.heap.size + 3] _).setCell _ _ (by simp)).at (heap_setCell_same _ _ 0 _ _ _ h.a) (by simp)
  · exact heap_setCell_same _ _ 0 _ _ _ (((Chg.refl [w.heap.size + 2] _).setCell _ _ (by simp)).at h.z (by simp))
theorem sub_ret {g : Gr} {A : Option Addr} {c : Nat} {t : Tr} {B : Option Addr} {d n : Nat} {w W : World} {a z : Int} {p : Prop} (h : SubB g A c t B d w a z W) (Ds : List Nat) (hM : Marks n Ds W) (hn : w.heap.size ≤ n) (hp : (z = 0 ↔ g.Ok ∧ p) ∧ (z = 0 ∨ (z = 50 ∧ ¬ g.Ok) ∨ (z = 70 ∧ g.Ok))) (ac : Act) (hd : ac.defers = Ds.map mark)
    (h4 : ac.tmps.getD 4 undef = .pointer (some ⟨w.heap.size + 2, 0, none⟩)) (h5 : ac.tmps.getD 5 undef = .pointer (some ⟨w.heap.size + 3, 0, none⟩)) :
    bodyPostM W0 0 Try.prog Try.f88 (ConfPost p g w) .ret ac W := by
  show LeavesInM W0 0 Try.prog Try.f88 ac.tmps (ConfPost p g w) ac.defers .returning W
  rw [hd]
  refine marks_ret Ds W hM (fun w' hq => ⟨.tuple #[.int .i64 a, .int .i64 z], ?_, a, z, rfl, hp.1, hp.2, hq.chg h.chg hn⟩)
  have k4 := cellOne (hq.at h.a rfl)
  have k5 := cellOne (hq.at h.z rfl)
  have h4' : ac.tmps[4]?.getD undef = .pointer (some ⟨w.heap.size + 2, 0, none⟩) := by simpa using h4
  have h5' : ac.tmps[5]?.getD undef = .pointer (some ⟨w.heap.size + 3, 0, none⟩) := by simpa using h5
  simp [results, Try.results88, go_sem, h4', h5', k4, k5]
theorem Seen.at {W W' : World} {b : Nat} {l : List Int} (h : Seen W b l) (hb : ∀ es cl, W.heap[b]? = some (.map es cl) → W'.heap[b]? = some (.map es cl)) : Seen W' b l := by
  obtain ⟨D, ⟨es, cl, h1, h2⟩, h3⟩ := h
  exact ⟨D, ⟨es, cl, hb es cl h1, h2⟩, h3⟩
structure InS (g : Gr) (A : Option Addr) (c : Nat) (t : Tr) (B : Option Addr) (d : Nat) (w V : World) (m j : Nat) (W : World) : Prop where
  box : SubB g A c t B d w 0 0 W
  mp : W.heap[m + 1]? = some (.cells #[.map (some m)] 168 (0, 0))
  at' : W.heap[m + 2]? = some (.cells #[.int .i64 j] 3 (0, 0))
  seen : Seen W m (((t.walk 1).take j).map (·.1.id))
  st : StW V (w.heap.size + 2) V.heap.size (V.heap.size + 1) (w.heap.size + 1) 0 1 W
  good : GoodTo g (t.walk 1) j
theorem InS.quiet {g : Gr} {A : Option Addr} {c : Nat} {t : Tr} {B : Option Addr} {d m j S : Nat} {w V W W' : World} (h : InS g A c t B d w V m j W) (hq : Quiet S W W') (hS : w.heap.size + 2 ≤ S) (hV : w.heap.size + 2 ≤ V.heap.size) : InS g A c t B d w V m j W' :=
  ⟨h.box.quiet hq (by omega), hq.at h.mp rfl, hq.at h.at' rfl, h.seen.at (fun es cl hb => hq.at hb rfl), h.st.quiet hq hS hV, h.good⟩
set_option maxHeartbeats 16000000 in
set_option maxRecDepth 100000 in
theorem gsub_any (g : Gr) (A : Option Addr) (c : Nat) (t : Tr) (B : Option Addr) (d : Nat) (w : World) (hG : GrC w A c g.kinds) (hT : TrC (fun b => b < w.heap.size) w t [.int .i64 (Tr.id t), .int .i64 (Tr.kind t), .string (Tr.text t), .slice B (Tr.kids t).length d]) (hn : 1 + t.nodes ≤ 1000000) :
    Calls Try.prog 88 #[.agg #[.slice A g.kinds.length c, .int .i64 g.root], .agg #[.int .i64 (Tr.id t), .int .i64 (Tr.kind t), .string (Tr.text t), .slice B (Tr.kids t).length d]] w (ConfPost (SubOk g t) g w) := by
  have hgl : g.kinds.length ≤ 9223372036854775807 := by have := hG.cap; have := hG.big; omega
  obtain ⟨W1, hW1⟩ : ∃ W1, W1 = (((w.alloc (.cells #[.slice A g.kinds.length c, .int .i64 g.root] 43)).alloc (.cells #[.int .i64 (Tr.id t), .int .i64 (Tr.kind t), .string (Tr.text t), .slice B (Tr.kids t).length d] 24)).alloc (.cells #[.int .i64 0] 3)).alloc (.cells #[.int .i64 0] 36) := ⟨_, rfl⟩
  have hs1 : W1.heap.size = w.heap.size + 4 := by rw [hW1]; simp
  have hB : SubB g A c t B d w 0 0 W1 := by
    rw [hW1]
    exact ⟨heap_old (heap_old (heap_old (heap_new _ _ rfl) _) _) _, heap_old (heap_old (heap_new _ _ (by simp)) _) _, heap_old (heap_new _ _ (by simp)) _, heap_new _ _ (by simp), (by with_reducible repeat (first | exact Chg.refl _ _ | apply Chg.alloc | apply Chg.drew | apply Chg.drewN | (refine Chg.setCell ?_ _ _ (by simp))))⟩
  have hroot : TrAt (fun b => b < w.heap.size + 2) W1 (w.heap.size + 1) 0 t := ⟨[.int .i64 (Tr.id t), .int .i64 (Tr.kind t), .string (Tr.text t), .slice B (Tr.kids t).length d], range_all hB.t, ((hT.kept hB.chg (by simp)).weak (fun b hb _ => by omega))⟩
  have HG := Lib.hid (And.intro hG (And.intro hB (And.intro hW1 (And.intro hs1 hroot))))
  obtain ⟨a0, a1⟩ := cell2 hB.g
  have a2 := cellOne hB.a
  have a3 := cellOne hB.z
  have f2 := blkF hB.a 0
  have f3 := blkF hB.z 0
  rw [hW1] at a0 a1 a2 a3 f2 f3
  clear hG hT hB hW1 hs1 hroot
  refine callsIn_wide.1 (callsIn_of_wp_marks (n := 0) Try.func88 rfl trivial ?_)
  simp only [Try.ntmps88, List.size_toArray, List.length_cons, List.length_nil, Nat.reduceAdd, Nat.reduceSub, Array.replicate_succ, Array.replicate_zero, List.push_toArray, List.append_toArray, List.nil_append, List.cons_append]
  gi_wp2_with (skip; fail)
  refine ⟨trivial, rfl, ?_⟩
  gi_at_call 109
  rw [← HG.out.2.2.1]
  refine (callsIn_wide.2 (gcheck_any g A c W1 (HG.out.1.kept HG.out.2.1.chg))).mono ?_
  rintro e X ⟨z, rfl, hz, hzz, hcx⟩
  have HX := Lib.hid (And.intro (HG.out.2.1.kept hcx) hcx)
  clear hcx a0 a1 a2 a3 f2 f3
  by_cases hz0 : z = 0
  · subst hz0
    have HOk := Lib.hid (hz.1 rfl)
    clear hz hzz
    have hX4 : w.heap.size + 4 ≤ X.heap.size := by have h1 := HG.out.2.2.2.1; have h2 := HX.out.2.size; omega
    have hmany := many_any (w.heap.size + 2) (w.heap.size + 1) 0 t X (HG.out.2.2.2.2.kept HX.out.2 (by simp) (by simp)) (by omega) (by omega) hn
    have HM := Lib.hid hmany
    clear hmany
    gi_wp2_with (skip; fail)
    refine ⟨trivial, rfl, ?_⟩
    gi_at_call 122
    refine (callsIn_wide.2 HM.out).mono ?_
    rintro e Y ⟨rfl, hcy⟩
    have HY := Lib.hid (And.intro (HX.out.1.kept hcy) (HX.out.2.trans hcy))
    clear hcy
    by_cases h200 : 200 < t.nodes
    · rw [decide_eq_true h200]
      have HN := Lib.hid (show ¬ SubOk g t from fun h => by have := h.1; omega)
      have b2 := cellOne HY.out.1.a
      have b3 := cellOne HY.out.1.z
      have g2 := blkF HY.out.1.a 0
      have g3 := blkF HY.out.1.z 0
      obtain ⟨hst, _⟩ := HY.out.1.store (a' := 0) (z' := 70)
      have HSt := Lib.hid hst
      clear hst
      gi_wp2
      exact sub_ret HSt.out [] (Marks.nil _ _) (Nat.le_refl _) ⟨by simp [HN.out], .inr (.inr ⟨rfl, HOk.out⟩)⟩ _ rfl rfl rfl
    · rw [decide_eq_false h200]
      have hY4 : w.heap.size + 4 ≤ Y.heap.size := by have h1 := HY.out.2.size; have h2 := HG.out.2.2.2.1; omega
      obtain ⟨V, hV⟩ : ∃ V, V = ((Y.alloc (.map #[] 0)).alloc (.cells #[.map (some Y.heap.size)] 168)).alloc (.cells #[.int .i64 0] 3) := ⟨_, rfl⟩
      have hVc : Chg [] Y V := by rw [hV]; exact (by with_reducible repeat (first | exact Chg.refl _ _ | apply Chg.alloc | apply Chg.drew | apply Chg.drewN | (refine Chg.setCell ?_ _ _ (by simp))))
      have hVs : V.heap.size = Y.heap.size + 3 := by rw [hV]; simp
      have hVm : Seen V Y.heap.size [] := by
        obtain ⟨D, h1, h2, h3⟩ := Seen.made Y
        rw [hV]
        exact ⟨D, (h1.alloc _).alloc _, h2, h3⟩
      have hV1 : V.heap[Y.heap.size + 1]? = some (.cells #[.map (some Y.heap.size)] 168 (0, 0)) := by rw [hV]; exact heap_old (heap_new _ _ (by simp)) _
      have hV2 : V.heap[Y.heap.size + 2]? = some (.cells #[.int .i64 0] 3 (0, 0)) := by rw [hV]; exact heap_new _ _ (by simp)
      have HV := Lib.hid (And.intro hVc (And.intro hVs (And.intro hVm (And.intro hV1 (And.intro hV2 hV)))))
      clear hVc hVs hVm hV1 hV2 hV
      have hmm := @run_makeMap Try.prog
      gi_wp2_with (skip; fail)
      refine ⟨trivial, rfl, ?_⟩
      gi_at_call 123
      clear hmm
      rw [← HV.out.2.2.2.2.2]
      refine (callsIn_wide.2 (walkf_any (w.heap.size + 1) 0 1 V)).mono ?_
      rintro e U ⟨rfl, hu1, hu2, hus, huc⟩
      have HU := Lib.hid (And.intro hu1 (And.intro hu2 (And.intro hus huc)))
      clear hu1 hu2 hus huc
      have hV6 : w.heap.size + 6 ≤ V.heap.size := by have := HV.out.2.1; omega
      have hUI : InS g A c t B d w V Y.heap.size 0 U := ⟨(HY.out.1.kept HV.out.1).kept HU.out.2.2.2, HU.out.2.2.2.at HV.out.2.2.2.1 (by simp), HU.out.2.2.2.at HV.out.2.2.2.2.1 (by simp), HV.out.2.2.1.at (fun es cl hb => HU.out.2.2.2.at hb (by simp)), ⟨HU.out.1, HU.out.2.1, fun k hk => HU.out.2.2.2.block k (by omega) (by simp)⟩, fun j y hj => by omega⟩
      have HUI := Lib.hid hUI
      have hrt := (HG.out.2.2.2.2.kept (HY.out.2.trans HV.out.1) (by simp) (by simp))
      have HRt := Lib.hid hrt
      have hU6 : w.heap.size + 6 ≤ U.heap.size := by have := HU.out.2.2.1; omega
      clear hUI hrt
      gi_wp2
      refine wp_rangeK (gf := 147) (lb := #[.pointer (some ⟨V.heap.size, 0, none⟩), .pointer (some ⟨V.heap.size + 1, 0, none⟩)]) rfl (enters_of Try.func147 (by kernel_rfl) rfl) (walk_iter (w.heap.size + 2) V t 1 V.heap.size (V.heap.size + 1) (w.heap.size + 1) 0 HRt.out (by omega) (by omega) (by omega))
        (fun l i x args W h => by obtain ⟨g, o, rfl, _⟩ := h; rfl)
        (fun j W => InS g A c t B d w V Y.heap.size j W) (fun c' W => c' = .ret ∧ (∃ a, SubB g A c t B d w a 70 W) ∧ ¬ SubOk g t)
        (fun j W h => h.st) (fun j W W' h hq => h.quiet hq (by omega) (by omega)) (fun c W W' h hq => ⟨h.1, by obtain ⟨a, ha⟩ := h.2.1; exact ⟨a, ha.quiet hq (by omega)⟩, h.2.2⟩) HUI.out ?round ?done ?stop
      case round =>
        rintro l2 j x args W' hI hx ⟨g', o', rfl, htr, hlow⟩ hl hlB
        have H1 := Lib.hid (And.intro hI (And.intro hx htr))
        clear hI hx htr hl
        gi_wp2
        refine ⟨Above.refl _ _, fun W2 hc2 hq2 => ?_⟩
        have hI2 := H1.out.1.quiet hq2 (by omega) (by omega)
        have htr2 := H1.out.2.2.kept hc2 (by simp; omega) (by simp; omega)
        obtain ⟨A2, c2, q0, q1, q2, q3, _, _, _, _⟩ := htr2.cells
        obtain ⟨a0, a1⟩ := cell2 hI2.box.g
        have m1 := cellOne hI2.mp
        have m2 := cellOne hI2.at'
        have b2 := cellOne hI2.box.a
        have b3 := cellOne hI2.box.z
        have g2 := blkF hI2.box.a 0
        have g3 := blkF hI2.box.z 0
        have g4 := blkF hI2.at' 0
        have hno : ¬ Good0 g x → ¬ SubOk g t := fun h hs => h (hs.2 j x (List.getElem?_eq_some_iff.1 H1.out.2.1).1 H1.out.2.1).1
        obtain ⟨hst, hsc⟩ := hI2.box.store (a' := j) (z' := 70)
        have HSt := Lib.hid (And.intro hst hsc)
        have HI2 := Lib.hid (And.intro hI2 htr2)
        clear hst hsc hI2 htr2 hc2 hq2
        by_cases t1 : 32 < x.2
        · have d1 : decide (32 < x.2) = true := decide_eq_true t1
          have HN := Lib.hid (hno (fun h => by have := h.1; omega))
          clear hno t1
          gi_wp2
          exact ⟨Above.of_chg HSt.out.2 (by simp; omega), rfl, ⟨_, HSt.out.1⟩, HN.out⟩
        have d1 : decide (32 < x.2) = false := decide_eq_false t1
        by_cases t2 : x.1.id < 1
        · have d2 : decide (x.1.id < 1) = true := decide_eq_true t2
          have HN := Lib.hid (hno (fun h => by have := h.2.1; omega))
          clear hno t1 t2
          gi_wp2
          exact ⟨Above.of_chg HSt.out.2 (by simp; omega), rfl, ⟨_, HSt.out.1⟩, HN.out⟩
        have d2 : decide (x.1.id < 1) = false := decide_eq_false t2
        by_cases t3 : 1125899906842624 < x.1.id
        · have d3 : decide (1125899906842624 < x.1.id) = true := decide_eq_true t3
          have HN := Lib.hid (hno (fun h => by have := h.2.2.1; omega))
          clear hno t1 t2 t3
          gi_wp2
          exact ⟨Above.of_chg HSt.out.2 (by simp; omega), rfl, ⟨_, HSt.out.1⟩, HN.out⟩
        have d3 : decide (1125899906842624 < x.1.id) = false := decide_eq_false t3
        have hwf : (Lit.int .i64 x.1.id).wf = true := by simp [Lit.wf, IntKind.min, IntKind.max, IntKind.bits, IntKind.signed]; omega
        obtain ⟨ids, hids⟩ : ∃ ids, ids = ((t.walk 1).take j).map (·.1.id) := ⟨_, rfl⟩
        have hlk := (HI2.out.1.seen.at (W' := W2.drew) (fun es cl h => h)).look x.1.id hwf
        rw [← hids] at hlk
        have HIds := Lib.hid hids
        clear hids
        unfold idKey at hlk
        gi_wp2_with fail
        refine wpIn_region_M (fun _ => True) (fun k => [].contains k) (fun k => [].contains k) (by kernel_rfl) (by kernel_rfl) (by rintro ⟨a, w, h⟩; exact h) ?_
        ((try dsimp only); (try simp only [Act.put, List.setIfInBounds_toArray, List.set_cons_zero, List.set_cons_succ]))
        refine M_take (i := 0) (v := ?_) rfl (by kernel_rfl) (by kernel_rfl) (by kernel_rfl) (by kernel_rfl) (fun _ _ _ h => h) (by rfl) ?hy ?_; (case hy => (go_simp; with_reducible rfl)); ((try dsimp only); (try simp only [Act.put, List.setIfInBounds_toArray, List.set_cons_zero, List.set_cons_succ]))
        refine M_pure (i := 1) (v := ?_) rfl (by kernel_rfl) (by kernel_rfl) (by kernel_rfl) (fun _ _ _ h => h) (by rfl) ?hy ?_; (case hy => (intro w; go_simp; with_reducible rfl)); ((try dsimp only); (try simp only [Act.put, List.setIfInBounds_toArray, List.set_cons_zero, List.set_cons_succ]))
        refine M_pure (i := 2) (v := ?_) rfl (by kernel_rfl) (by kernel_rfl) (by kernel_rfl) (fun _ _ _ h => h) (by rfl) ?hy ?_; (case hy => (intro w; go_simp; with_reducible rfl)); ((try dsimp only); (try simp only [Act.put, List.setIfInBounds_toArray, List.set_cons_zero, List.set_cons_succ]))
        refine M_pure (i := 3) (v := ?_) rfl (by kernel_rfl) (by kernel_rfl) (by kernel_rfl) (fun _ _ _ h => h) (by rfl) ?hy ?_; (case hy => (intro w; go_simp; with_reducible rfl)); ((try dsimp only); (try simp only [Act.put, List.setIfInBounds_toArray, List.set_cons_zero, List.set_cons_succ]))
        refine M_take (i := 4) (v := ?_) rfl (by kernel_rfl) (by kernel_rfl) (by kernel_rfl) (by kernel_rfl) (fun _ _ _ h => h) (by rfl) ?hy ?_; (case hy => (go_simp; with_reducible rfl)); ((try dsimp only); (try simp only [Act.put, List.setIfInBounds_toArray, List.set_cons_zero, List.set_cons_succ]))
        refine M_pure (i := 5) (v := ?_) rfl (by kernel_rfl) (by kernel_rfl) (by kernel_rfl) (fun _ _ _ h => h) (by rfl) ?hy ?_; (case hy => (intro w; go_simp; with_reducible rfl)); ((try dsimp only); (try simp only [Act.put, List.setIfInBounds_toArray, List.set_cons_zero, List.set_cons_succ]))
        refine M_take (i := 6) (v := ?_) rfl (by kernel_rfl) (by kernel_rfl) (by kernel_rfl) (by kernel_rfl) (fun _ _ _ h => h) (by rfl) ?hy ?_; (case hy => (go_simp; with_reducible rfl)); ((try dsimp only); (try simp only [Act.put, List.setIfInBounds_toArray, List.set_cons_zero, List.set_cons_succ]))
        refine M_pure (i := 7) (v := ?_) rfl (by kernel_rfl) (by kernel_rfl) (by kernel_rfl) (fun _ _ _ h => h) (by rfl) ?hy ?_; (case hy => (intro w; go_simp; with_reducible rfl)); ((try dsimp only); (try simp only [Act.put, List.setIfInBounds_toArray, List.set_cons_zero, List.set_cons_succ]))
        refine M_done (by kernel_rfl) ?_ _
        have hjn : j < 1000000 := by
          have h1 := (List.getElem?_eq_some_iff.1 H1.out.2.1).1
          rw [Tr.walk_length] at h1
          omega
        have hkl : x.1.kids.length ≤ 1000000 := by
          have h1 := walk_nodes t 1 x.1 x.2 (List.mem_of_getElem? H1.out.2.1)
          have h2 := x.1.kids_le
          omega
        obtain ⟨W3, hW3⟩ : ∃ W3, W3 = W2.drew := ⟨_, rfl⟩
        rw [← hW3]
        have hc3 : Chg [] W2 W3 := by rw [hW3]; exact (Chg.refl [] W2).drew
        have hI3 := HI2.out.1.quiet (S := w.heap.size + 2) (.of_chg hc3) (by omega) (by omega)
        have hT3 := HI2.out.2.kept hc3 (by simp) (by simp)
        clear a0 a1 m1 m2 b2 b3 g2 g3 g4 q0 q1 q2 q3 hlk hW3
        obtain ⟨a0, a1⟩ := cell2 hI3.box.g
        have m1 := cellOne hI3.mp
        have m2 := cellOne hI3.at'
        have b2 := cellOne hI3.box.a
        have b3 := cellOne hI3.box.z
        have g2 := blkF hI3.box.a 0
        have g3 := blkF hI3.box.z 0
        obtain ⟨hst, hsc⟩ := hI3.box.store (a' := j) (z' := 70)
        have HSt := Lib.hid (And.intro hst (And.intro hsc (hc3.size)))
        have HI3 := Lib.hid (And.intro hI3 (And.intro hT3 hc3))
        clear hst hsc hI3 hT3 hc3 HI2
        by_cases t4 : x.1.id ∈ ids
        · have d4 : decide (x.1.id ∈ ids) = true := decide_eq_true t4
          have HN := Lib.hid (show ¬ SubOk g t from fun hs => by
            rw [HIds.out] at t4
            obtain ⟨y, hy, hye⟩ := List.mem_map.1 t4
            obtain ⟨k, hk, hky⟩ := List.mem_iff_getElem.1 hy
            rw [List.getElem_take] at hky
            rw [List.length_take] at hk
            exact (hs.2 j x (List.getElem?_eq_some_iff.1 H1.out.2.1).1 H1.out.2.1).2 k y (by omega) (by rw [← hky]; exact List.getElem?_eq_getElem _) hye)
          clear hno t1 t2 t3
          gi_wp2
          exact ⟨Above.of_chg (L := [w.heap.size + 2, w.heap.size + 3]) ((HI3.out.2.2.mono (by simp)).trans HSt.out.2.1) (by simp; omega), rfl, ⟨_, HSt.out.1⟩, HN.out⟩
        have d4 : decide (x.1.id ∈ ids) = false := decide_eq_false t4
        have HT4 := Lib.hid t4
        obtain ⟨csx, hrx, hTx⟩ := HI3.out.2.1
        have hTr3 := HI3.out.2.1
        have HT3 := Lib.hid hTr3
        clear hTr3
        obtain ⟨A3, c3, rfl, _⟩ := hTx.opens
        have hcl := gnode_any g A c x.1 A3 c3 W3.drew (HG.out.1.kept (HI3.out.1.box.chg.drew)) (hTx.kept (Chg.refl [] W3).drew (by simp)) hkl
        have HCl := Lib.hid (And.intro hcl hrx)
        clear hcl hrx hTx
        gi_wp2_with fail
        refine wpIn_region_M (fun _ => True) (fun k => [4].contains k) (fun k => [4].contains k) (by kernel_rfl) (by kernel_rfl) (by rintro ⟨a, w, h⟩; exact h) ?_
        ((try dsimp only); (try simp only [Act.put, List.setIfInBounds_toArray, List.set_cons_zero, List.set_cons_succ]))
        refine M_take (i := 0) (v := ?_) rfl (by kernel_rfl) (by kernel_rfl) (by kernel_rfl) (by kernel_rfl) (fun _ _ _ h => h) (by rfl) ?hy ?_; (case hy => (go_simp; with_reducible rfl)); ((try dsimp only); (try simp only [Act.put, List.setIfInBounds_toArray, List.set_cons_zero, List.set_cons_succ]))
        refine M_pure (i := 1) (v := ?_) rfl (by kernel_rfl) (by kernel_rfl) (by kernel_rfl) (fun _ _ _ h => h) (by rfl) ?hy ?_; (case hy => (intro w; go_simp; with_reducible rfl)); ((try dsimp only); (try simp only [Act.put, List.setIfInBounds_toArray, List.set_cons_zero, List.set_cons_succ]))
        refine M_pure (i := 2) (v := ?_) rfl (by kernel_rfl) (by kernel_rfl) (by kernel_rfl) (fun _ _ _ h => h) (by rfl) ?hy ?_; (case hy => (intro w; go_simp; with_reducible rfl)); ((try dsimp only); (try simp only [Act.put, List.setIfInBounds_toArray, List.set_cons_zero, List.set_cons_succ]))
        refine M_take (i := 3) rfl (by kernel_rfl) (by kernel_rfl) (by kernel_rfl) (by kernel_rfl) (fun _ _ _ h => h) (by rfl) (exec_load_mid 24 (.tmp 42) rfl g' o' rfl _ _ (w := W3.drew) HCl.out.2 Try.underlying24 rfl (by kernel_rfl)) ?_; ((try dsimp only); (try simp only [Act.put, List.setIfInBounds_toArray, List.set_cons_zero, List.set_cons_succ]))
        refine M_brk (i := 4) rfl (by kernel_rfl) (by rfl) (by rfl) ?_
        go_wp2_with fail
        refine HCl.out.1.mono ?_
        rintro e Z ⟨bb, rfl, hbb, hcz⟩
        go_wp2_with fail
        ((try dsimp only [EffQ]); (try simp only [Act.put, List.setIfInBounds_toArray, List.set_cons_zero, List.set_cons_succ]))
        refine M_pure (i := 5) (v := ?_) rfl (by kernel_rfl) (by kernel_rfl) (by kernel_rfl) (fun _ _ _ h => h) (by rfl) ?hy ?_; (case hy => (intro w; go_simp; with_reducible rfl)); ((try dsimp only); (try simp only [Act.put, List.setIfInBounds_toArray, List.set_cons_zero, List.set_cons_succ]))
        refine M_pure (i := 6) (v := ?_) rfl (by kernel_rfl) (by kernel_rfl) (by kernel_rfl) (fun _ _ _ h => h) (by rfl) ?hy ?_; (case hy => (intro w; go_simp; with_reducible rfl)); ((try dsimp only); (try simp only [Act.put, List.setIfInBounds_toArray, List.set_cons_zero, List.set_cons_succ]))
        refine M_done (by kernel_rfl) ?_ _
        have hcz3 : Chg [] W3 Z := (Chg.refl [] W3).drew.trans hcz
        have hIz := HI3.out.1.quiet (S := w.heap.size + 2) (.of_chg hcz3) (by omega) (by omega)
        have hTz := HT3.out.kept hcz3 (by simp) (by simp)
        clear a0 a1 m1 m2 b2 b3 g2 g3 hcz t4 d1 d2 d3 d4
        obtain ⟨A4, c4, q0, _⟩ := hTz.cells
        have m1 := cellOne hIz.mp
        have m2 := cellOne hIz.at'
        have b2 := cellOne hIz.box.a
        have b3 := cellOne hIz.box.z
        have g2 := blkF hIz.box.a 0
        have g3 := blkF hIz.box.z 0
        obtain ⟨hst, hsc⟩ := hIz.box.store (a' := j) (z' := 70)
        have HSt := Lib.hid (And.intro hst ((HI3.out.2.2.trans hcz3).mono (by simp) |>.trans hsc))
        have HIz := Lib.hid (And.intro hIz (HI3.out.2.2.trans hcz3))
        clear hst hsc hIz hTz hcz3
        by_cases t5 : NodeOk g x.1
        · obtain rfl : bb = true := hbb.2 t5
          have HG5 := Lib.hid (show Good0 g x from ⟨by omega, by omega, by omega, t5⟩)
          clear hno t1 t2 t3 t5 hbb b2 b3 g2 g3 HSt
          obtain ⟨w5, hr5, hs5, hc5⟩ := (HIz.out.1.seen.at (W' := Z.drew) (fun es cl h => h)).put x.1.id hwf (by rw [List.length_map, List.length_take]; omega)
          have hc5z : Chg [Y.heap.size] Z w5 := (Chg.refl _ _).drew.trans hc5
          have n2 := hc5z.cell m2 (by simp)
          have g4 := blkF (hc5z.at HIz.out.1.at' (by simp)) 0
          have H5 := Lib.hid (And.intro hs5 hc5z)
          clear hs5 hc5 hc5z
          unfold idKey at hr5
          gi_wp2_with fail
          refine wpIn_region_M (fun _ => True) (fun k => [6].contains k) (fun k => [6].contains k) (by kernel_rfl) (by kernel_rfl) (by rintro ⟨a, w, h⟩; exact h) ?_
          ((try dsimp only); (try simp only [Act.put, List.setIfInBounds_toArray, List.set_cons_zero, List.set_cons_succ]))
          refine M_take (i := 0) (v := ?_) rfl (by kernel_rfl) (by kernel_rfl) (by kernel_rfl) (by kernel_rfl) (fun _ _ _ h => h) (by rfl) ?hy ?_; (case hy => (go_simp; with_reducible rfl)); ((try dsimp only); (try simp only [Act.put, List.setIfInBounds_toArray, List.set_cons_zero, List.set_cons_succ]))
          refine M_pure (i := 1) (v := ?_) rfl (by kernel_rfl) (by kernel_rfl) (by kernel_rfl) (fun _ _ _ h => h) (by rfl) ?hy ?_; (case hy => (intro w; go_simp; with_reducible rfl)); ((try dsimp only); (try simp only [Act.put, List.setIfInBounds_toArray, List.set_cons_zero, List.set_cons_succ]))
          refine M_pure (i := 2) (v := ?_) rfl (by kernel_rfl) (by kernel_rfl) (by kernel_rfl) (fun _ _ _ h => h) (by rfl) ?hy ?_; (case hy => (intro w; go_simp; with_reducible rfl)); ((try dsimp only); (try simp only [Act.put, List.setIfInBounds_toArray, List.set_cons_zero, List.set_cons_succ]))
          refine M_pure (i := 3) (v := ?_) rfl (by kernel_rfl) (by kernel_rfl) (by kernel_rfl) (fun _ _ _ h => h) (by rfl) ?hy ?_; (case hy => (intro w; go_simp; with_reducible rfl)); ((try dsimp only); (try simp only [Act.put, List.setIfInBounds_toArray, List.set_cons_zero, List.set_cons_succ]))
          refine M_take (i := 4) (v := ?_) rfl (by kernel_rfl) (by kernel_rfl) (by kernel_rfl) (by kernel_rfl) (fun _ _ _ h => h) (by rfl) ?hy ?_; (case hy => (go_simp; with_reducible rfl)); ((try dsimp only); (try simp only [Act.put, List.setIfInBounds_toArray, List.set_cons_zero, List.set_cons_succ]))
          refine M_pure (i := 5) (v := ?_) rfl (by kernel_rfl) (by kernel_rfl) (by kernel_rfl) (fun _ _ _ h => h) (by rfl) ?hy ?_; (case hy => (intro w; go_simp; with_reducible rfl)); ((try dsimp only); (try simp only [Act.put, List.setIfInBounds_toArray, List.set_cons_zero, List.set_cons_succ]))
          refine M_brk (i := 6) rfl (by kernel_rfl) (by rfl) (by rfl) ?_
          go_wp2_with fail
          ((try dsimp only [EffQ]); (try simp only [Act.put, List.setIfInBounds_toArray, List.set_cons_zero, List.set_cons_succ]))
          refine M_done (by kernel_rfl) ?_ _
          have hw1 : IntKind.i64.wrap ((j : Int) + 1) = (j : Int) + 1 := IntWalk.i64_in _ (by omega)
          gi_wp2
          obtain ⟨W6, hW6⟩ : ∃ W6, W6 = w5.setCell ⟨Y.heap.size + 2, 0, none⟩ (.int .i64 ((j : Int) + 1)) := ⟨_, rfl⟩
          rw [← hW6]
          have h65 : Chg [Y.heap.size + 2] w5 W6 := by rw [hW6]; exact (Chg.refl _ _).setCell _ _ (by simp)
          have h62 : W6.heap[Y.heap.size + 2]? = some (.cells #[.int .i64 ((j + 1 : Nat) : Int)] 3 (0, 0)) := by rw [hW6]; exact heap_setCell_same _ _ 0 _ _ _ (H5.out.2.at HIz.out.1.at' (by simp))
          have h6z : Chg [Y.heap.size, Y.heap.size + 2] Z W6 := (H5.out.2.mono (by simp)).trans (h65.mono (by simp))
          have e1 := HV.out.2.1
          have e2 := HU.out.2.2.1
          have e3 := lt_of_block HIz.out.1.mp
          refine ⟨Above.of_chg ((HIz.out.2.mono (by simp)).trans h6z) (by simp; omega), ?_⟩
          refine ⟨⟨h6z.at HIz.out.1.box.g (by simp; omega), h6z.at HIz.out.1.box.t (by simp; omega), h6z.at HIz.out.1.box.a (by simp; omega), h6z.at HIz.out.1.box.z (by simp; omega), HIz.out.1.box.chg.andThen h6z (by simp; omega)⟩, h6z.at HIz.out.1.mp (by simp), h62, ?_, ?_, ?_⟩
          · obtain ⟨D, ⟨es, cl, k1, k2⟩, k3⟩ := H5.out.1
            have hS6 : Seen W6 Y.heap.size (((t.walk 1).take j).map (·.1.id) ++ [x.1.id]) := Seen.at H5.out.1 (fun es cl hb => h65.at hb (by simp))
            rwa [List.take_add_one, H1.out.2.1, List.map_append]
          · exact ⟨h6z.at HIz.out.1.st.b1 (by simp; omega), h6z.at HIz.out.1.st.b2 (by simp; omega), fun k hk => (h6z.block k (by omega) (by simp; omega)).trans (HIz.out.1.st.base k hk)⟩
          · refine HIz.out.1.good.next H1.out.2.1 HG5.out (fun k z hk hz e => HT4.out ?_)
            rw [HIds.out]
            exact List.mem_map.2 ⟨z, List.mem_of_getElem? (by rw [List.getElem?_take, if_pos hk]; exact hz), e⟩
        · obtain rfl : bb = false := by cases bb; rfl; exact absurd (hbb.1 rfl) t5
          have HN := Lib.hid (hno (fun h => t5 h.2.2.2))
          clear hno t1 t2 t3 t5 hbb
          gi_wp2
          exact ⟨Above.of_chg HSt.out.2 (by simp; omega), rfl, ⟨_, HSt.out.1⟩, HN.out⟩
      case done =>
        rintro D W' hD hI hK
        have b2 := cellOne hI.box.a
        have b3 := cellOne hI.box.z
        have g2 := blkF hI.box.a 0
        have g3 := blkF hI.box.z 0
        obtain ⟨hst, hsc⟩ := hI.box.store (a' := 0) (z' := 0)
        have HSt := Lib.hid (And.intro hst (And.intro (hsc.at hK (by simp; omega)) hI.good))
        clear hst hsc hI hK
        gi_wp2
        exact sub_ret HSt.out.1 [D] ((Marks.nil w.heap.size _).push (by simp) (by omega) HSt.out.2.1) (Nat.le_refl _) ⟨⟨fun _ => ⟨HOk.out, by omega, HSt.out.2.2⟩, fun _ => rfl⟩, .inl rfl⟩ _ rfl rfl rfl
      case stop =>
        rintro D c' W' hD ⟨rfl, ⟨a, ha⟩, hns⟩ hK
        have HSt := Lib.hid (And.intro ha (And.intro hK hns))
        clear ha hK hns
        gi_wp2
        exact sub_ret HSt.out.1 [D] ((Marks.nil w.heap.size _).push (by simp) (by omega) HSt.out.2.1) (Nat.le_refl _) ⟨by simp [HSt.out.2.2], .inr (.inr ⟨rfl, HOk.out⟩)⟩ _ rfl rfl rfl
  · have HN := Lib.hid (show ¬ g.Ok from fun h => hz0 (hz.2 h))
    obtain rfl : z = 50 := by omega
    clear hz hzz hz0
    have b2 := cellOne HX.out.1.a
    have b3 := cellOne HX.out.1.z
    have g2 := blkF HX.out.1.a 0
    have g3 := blkF HX.out.1.z 0
    obtain ⟨hst, _⟩ := HX.out.1.store (a' := 0) (z' := 50)
    have HSt := Lib.hid hst
    clear hst
    gi_wp2
    exact sub_ret HSt.out [] (Marks.nil _ _) (Nat.le_refl _) ⟨by simp [HN.out], .inr (.inl ⟨rfl, HN.out⟩)⟩ _ rfl rfl rfl
end Go.Proofs.Ytofjocjljbkjgaa
namespace Go.Proofs.Ytofjocjljbkjgaa
open Go.RowKit
attribute [local go_sem] Oper.semAt_some
set_option maxHeartbeats 16000000 in
set_option maxRecDepth 100000 in
theorem gtree_any (g : Gr) (A : Option Addr) (c : Nat) (t : Tr) (B : Option Addr) (d : Nat) (w : World) (hG : GrC w A c g.kinds) (hT : TrC (fun b => b < w.heap.size) w t [.int .i64 (Tr.id t), .int .i64 (Tr.kind t), .string (Tr.text t), .slice B (Tr.kids t).length d]) (hn : 1 + t.nodes ≤ 1000000) :
    Calls Try.prog 60 #[.agg #[.slice A g.kinds.length c, .int .i64 g.root], .agg #[.int .i64 (Tr.id t), .int .i64 (Tr.kind t), .string (Tr.text t), .slice B (Tr.kids t).length d]] w (ConfPost (t.kind = g.root ∧ SubOk g t) g w) := by
  have HG := Lib.hid (And.intro hG (And.intro hT hn))
  obtain ⟨W1, hW1⟩ : ∃ W1, W1 = (w.alloc (.cells #[.slice A g.kinds.length c, .int .i64 g.root] 43)).alloc (.cells #[.int .i64 (Tr.id t), .int .i64 (Tr.kind t), .string (Tr.text t), .slice B (Tr.kids t).length d] 24) := ⟨_, rfl⟩
  have hB : Boxes g A c t B d w W1 := by rw [hW1]; exact Boxes.new g A c t B d w
  have HB := Lib.hid (And.intro hB hW1)
  obtain ⟨a0, a1, p0, p1, p2, p3⟩ := hB.cells
  clear hG hT hB hW1 hn
  go_enter Try.func60, Try.ntmps60
  go_wp2_with (skip; fail)
  rw [← HB.out.2]
  refine (gcheck_any g A c W1 (HG.out.1.kept HB.out.1.chg)).mono ?_
  rintro e X ⟨z, rfl, hz, hzz, hcx⟩
  have HX := Lib.hid (HB.out.1.kept hcx)
  clear hcx a0 a1 p0 p1 p2 p3
  obtain ⟨a0, a1, p0, p1, p2, p3⟩ := HX.out.cells
  have hsub := (gsub_any g A c t B d X (HG.out.1.kept HX.out.chg) ((HG.out.2.1.kept HX.out.chg (by simp)).weak (fun b hb _ => Nat.lt_of_lt_of_le hb HX.out.chg.size)) HG.out.2.2)
  have HS := Lib.hid hsub
  clear hsub
  by_cases hz0 : z = 0
  · subst hz0
    have HOk := Lib.hid (hz.1 rfl)
    clear hz hzz
    by_cases hk : t.kind = g.root
    · have d2 : (t.kind != g.root) = false := by simpa using hk
      have HK := Lib.hid hk
      clear hk
      go_wp2_with (skip; fail)
      refine HS.out.mono ?_
      rintro e Z ⟨a, z, rfl, h1, h2, h3⟩
      have HZ := Lib.hid (And.intro h1 (And.intro h2 h3))
      clear h1 h2 h3
      go_wp2_with (skip; fail)
      go_ret2
      exact ⟨a, z, rfl, by rw [HZ.out.1]; exact ⟨fun h => ⟨h.1, HK.out, h.2⟩, fun h => ⟨h.1, h.2.2⟩⟩, HZ.out.2.1, HX.out.chg.trans HZ.out.2.2⟩
    · have d2 : (t.kind != g.root) = true := by simpa using hk
      have HN := Lib.hid (show ¬ (t.kind = g.root ∧ SubOk g t) from fun h => hk h.1)
      clear hk
      go_wp2_with (skip; fail)
      go_ret2
      exact ConfPost.no 0 HOk.out HN.out HX.out.chg
  · have HN := Lib.hid (show ¬ g.Ok from fun h => hz0 (hz.2 h))
    obtain rfl : z = 50 := by omega
    clear hz hzz hz0
    go_wp2_with (skip; fail)
    refine HS.out.mono ?_
    rintro e Z ⟨a, z, rfl, h1, h2, h3⟩
    have HZ := Lib.hid (And.intro h1 (And.intro h2 h3))
    clear h1 h2 h3
    go_wp2_with (skip; fail)
    go_ret2
    exact ⟨a, z, rfl, by rw [HZ.out.1]; exact ⟨fun h => absurd h.1 HN.out, fun h => absurd h.1 HN.out⟩, HZ.out.2.1, HX.out.chg.trans HZ.out.2.2⟩
end Go.Proofs.Ytofjocjljbkjgaa
namespace Go.Proofs.Ytofjocjljbkjgaa
open Go.RowKit
structure GJ where
  ok : Bool
  fit : Tr → Bool
structure GJ.Of (j : GJ) (g : Gr) : Prop where
  ok : j.ok = true ↔ g.Ok
  fit : ∀ x, j.fit x = true ↔ (x.kind = g.root ∧ SubOk g x)
theorem GJ.ex (g : Gr) : ∃ j : GJ, j.Of g := by
  classical exact ⟨⟨decide g.Ok, fun x => decide (x.kind = g.root ∧ SubOk g x)⟩, ⟨by simp, fun x => by simp⟩⟩
def doJ (j : GJ) (t : Tr) (s : Stp) : Except Int Tr :=
  match applyT t s with
  | .error n => .error n
  | .ok x => if j.ok then (if j.fit x then .ok x else .error 70) else .error 50
theorem applyT_ne {t : Tr} {s : Stp} {n : Int} (h : applyT t s = .error n) : n ≠ 0 := by
  unfold applyT at h
  split at h
  · exact doT_ne h
  · injection h with h; omega
theorem doJ_ne {j : GJ} {t : Tr} {s : Stp} {n : Int} (h : doJ j t s = .error n) : n ≠ 0 := by
  unfold doJ at h
  split at h
  · rename_i m e; injection h with h; rw [← h]; exact applyT_ne e
  · split at h
    · split at h
      · cases h
      · injection h with h; omega
    · injection h with h; omega
theorem upd_nodes : ∀ (p : List Nat) (t n x : Tr), Tr.at? p t = some n → (Tr.upd p t x).nodes + n.nodes = t.nodes + x.nodes
  | [], t, n, x, h => by simp only [Tr.at?, Option.some.injEq] at h; subst h; simp only [Tr.upd]; omega
  | i :: p, t, n, x, h => by
    simp only [Tr.at?] at h
    cases hk : t.kids[i]? with
    | none => rw [hk] at h; cases h
    | some k =>
      rw [hk] at h
      have ih := upd_nodes p k n x h
      simp only [Tr.upd, hk]
      rw [Tr.nodes_eq t, Tr.nodes_eq]
      have hi := (List.getElem?_eq_some_iff.1 hk).1
      have he := (List.getElem?_eq_some_iff.1 hk).2
      have h1 : nodesL t.kids = nodesL (t.kids.take i) + k.nodes + nodesL (t.kids.drop (i + 1)) := by
        rw [← he]
        have := nodesL_append (t.kids.take i) (t.kids.drop i)
        rw [List.take_append_drop, List.drop_eq_getElem_cons hi] at this
        simp only [nodesL] at this
        omega
      have h2 : nodesL (t.kids.set i (Tr.upd p k x)) = nodesL (t.kids.take i) + (Tr.upd p k x).nodes + nodesL (t.kids.drop (i + 1)) := by
        rw [List.set_eq_take_append_cons_drop, if_pos hi, nodesL_append]
        simp only [nodesL]; omega
      simp only [] at h1 h2 ⊢
      omega
theorem insAt_nodes (l : List Tr) (k : Nat) (x : Tr) : nodesL (insAt l k x) = nodesL l + x.nodes := by
  unfold insAt
  have := nodesL_append (l.take k) (l.drop k)
  rw [List.take_append_drop] at this
  rw [nodesL_append]; simp only [nodesL]; omega
theorem ins_nodes {p : List Nat} {t n x : Tr} {k : Nat} (h : Tr.at? p t = some n) : (Tr.upd p t { n with kids := insAt n.kids k x }).nodes = t.nodes + x.nodes := by
  have h1 := upd_nodes p t n { n with kids := insAt n.kids k x } h
  rw [Tr.nodes_eq { n with kids := insAt n.kids k x }, insAt_nodes] at h1
  have := Tr.nodes_eq n
  omega
theorem insertT_ok {t x sub : Tr} {par pl : Int} (h : insertT t par pl sub = .ok x) : ∃ p n, t.path par = some p ∧ Tr.at? p t = some n ∧ (0 ≤ pl ∧ pl ≤ n.kids.length) ∧ (∀ i ∈ sub.ids, InRange i) ∧ FreshIds t.ids sub.ids ∧ x = Tr.upd p t { n with kids := insAt n.kids pl.toNat sub } := by
  unfold insertT at h
  split at h
  · cases h
  · rename_i p hp
    split at h
    · cases h
    · rename_i n hn
      split at h
      · rename_i h1
        split at h
        · rename_i h2
          split at h
          · rename_i h3
            injection h with h
            exact ⟨p, n, hp, hn, h1, h2, h3, h.symm⟩
          · cases h
        · cases h
      · cases h
theorem deleteT_ok {t x : Tr} {id : Int} (h : deleteT t id = .ok x) : t.id ≠ id ∧ ∃ y, t.out id = some (y, x) := by
  unfold deleteT at h
  split at h
  · cases h
  · split at h
    · cases h
    · rename_i h1
      split at h
      · cases h
      · rename_i y r h2
        injection h with h
        exact ⟨h1, y, by rw [h2, h]⟩
theorem textT_ok {t x : Tr} {id : Int} {tx : ByteArray} (h : textT t id tx = .ok x) : ∃ p n, t.path id = some p ∧ Tr.at? p t = some n ∧ x = Tr.upd p t { n with text := tx } := by
  unfold textT at h
  split at h
  · cases h
  · rename_i p hp
    split at h
    · cases h
    · rename_i n hn
      injection h with h
      exact ⟨p, n, hp, hn, h.symm⟩
theorem moveT_ok {t x : Tr} {id par pl : Int} (h : moveT t id par pl = .ok x) : t.id ≠ id ∧ ∃ p x0 y r q n, t.path id = some p ∧ Tr.at? p t = some x0 ∧ x0.path par = none ∧ t.out id = some (y, r) ∧ r.path par = some q ∧ Tr.at? q r = some n ∧ (0 ≤ pl ∧ pl ≤ n.kids.length) ∧ x = Tr.upd q r { n with kids := insAt n.kids pl.toNat y } := by
  unfold moveT at h
  split at h
  · rename_i p p2 hp hp2
    split at h
    · cases h
    · rename_i h1
      split at h
      · cases h
      · rename_i x0 hx0
        split at h
        · cases h
        · rename_i h2
          split at h
          · cases h
          · rename_i y r ho
            split at h
            · cases h
            · rename_i q hq
              split at h
              · cases h
              · rename_i n hn
                split at h
                · rename_i h3
                  injection h with h
                  refine ⟨h1, p, x0, y, r, q, n, hp, hx0, ?_, ho, hq, hn, h3, h.symm⟩
                  cases e : x0.path par with
                  | none => rfl
                  | some _ => rw [e] at h2; simp at h2
                · cases h
  · cases h
theorem doT_nodes {t x : Tr} {s : Stp} (h : doT t s = .ok x) : x.nodes ≤ t.nodes + s.sub.nodes := by
  unfold doT at h
  split at h
  · obtain ⟨p, n, _, hn, _, _, _, rfl⟩ := insertT_ok h
    rw [ins_nodes hn]; omega
  split at h
  · obtain ⟨_, y, hy⟩ := deleteT_ok h
    have := Tr.out_nodes _ _ _ _ hy
    omega
  split at h
  · obtain ⟨_, p, x0, y, r, q, n, _, _, _, h0, _, h1, _, rfl⟩ := moveT_ok h
    have := Tr.out_nodes _ _ _ _ h0
    rw [ins_nodes h1]; omega
  split at h
  · obtain ⟨p, n, _, hn, rfl⟩ := textT_ok h
    have h2 := upd_nodes p t n { n with text := s.text } hn
    have h3 : ({ n with text := s.text } : Tr).nodes = n.nodes := by rw [Tr.nodes_eq, Tr.nodes_eq n]
    omega
  · cases h
theorem applyT_nodes {t x : Tr} {s : Stp} (h : applyT t s = .ok x) : x.nodes ≤ 4000 := by
  unfold applyT at h
  split at h
  · have := doT_nodes h; omega
  · cases h
theorem blk9 {w : World} {b : Nat} {a0 a1 a2 a3 a4 a5 a6 a7 a8 : Value} {t : TypeId} {fr : Nat × Nat} (h : w.heap[b]? = some (.cells #[a0, a1, a2, a3, a4, a5, a6, a7, a8] t fr)) :
    w.cell? ⟨b, 0, none⟩ = some a0 ∧ w.cell? ⟨b, 1, none⟩ = some a1 ∧ w.cell? ⟨b, 2, none⟩ = some a2 ∧ w.cell? ⟨b, 3, none⟩ = some a3 ∧ w.cell? ⟨b, 4, none⟩ = some a4 ∧ w.cell? ⟨b, 5, none⟩ = some a5 ∧ w.cell? ⟨b, 6, none⟩ = some a6 ∧ w.cell? ⟨b, 7, none⟩ = some a7 ∧ w.cell? ⟨b, 8, none⟩ = some a8 := by
  simp [World.cell?, h]
set_option maxHeartbeats 4000000 in
set_option maxRecDepth 100000 in
theorem do_any (g : Gr) (j : GJ) (hj : j.Of g) (Ag : Option Addr) (cg : Nat) (t : Tr) (s : Stp) (A : Option Addr) (c : Nat) (cs : List Value) (w : World) (hG : GrC w Ag cg g.kinds) (hT : TrC (fun b => b < w.heap.size) w t [.int .i64 (Tr.id t), .int .i64 (Tr.kind t), .string (Tr.text t), .slice A (Tr.kids t).length c]) (hS : StpC (fun b => b < w.heap.size) w s cs) :
    Calls Try.prog 24 #[.agg #[.slice Ag g.kinds.length cg, .int .i64 g.root], .agg #[.int .i64 (Tr.id t), .int .i64 (Tr.kind t), .string (Tr.text t), .slice A (Tr.kids t).length c], .agg cs.toArray] w (ApplyPost (doJ j t s) w) := by
  obtain ⟨As, c', rfl, hsub, htx, hlo, hhi⟩ := hS
  obtain ⟨W, hW⟩ : ∃ W, W = (((w.alloc (.cells #[.slice Ag g.kinds.length cg, .int .i64 g.root] 43)).alloc (.cells #[.int .i64 (Tr.id t), .int .i64 (Tr.kind t), .string (Tr.text t), .slice A (Tr.kids t).length c] 24)).alloc (.cells #[.int .i8 s.op, .int .i64 s.id, .int .i64 s.par, .int .i64 s.place, .string s.text, .int .i64 s.sub.id, .int .i64 s.sub.kind, .string s.sub.text, .slice As s.sub.kids.length c'] 27)).alloc (.cells #[.int .i64 0, .int .i64 0, .string ⟨#[]⟩, .slice none 0 0] 24) := ⟨_, rfl⟩
  have hcW : Chg [] w W := by rw [hW]; exact (by with_reducible repeat (first | exact Chg.refl _ _ | apply Chg.alloc | apply Chg.drew | apply Chg.drewN | (refine Chg.setCell ?_ _ _ (by simp))))
  have b0 : W.heap[w.heap.size]? = some (.cells #[.slice Ag g.kinds.length cg, .int .i64 g.root] 43 (0, 0)) := by rw [hW]; exact heap_old (heap_old (heap_old (heap_new _ _ rfl) _) _) _
  have b1 : W.heap[w.heap.size + 1]? = some (.cells #[.int .i64 (Tr.id t), .int .i64 (Tr.kind t), .string (Tr.text t), .slice A (Tr.kids t).length c] 24 (0, 0)) := by rw [hW]; exact heap_old (heap_old (heap_new _ _ (by simp)) _) _
  have b2 : W.heap[w.heap.size + 1 + 1]? = some (.cells #[.int .i8 s.op, .int .i64 s.id, .int .i64 s.par, .int .i64 s.place, .string s.text, .int .i64 s.sub.id, .int .i64 s.sub.kind, .string s.sub.text, .slice As s.sub.kids.length c'] 27 (0, 0)) := by rw [hW]; exact heap_old (heap_new _ _ (by simp)) _
  have b3 : W.heap[w.heap.size + 1 + 1 + 1]? = some (.cells #[.int .i64 0, .int .i64 0, .string ⟨#[]⟩, .slice none 0 0] 24 (0, 0)) := by rw [hW]; exact heap_new _ _ (by simp)
  have hap := apply_any t s A c _ W ((hT.kept hcW (by simp)).weak (fun b hb _ => Nat.lt_of_lt_of_le hb hcW.size)) ⟨As, c', rfl, (hsub.kept hcW (by simp)).weak (fun b hb _ => Nat.lt_of_lt_of_le hb hcW.size), htx, hlo, hhi⟩
  obtain ⟨p0, p1, p2, p3⟩ := blk4 b1
  obtain ⟨q0, q1, q2, q3, q4, q5, q6, q7, q8⟩ := blk9 b2
  have HW := Lib.hid (And.intro hW (And.intro hcW (And.intro b0 (And.intro b3 (And.intro hap (And.intro hG hj))))))
  rw [hW] at p0 p1 p2 p3 q0 q1 q2 q3 q4 q5 q6 q7 q8
  clear hW hcW b0 b1 b2 b3 hap hG hT hsub hj
  go_enter Try.func24, Try.ntmps24
  go_wp2_with fail
  rw [← HW.out.1]
  clear p0 p1 p2 p3 q0 q1 q2 q3 q4 q5 q6 q7 q8
  have hap := HW.out.2.2.2.2.1
  cases hr : applyT t s with
  | error n =>
    have hn0 := applyT_ne hr
    have e0 : (n == 0) = false := by simpa using hn0
    have e0' : (n != 0) = true := by simpa using hn0
    have hd : doJ j t s = .error n := by unfold doJ; rw [hr]
    unfold ApplyPost at hap
    simp only [hr] at hap
    have HA := Lib.hid (And.intro hap hd)
    clear hap hd hr hn0
    refine HA.out.1.mono ?_
    rintro e X ⟨rfl, hX⟩
    have x3 := hX.at HW.out.2.2.2.1 (by simp)
    have hl3 := lt_of_block x3
    obtain ⟨r0, r1, r2, r3⟩ := blk4 x3
    have f0 := blkF x3 0
    have f1 := blkF x3 1
    have f2 := blkF x3 2
    have f3 := blkF x3 3
    have HX := Lib.hid (And.intro hX x3)
    clear hX x3
    go_wp2_with (skip; fail)
    refine bodyPost_ret (v := .tuple #[.agg #[.int .i64 0, .int .i64 0, .string ⟨#[]⟩, .slice none 0 0], .int .i64 n]) (results_row_tmp rfl _ _ (w.heap.size + 1 + 1 + 1) _ _ _ _ _ rfl rfl (heap_old (set4 HX.out.2) _) Try.underlying24 rfl szNode) rfl ?_
    unfold ApplyPost
    rw [HA.out.2]
    exact ⟨rfl, ((HW.out.2.1.trans HX.out.1).andThen (chg4 _ _ _ _ _ _) (by simp; omega)).alloc _⟩
  | ok x =>
    have hxn := applyT_nodes hr
    have hd : doJ j t s = if j.ok then (if j.fit x then .ok x else .error 70) else .error 50 := by unfold doJ; rw [hr]
    unfold ApplyPost at hap
    simp only [hr] at hap
    have HA := Lib.hid (And.intro hap (And.intro hd hxn))
    clear hap hd hr hxn
    refine HA.out.1.mono ?_
    rintro e X ⟨B, d, rfl, hV, hX⟩
    have x0 := hX.at HW.out.2.2.1 (by simp)
    have x3 := hX.at HW.out.2.2.2.1 (by simp)
    have hl3 := lt_of_block x3
    obtain ⟨Y, hY⟩ : ∃ Y, Y = X.alloc (.cells #[.int .i64 (Tr.id x), .int .i64 (Tr.kind x), .string (Tr.text x), .slice B (Tr.kids x).length d] 24) := ⟨_, rfl⟩
    have hXY : Chg [] X Y := by rw [hY]; exact (by with_reducible repeat (first | exact Chg.refl _ _ | apply Chg.alloc | apply Chg.drew | apply Chg.drewN | (refine Chg.setCell ?_ _ _ (by simp))))
    have y0 := hXY.at x0 (by simp)
    have y3 := hXY.at x3 (by simp)
    have y4 : Y.heap[X.heap.size]? = some (.cells #[.int .i64 (Tr.id x), .int .i64 (Tr.kind x), .string (Tr.text x), .slice B (Tr.kids x).length d] 24 (0, 0)) := by rw [hY]; exact heap_new _ _ rfl
    have hYs : Y.heap.size = X.heap.size + 1 := by rw [hY]; simp
    obtain ⟨a0, a1⟩ := cell2 y0
    obtain ⟨m0, m1, m2, m3⟩ := blk4 y4
    have HX := Lib.hid (And.intro (hX.trans hXY) (And.intro y3 (And.intro y4 (And.intro (hV.kept hXY (by simp)) (And.intro hXY (And.intro hYs hY))))))
    rw [hY] at a0 a1 m0 m1 m2 m3
    have htr := gtree_any g Ag cg x B d Y (HW.out.2.2.2.2.2.1.kept (HW.out.2.1.trans HX.out.1)) (HX.out.2.2.2.1.toC.weak (fun b hb _ => by have := hb.2; omega)) (by have := HA.out.2.2; omega)
    have HT := Lib.hid htr
    clear hX hV x0 x3 hXY y0 y3 y4 hY hYs htr
    go_wp2_with fail
    rw [← HX.out.2.2.2.2.2.2]
    clear a0 a1 m0 m1 m2 m3
    refine HT.out.mono ?_
    rintro e Z ⟨a, z, rfl, h1, h2, hZ⟩
    have z3 := hZ.at HX.out.2.1 (by simp)
    have z4 := hZ.at HX.out.2.2.1 (by simp)
    obtain ⟨r0, r1, r2, r3⟩ := blk4 z3
    have f0 := blkF z3 0
    have f1 := blkF z3 1
    have f2 := blkF z3 2
    have f3 := blkF z3 3
    obtain ⟨m0, m1, m2, m3⟩ := blk4 z4
    have hC4 := chg4 Z (w.heap.size + 1 + 1 + 1)
    have HZ := Lib.hid (And.intro h1 (And.intro h2 (And.intro hZ (And.intro z3 hC4))))
    have hWs := lt_of_block HW.out.2.2.2.1
    have hXs := HX.out.2.2.2.2.2.1
    clear h1 h2 hZ z3 z4 hC4
    by_cases hz : z = 0
    · subst hz
      have HO := Lib.hid (HZ.out.1.1 rfl)
      go_wp2_with (skip; fail)
      refine bodyPost_ret (v := .tuple #[.agg #[.int .i64 (Tr.id x), .int .i64 (Tr.kind x), .string (Tr.text x), .slice B (Tr.kids x).length d], .int .i64 0]) (results_row_tmp rfl _ _ (w.heap.size + 1 + 1 + 1) _ _ _ _ _ rfl rfl (set4 HZ.out.2.2.2.1) Try.underlying24 rfl szNode) rfl ?_
      unfold ApplyPost
      rw [HA.out.2.1, if_pos (HW.out.2.2.2.2.2.2.ok.2 HO.out.1), if_pos ((HW.out.2.2.2.2.2.2.fit x).2 HO.out.2)]
      have hc4 := HZ.out.2.2.2.2 (.int .i64 x.id) (.int .i64 x.kind) (.string x.text) (.slice B x.kids.length d)
      have hs := HZ.out.2.2.1.size
      have hs2 := hc4.size
      exact ⟨B, d, rfl, ((HX.out.2.2.2.1.kept HZ.out.2.2.1 (by simp)).kept hc4 (fun b hb => by simp; omega)).weak (fun b hb => ⟨by omega, by omega⟩), ((HW.out.2.1.trans HX.out.1).trans HZ.out.2.2.1).andThen hc4 (by simp; omega)⟩
    · have e0 : (z == 0) = false := by simpa using hz
      have e0' : (z != 0) = true := by simpa using hz
      have hres : (if j.ok then (if j.fit x then (.ok x : Except Int Tr) else .error 70) else .error 50) = .error z := by
        rcases HZ.out.2.1 with h | ⟨h, h'⟩ | ⟨h, h'⟩
        · exact absurd h hz
        · rw [if_neg (fun e => h' (HW.out.2.2.2.2.2.2.ok.1 e)), h]
        · rw [if_pos (HW.out.2.2.2.2.2.2.ok.2 h'), if_neg (fun e => hz (HZ.out.1.2 ⟨h', (HW.out.2.2.2.2.2.2.fit x).1 e⟩)), h]
      have HR := Lib.hid hres
      clear hz hres
      go_wp2_with (skip; fail)
      refine bodyPost_ret (v := .tuple #[.agg #[.int .i64 0, .int .i64 0, .string ⟨#[]⟩, .slice none 0 0], .int .i64 z]) (results_row_tmp rfl _ _ (w.heap.size + 1 + 1 + 1) _ _ _ _ _ rfl rfl (set4 HZ.out.2.2.2.1) Try.underlying24 rfl szNode) rfl ?_
      unfold ApplyPost
      rw [HA.out.2.1, HR.out]
      exact ⟨rfl, ((HW.out.2.1.trans HX.out.1).trans HZ.out.2.2.1).andThen (HZ.out.2.2.2.2 _ _ _ _) (by simp; omega)⟩
end Go.Proofs.Ytofjocjljbkjgaa

namespace Go.Proofs.Ytofjocjljbkjgaa
open Go.RowKit
theorem cellsNode : Try.prog.cellsOf 24 = 4 := by kernel_rfl
theorem cellsInt' : Try.prog.cellsOf 3 = 1 := by kernel_rfl
theorem cellsStr : Try.prog.cellsOf 9 = 1 := by kernel_rfl
theorem cellsNDS : Try.prog.cellsOf 22 = 1 := by kernel_rfl
theorem list4 {α : Type} {l : List α} (h : l.length = 4) : ∃ a0 a1 a2 a3, l = [a0, a1, a2, a3] := by
  match l, h with
  | [a0, a1, a2, a3], _ => exact ⟨_, _, _, _, rfl⟩
theorem node_of {H : Type} {enc : TypeId × Value → H} {w : World} {base : Nat} {sp : Nat → Bool} {held : Bool} : ∀ (fuel : Nat) (cs : List Value) (x : DataW H × List MemPlace), DataW.trod enc Try.prog w base sp held fuel 24 cs = some x → ∃ t : Tr, TrC (fun b => b < w.heap.size) w t cs := by
  intro fuel
  induction fuel using Nat.strongRecOn with
  | _ fuel ih =>
  intro cs x h
  cases fuel with
  | zero => simp [DataW.trod] at h
  | succ fuel =>
    obtain ⟨hl, hfs⟩ := trod_struct Try.underlying24 h
    rw [cellsNode] at hl
    obtain ⟨a0, a1, a2, a3, rfl⟩ := list4 hl
    simp only [List.forall_mem_cons] at hfs
    obtain ⟨⟨y0, e0⟩, ⟨y1, e1⟩, ⟨y2, e2⟩, ⟨y3, e3⟩, _⟩ := hfs
    obtain ⟨k0, f0, _⟩ := trod_int Try.underlying3 e0
    obtain ⟨k1, f1, _⟩ := trod_int Try.underlying3 e1
    obtain ⟨s, f2, hs⟩ := trod_string Try.underlying9 e2
    obtain ⟨A, len, cap, n, f3, hlc, hcm, hn, hA, hel⟩ := trod_slice' Try.underlying22 (by rw [cellsNode]; omega) e3
    simp [cellsInt', cellsStr, cellsNDS] at f0 f1 f2 f3
    subst f0 f1 f2 f3
    unfold maxLen at hcm hs
    have hk : ∀ i, i < len → ∃ (k : Tr) (g o : Nat) (cs : List Value), A = some ⟨g, o, none⟩ ∧ g < w.heap.size ∧ w.rangeAt g (o + i * 4) cs ∧ TrC (fun b => b < w.heap.size) w k cs := by
      intro i hi
      obtain ⟨B, o, es, y, hA, hl, hr, ht⟩ := hel i hi
      rw [cellsNode] at hl hr
      obtain ⟨k, hT⟩ := ih n (by omega) es y ht
      exact ⟨k, B, o, es, hA, range_lt hr (by omega), hr, hT⟩
    let f : Nat → Tr := fun i => if h : i < len then (hk i h).choose else ⟨0, 0, ⟨#[]⟩, []⟩
    have hlen : ((List.range len).map f).length = len := by simp
    refine ⟨⟨k0, k1, s, (List.range len).map f⟩, ?_⟩
    have := TrC.mk (ok := fun b => b < w.heap.size) (w := w) (A := A) (c := cap) ⟨k0, k1, s, (List.range len).map f⟩ (by simpa using hlc) (by omega) (by omega) (fun i k hki => by
      have hi : i < len := by have := (List.getElem?_eq_some_iff.1 hki).1; simpa using this
      simp [hi] at hki
      have e : f i = (hk i hi).choose := by simp [f, hi]
      obtain ⟨g, o, cs, h1, h2, h3, h4⟩ := (hk i hi).choose_spec
      rw [← e, hki] at h4
      exact ⟨g, o, cs, h1, h2, h3, h4⟩)
    rw [hlen] at this
    exact this
end Go.Proofs.Ytofjocjljbkjgaa
namespace Go.Proofs.Ytofjocjljbkjgaa
open Go.RowKit
theorem cellsStep : Try.prog.cellsOf 27 = 9 := by kernel_rfl
theorem cellsI8 : Try.prog.cellsOf 25 = 1 := by kernel_rfl
theorem list9 {α : Type} {l : List α} (h : l.length = 9) : ∃ a0 a1 a2 a3 a4 a5 a6 a7 a8, l = [a0, a1, a2, a3, a4, a5, a6, a7, a8] := by
  match l, h with
  | [a0, a1, a2, a3, a4, a5, a6, a7, a8], _ => exact ⟨_, _, _, _, _, _, _, _, _, rfl⟩
theorem step_of {H : Type} {enc : TypeId × Value → H} {w : World} {base : Nat} {sp : Nat → Bool} {held : Bool} (fuel : Nat) (cs : List Value) (x : DataW H × List MemPlace) (h : DataW.trod enc Try.prog w base sp held fuel 27 cs = some x) :
    ∃ s : Stp, StpC (fun b => b < w.heap.size) w s cs := by
  cases fuel with
  | zero => simp [DataW.trod] at h
  | succ fuel =>
    obtain ⟨hl, hfs⟩ := trod_struct Try.underlying27 h
    rw [cellsStep] at hl
    obtain ⟨a0, a1, a2, a3, a4, a5, a6, a7, a8, rfl⟩ := list9 hl
    simp only [List.forall_mem_cons] at hfs
    obtain ⟨⟨y0, e0⟩, ⟨y1, e1⟩, ⟨y2, e2⟩, ⟨y3, e3⟩, ⟨y4, e4⟩, ⟨y5, e5⟩, _⟩ := hfs
    obtain ⟨k0, f0, b0⟩ := trod_int Try.underlying25 e0
    obtain ⟨k1, f1, _⟩ := trod_int Try.underlying3 e1
    obtain ⟨k2, f2, _⟩ := trod_int Try.underlying3 e2
    obtain ⟨k3, f3, _⟩ := trod_int Try.underlying3 e3
    obtain ⟨s, f4, hs⟩ := trod_string Try.underlying9 e4
    obtain ⟨t, hT⟩ := node_of _ _ _ e5
    obtain ⟨A, c, f5, _⟩ := hT.opens
    rw [f5] at hT
    simp [cellsI8, cellsInt', cellsStr, cellsNode] at f0 f1 f2 f3 f4 f5
    obtain ⟨g5, g6, g7, g8⟩ := f5
    subst f0 f1 f2 f3 f4 g5 g6 g7 g8
    unfold maxLen at hs
    simp [Lit.wf, IntKind.min, IntKind.max, IntKind.signed, IntKind.bits] at b0
    exact ⟨⟨k0, k1, k2, k3, s, t⟩, A, c, rfl, hT, by omega, b0⟩
end Go.Proofs.Ytofjocjljbkjgaa
namespace Go.Proofs.Ytofjocjljbkjgaa
open Go.RowKit
def StpsC (ok : Nat → Prop) (w : World) (B : Option Addr) (ss : List Stp) : Prop :=
  ∀ (i : Nat) s, ss[i]? = some s → ∃ g o cs, B = some ⟨g, o, none⟩ ∧ ok g ∧ w.rangeAt g (o + i * 9) cs ∧ StpC ok w s cs
theorem StpsC.nil (ok : Nat → Prop) (w : World) (B : Option Addr) : StpsC ok w B [] := fun i s h => by simp at h
theorem StpC.move {ok ok' : Nat → Prop} {w w' : World} (hb : ∀ g, ok g → g < w.heap.size → w'.heap[g]? = w.heap[g]? ∧ ok' g) {s : Stp} {cs : List Value} (h : StpC ok w s cs) : StpC ok' w' s cs := by
  obtain ⟨A, c, e, ht, hs⟩ := h; exact ⟨A, c, e, ht.move hb, hs⟩
theorem StpsC.move {ok ok' : Nat → Prop} {w w' : World} (hb : ∀ g, ok g → g < w.heap.size → w'.heap[g]? = w.heap[g]? ∧ ok' g) {B : Option Addr} {ss : List Stp} (h : StpsC ok w B ss) : StpsC ok' w' B ss := fun i s hi => by
  obtain ⟨g, o, cs, hB, hg, hr, hs⟩ := h i s hi
  have hlt := range_lt hr (by rw [hs.nine]; omega)
  refine ⟨g, o, cs, hB, (hb g hg hlt).2, fun j v hv => ?_, hs.move hb⟩
  have := hr j v hv
  simp only [World.cell?] at this ⊢
  rw [(hb g hg hlt).1]; exact this
theorem StpsC.kept {ok : Nat → Prop} {w w' : World} {l : List Nat} {B : Option Addr} {ss : List Stp} (h : StpsC ok w B ss) (hc : Chg l w w') (hl : ∀ g, ok g → g ∉ l) : StpsC ok w' B ss :=
  h.move fun g hg hlt => ⟨hc.block g hlt (hl g hg), hg⟩
theorem StpsC.weak {ok ok' : Nat → Prop} {w : World} {B : Option Addr} {ss : List Stp} (h : StpsC ok w B ss) (hl : ∀ g, ok g → g < w.heap.size → ok' g) : StpsC ok' w B ss :=
  h.move fun g hg hlt => ⟨rfl, hl g hg hlt⟩
theorem StpsC.next {w w' : World} {B : Option Addr} {ss : List Stp} (h : StpsC (fun b => b < w.heap.size) w B ss) (hc : Chg [] w w') : StpsC (fun b => b < w'.heap.size) w' B ss :=
  h.move fun g hg hlt => ⟨hc.block g hlt (by simp), Nat.lt_of_lt_of_le hlt hc.size⟩
theorem StpC.next {w w' : World} {s : Stp} {cs : List Value} (h : StpC (fun b => b < w.heap.size) w s cs) (hc : Chg [] w w') : StpC (fun b => b < w'.heap.size) w' s cs :=
  h.move fun g hg hlt => ⟨hc.block g hlt (by simp), Nat.lt_of_lt_of_le hlt hc.size⟩
theorem TrC.next {w w' : World} {t : Tr} {cs : List Value} (h : TrC (fun b => b < w.heap.size) w t cs) (hc : Chg [] w w') : TrC (fun b => b < w'.heap.size) w' t cs :=
  h.move fun g hg hlt => ⟨hc.block g hlt (by simp), Nat.lt_of_lt_of_le hlt hc.size⟩
theorem StpsC.at {ok : Nat → Prop} {w : World} {B : Option Addr} {ss : List Stp} (h : StpsC ok w B ss) {i : Nat} (hi : i < ss.length) : ∃ g o A c, B = some ⟨g, o, none⟩ ∧ ok g ∧
    w.rangeAt g (o + i * 9) [.int .i8 (ss[i]).op, .int .i64 (ss[i]).id, .int .i64 (ss[i]).par, .int .i64 (ss[i]).place, .string (ss[i]).text, .int .i64 (ss[i]).sub.id, .int .i64 (ss[i]).sub.kind, .string (ss[i]).sub.text, .slice A (ss[i]).sub.kids.length c] ∧
    TrC ok w (ss[i]).sub [.int .i64 (Tr.id (ss[i]).sub), .int .i64 (Tr.kind (ss[i]).sub), .string (Tr.text (ss[i]).sub), .slice A (Tr.kids (ss[i]).sub).length c] ∧ (ss[i]).text.size ≤ 9223372036854775807 ∧ -128 ≤ (ss[i]).op ∧ (ss[i]).op ≤ 127 := by
  obtain ⟨g, o, cs, hB, hg, hr, A, c, rfl, h1, h2⟩ := h i _ (List.getElem?_eq_getElem hi)
  exact ⟨g, o, A, c, hB, hg, hr, h1, h2⟩
theorem StpsC.take {ok : Nat → Prop} {w : World} {B : Option Addr} {ss : List Stp} (h : StpsC ok w B ss) (k : Nat) : StpsC ok w B (ss.take k) := fun i s hi => by
  rw [List.getElem?_take] at hi
  split at hi
  · exact h i s hi
  · cases hi
theorem steps_of {H : Type} {enc : TypeId × Value → H} {w : World} {base : Nat} {sp : Nat → Bool} {held : Bool} {fuel : Nat} {cs : List Value} {x : DataW H × List MemPlace} (h : DataW.trod enc Try.prog w base sp held fuel 46 cs = some x) :
    ∃ (ss : List Stp) (B : Option Addr) (d : Nat), cs = [.slice B ss.length d] ∧ StpsC (fun b => b < w.heap.size) w B ss ∧ ss.length ≤ d ∧ d ≤ 9223372036854775807 ∧ (B = none → d = 0) := by
  obtain ⟨A, len, cap, n, rfl, hlc, hcm, _, hA, hel⟩ := trod_slice' Try.underlying46 (by rw [cellsStep]; omega) h
  unfold maxLen at hcm
  have hk : ∀ i, i < len → ∃ (s : Stp) (cs : List Value) (g o : Nat), A = some ⟨g, o, none⟩ ∧ g < w.heap.size ∧ w.rangeAt g (o + i * 9) cs ∧ StpC (fun b => b < w.heap.size) w s cs := by
    intro i hi
    obtain ⟨B, o, es, y, hA, hl, hr, ht⟩ := hel i hi
    rw [cellsStep] at hl hr
    obtain ⟨s, hT⟩ := step_of _ es y ht
    exact ⟨s, es, B, o, hA, range_lt hr (by omega), hr, hT⟩
  let fs : Nat → Stp := fun i => if h : i < len then (hk i h).choose else ⟨0, 0, 0, 0, ⟨#[]⟩, ⟨0, 0, ⟨#[]⟩, []⟩⟩
  refine ⟨(List.range len).map fs, A, cap, by simp, fun i s hi => ?_, by simpa using hlc, by omega, fun h => (hA h).2⟩
  have hlt : i < len := by have := (List.getElem?_eq_some_iff.1 hi).1; simpa using this
  obtain ⟨cs, g, o, h1, h2, h3, h4⟩ := (hk i hlt).choose_spec
  simp [hlt, fs] at hi
  rw [hi] at h4
  exact ⟨g, o, cs, h1, h2, h3, h4⟩
theorem range_drop {w : World} {b o : Nat} {cs : List Value} (h : w.rangeAt b o cs) (n : Nat) : w.rangeAt b (o + n) (cs.drop n) := fun j v hv => by
  rw [List.getElem?_drop] at hv
  have := h (n + j) v hv
  rwa [← Nat.add_assoc] at this
end Go.Proofs.Ytofjocjljbkjgaa
namespace Go.Proofs.Ytofjocjljbkjgaa
open Go.RowKit
set_option maxHeartbeats 4000000 in
set_option maxRecDepth 100000 in
theorem nodes_any : ∀ (t : Tr) (g o n : Nat) (w : World), TrAt (fun _ => True) w g o t → n ≤ 200 → Calls Try.prog 111 #[.pointer (some ⟨g, o, none⟩), .int .i64 n] w fun e w' => e = .returned (.int .i64 (min 201 (n + t.nodes) : Nat)) ∧ w = w' := by
  intro t
  induction t using Tr.ind with
  | h t ih =>
  intro g o n w hT hn
  obtain ⟨A, c, c0, c1, c2, c3, hlc, hcm, htx, hK⟩ := hT.cells
  have htn := t.nodes_eq
  have HH := Lib.hid (And.intro ih (And.intro hK htn))
  clear ih hT hK htx c0 c1 c2 htn
  go_enter Try.func111, Try.ntmps111
  go_wp2_with (skip; fail)
  go_loop [1, 13] (fun nv iv => ∃ k : Nat, k ≤ t.kids.length ∧ iv = .int .i64 k ∧ nv = .int .i64 (min 201 (n + 1 + nodesL (t.kids.take k)) : Nat)) (fun _ iv => t.kids.length - (intOf iv).toNat)
  case atStart => exact ⟨0, Nat.zero_le _, rfl, by simp only [List.take_zero, nodesL]; rw [show min 201 (n + 1 + 0) = n + 1 by omega]; go_num⟩
  case round =>
    obtain ⟨k, hk, rfl, rfl⟩ := hrel
    obtain ⟨m, hm⟩ : ∃ m, m = min 201 (n + 1 + nodesL (t.kids.take k)) := ⟨_, rfl⟩
    rw [← hm]
    have hm1 : m ≤ 201 := by omega
    have HM := Lib.hid hm
    clear hm
    have htn := HH.out.2.2
    by_cases hlt : k < t.kids.length
    · have hnk := nodesL_take t.kids k hlt
      have hnl := nodesL_take_le t.kids (k + 1)
      by_cases hbig : 200 < m
      · have d1 : decide (200 < (m : Int)) = true := decide_eq_true (by omega)
        have d1' : decide (200 < m) = true := decide_eq_true hbig
        have HE := Lib.hid (show min 201 (n + t.nodes) = m by have := HM.out; omega)
        clear hnk hnl htn
        go_wp2_with (skip; fail)
        go_ret
        exact ⟨by rw [HE.out]; rfl, rfl⟩
      · have d1 : decide (200 < (m : Int)) = false := decide_eq_false (by omega)
        have d1' : decide (200 < m) = false := decide_eq_false hbig
        obtain ⟨gk, ok, hA, _, hat⟩ := HH.out.2.1.at hlt
        subst hA
        have HC := Lib.hid (And.intro (HH.out.1 (t.kids[k]) (List.getElem_mem hlt) gk (ok + k * 4) m w hat (by omega)) (show min 201 (m + (t.kids[k]).nodes) = min 201 (n + 1 + nodesL (t.kids.take (k + 1))) by rw [hnk]; have := HM.out; omega))
        clear hat hnk hnl htn hbig
        go_wp2_with fail
        refine HC.out.1.mono ?_
        rintro e X ⟨rfl, rfl⟩
        go_wp2_with (skip; fail)
        go_round
        case rel => exact ⟨k + 1, by omega, by go_num, by rw [HC.out.2]⟩
        case measure => simp [intOf]; omega
    · obtain rfl : k = t.kids.length := by omega
      have HE := Lib.hid (show min 201 (n + t.nodes) = m by have := HM.out; rw [List.take_of_length_le (Nat.le_refl _)] at this; omega)
      clear htn
      go_wp2_with (skip; fail)
      go_ret
      exact ⟨by rw [HE.out]; rfl, rfl⟩
def insN : List Stp → Nat
  | [] => 0
  | s :: l => (if s.op = 1 then s.sub.nodes else 0) + insN l
def insM : List Stp → Nat
  | [] => 0
  | s :: l => (if s.op = 1 then min 201 s.sub.nodes else 0) + insM l
theorem insM_snoc (l : List Stp) (s : Stp) : insM (l ++ [s]) = insM l + (if s.op = 1 then min 201 s.sub.nodes else 0) := by
  induction l with
  | nil => simp [insM]
  | cons x l ih => simp only [List.cons_append, insM, ih]; omega
theorem insM_le (l : List Stp) : insM l ≤ 201 * l.length := by
  induction l with
  | nil => simp [insM]
  | cons x l ih => simp only [insM, List.length_cons]; split <;> omega
theorem insM_iff (l : List Stp) : insM l ≤ 200 ↔ insN l ≤ 200 := by
  have h1 : insM l ≤ insN l := by
    induction l with
    | nil => simp [insM, insN]
    | cons x l ih => simp only [insM, insN]; split <;> omega
  have h2 : insM l ≤ 200 → insN l = insM l := by
    induction l with
    | nil => simp [insM, insN]
    | cons x l ih =>
      simp only [insM, insN]
      intro h
      have h3 : insM l ≤ insN l := by
        clear ih h h1
        induction l with
        | nil => simp [insM, insN]
        | cons x l ih => simp only [insM, insN]; split <;> omega
      have := ih h3 (by split at h <;> omega)
      split at h <;> rename_i ho
      · rw [if_pos ho, if_pos ho]; omega
      · rw [if_neg ho, if_neg ho]; omega
  exact ⟨fun h => by rw [h2 h]; exact h, fun h => Nat.le_trans h1 h⟩
def checkB (l : List Stp) : Bool := decide (l.length ≤ 60) && decide (insN l ≤ 200)
def checkE (l : List Stp) : Int := if checkB l then 0 else 3
set_option maxHeartbeats 4000000 in
set_option maxRecDepth 100000 in
theorem check_any (ss : List Stp) (B : Option Addr) (d : Nat) (w : World) (hS : StpsC (fun b => b < w.heap.size) w B ss) (hl : ss.length ≤ 9223372036854775807) :
    Calls Try.prog 62 #[.slice B ss.length d] w fun e w' => e = .returned (.int .i64 (checkE ss)) ∧ w = w' := by
  have HH := Lib.hid hS
  clear hS
  go_enter Try.func62, Try.ntmps62
  by_cases h60 : 60 < ss.length
  · have d1 : decide (60 < (ss.length : Int)) = true := decide_eq_true (by omega)
    have d1' : decide (60 < ss.length) = true := decide_eq_true h60
    have HE := Lib.hid (show checkE ss = 3 by unfold checkE checkB; rw [decide_eq_false (p := ss.length ≤ 60) (by omega)]; rfl)
    clear h60
    go_wp2_with (skip; fail)
    go_ret
    exact ⟨by rw [HE.out]; rfl, rfl⟩
  have d1 : decide (60 < (ss.length : Int)) = false := decide_eq_false (by omega)
  have d1' : decide (60 < ss.length) = false := decide_eq_false h60
  go_wp2_with (skip; fail)
  clear d1 d1'
  go_loop [3, 10] (fun nv iv => ∃ k : Nat, k ≤ ss.length ∧ iv = .int .i64 k ∧ nv = .int .i64 (insM (ss.take k) : Nat)) (fun _ iv => ss.length - (intOf iv).toNat)
  case atStart => exact ⟨0, Nat.zero_le _, rfl, rfl⟩
  case round =>
    obtain ⟨k, hk, rfl, rfl⟩ := hrel
    have hle : insM (ss.take k) ≤ 12060 := by have := insM_le (ss.take k); rw [List.length_take] at this; omega
    by_cases hlt : k < ss.length
    · obtain ⟨g, o, A, c, rfl, _, hr, hTr, htx, hop⟩ := HH.out.at hlt
      obtain ⟨s, hs⟩ : ∃ s, s = ss[k] := ⟨_, rfl⟩
      rw [← hs] at hr hTr
      have hsn : insM (ss.take (k + 1)) = insM (ss.take k) + (if s.op = 1 then min 201 s.sub.nodes else 0) := by rw [take_snoc' ss k hlt, insM_snoc, hs]
      have r0 := hr 0 _ rfl
      simp only [Nat.add_zero] at r0
      have hat : TrAt (fun _ => True) w g (o + k * 9 + 5) s.sub := ⟨_, range_drop hr 5, hTr.weak (fun _ _ _ => trivial)⟩
      have hc := nodes_any s.sub g (o + k * 9 + 5) 0 w hat (by omega)
      have HC := Lib.hid (And.intro hc hsn)
      clear hr hTr hat hc hsn hs htx hop
      by_cases ho : s.op = 1
      · have d2 : (s.op == 1) = true := by simpa using ho
        have HO := Lib.hid ho
        have hn1 : min 201 (0 + s.sub.nodes) ≤ 201 := by omega
        clear ho
        go_wp2_with fail
        refine HC.out.1.mono ?_
        rintro e X ⟨rfl, rfl⟩
        go_wp2_with (skip; fail)
        go_round
        case rel => exact ⟨k + 1, by omega, by go_num, by rw [HC.out.2, if_pos HO.out]; go_num⟩
        case measure => simp [intOf]; omega
      · have d2 : (s.op == 1) = false := by simpa using ho
        have HO := Lib.hid ho
        clear ho
        go_wp2_with (skip; fail)
        go_round
        case rel => exact ⟨k + 1, by omega, by go_num, by rw [HC.out.2, if_neg HO.out, Nat.add_zero]⟩
        case measure => simp [intOf]; omega
    · obtain rfl : k = ss.length := by omega
      rw [List.take_of_length_le (Nat.le_refl _)] at hle ⊢
      by_cases h2 : 200 < insM ss
      · have d2 : decide (200 < (insM ss : Int)) = true := decide_eq_true (by omega)
        have d2' : decide (200 < insM ss) = true := decide_eq_true h2
        have HE := Lib.hid (show checkE ss = 3 by unfold checkE checkB; rw [decide_eq_false (p := insN ss ≤ 200) (fun h => by have := (insM_iff ss).2 h; omega)]; simp)
        clear h2
        go_wp2_with (skip; fail)
        go_ret
        exact ⟨by rw [HE.out]; rfl, rfl⟩
      · have d2 : decide (200 < (insM ss : Int)) = false := decide_eq_false (by omega)
        have d2' : decide (200 < insM ss) = false := decide_eq_false h2
        have HE := Lib.hid (show checkE ss = 0 by unfold checkE checkB; rw [decide_eq_true (p := insN ss ≤ 200) ((insM_iff ss).1 (by omega)), decide_eq_true (by omega)]; rfl)
        clear h2
        go_wp2_with (skip; fail)
        go_ret
        exact ⟨by rw [HE.out]; rfl, rfl⟩
end Go.Proofs.Ytofjocjljbkjgaa
namespace Go.Proofs.Ytofjocjljbkjgaa
open Go.RowKit
open Go.ChangeMaps (setBlock)
theorem findI_mem {l : List MapEntry} (h : KeysI l) {e : MapEntry} (he : e ∈ l) : findI l (keyInt e.key) = some e.val := by
  obtain ⟨hq, hp⟩ := h
  clear hq
  induction l with
  | nil => simp at he
  | cons a l ih =>
    obtain ⟨h1, h2⟩ := List.pairwise_cons.1 hp
    rcases List.mem_cons.1 he with rfl | he
    · simp [findI]
    · have := h1 e he
      simp only [findI]
      rw [if_neg this]
      exact ih he h2
theorem findI_some {l : List MapEntry} {n : Int} {v : Value} (h : findI l n = some v) : ∃ e ∈ l, keyInt e.key = n ∧ e.val = v := by
  induction l with
  | nil => simp [findI] at h
  | cons a l ih =>
    simp only [findI] at h
    split at h
    · rename_i e; cases h; exact ⟨a, by simp, e, rfl⟩
    · obtain ⟨e, he, h1, h2⟩ := ih h; exact ⟨e, by simp [he], h1, h2⟩
def IterI (w : World) (b r : Nat) (m : Int → Option Value) (done : List Int) : Prop :=
  ∃ es clock since seen c0, w.heap[b]? = some (.map es clock) ∧ (KeysI es.toList ∧ Go.MapKept.Stamped es clock) ∧ (∀ n, findI es.toList n = m n) ∧ w.heap[r]? = some (.mapIter (some b) since seen c0) ∧ (∀ x ∈ es.toList, x.born < since) ∧ (since ≤ c0 ∧ since ≤ clock) ∧
    ∀ x ∈ es.toList, seen.contains x.born = true ↔ keyInt x.key ∈ done
theorem IterI.map {w : World} {b r : Nat} {m : Int → Option Value} {done : List Int} (h : IterI w b r m done) : MapI w b m := by
  obtain ⟨es, clock, since, seen, c0, h1, h2, h3, _⟩ := h; exact ⟨es, clock, h1, h2, h3⟩
theorem IterI.lt {w : World} {b r : Nat} {m : Int → Option Value} {done : List Int} (h : IterI w b r m done) : r < w.heap.size := by
  obtain ⟨es, clock, since, seen, c0, _, _, _, h1, _⟩ := h; exact lt_of_block h1
theorem IterI.ne {w : World} {b r : Nat} {m : Int → Option Value} {done : List Int} (h : IterI w b r m done) : r ≠ b := by
  obtain ⟨es, clock, since, seen, c0, h1, _, _, h2, _⟩ := h
  intro e; rw [e, h1] at h2; cases h2
theorem IterI.kept {w w' : World} {b r : Nat} {m : Int → Option Value} {done : List Int} {l : List Nat} (h : IterI w b r m done) (hc : Chg l w w') (hb : b ∉ l) (hr : r ∉ l) : IterI w' b r m done := by
  obtain ⟨es, clock, since, seen, c0, h1, h2, h3, h4, h5⟩ := h
  exact ⟨es, clock, since, seen, c0, hc.at h1 hb, h2, h3, hc.at h4 hr, h5⟩
section
variable {P : Program} {T K E : TypeId} {w : World} {b r : Nat} {m : Int → Option Value} {done : List Int}
theorem IterI.next (h : IterI w b r m done) (ty : TypeId) :
    ((∀ n v, m n = some v → n ∈ done) ∧ (Instr.next (.pointer (some ⟨r, 0, none⟩)) false ty).run P w = .ok (.tuple #[.bool false]) w) ∨
    ∃ n v w', m n = some v ∧ n ∉ done ∧ (Instr.next (.pointer (some ⟨r, 0, none⟩)) false ty).run P w = .ok (.tuple #[.bool true, .int .i64 n, v]) w' ∧ IterI w' b r m (done ++ [n]) ∧ w'.rangeLeft b r < w.rangeLeft b r ∧ Chg [r] w w' ∧ w'.heap.size = w.heap.size ∧ (Instr.entry (.pointer (some ⟨r, 0, none⟩))).run P w' = .ok (.tuple #[.int .i64 n, v]) w' := by
  have hne := h.ne
  obtain ⟨es, clock, since, seen, c0, hb, hk, hm, hr, hold, ⟨hsc, hsk⟩, hd⟩ := h
  rcases run_next_at (P := P) w ty r b since c0 seen es clock hr hb hold hsc with ⟨h0, hrun⟩ | ⟨e, he, w1, hal, hrun⟩
  · refine .inl ⟨fun n v hn => ?_, hrun⟩
    rw [← hm n] at hn
    obtain ⟨x, hx, h1, _⟩ := findI_some hn
    rw [← h1]
    exact (hd x hx).1 (all_seen es seen h0 x hx)
  · obtain ⟨hem, hes⟩ := mem_left he
    have hr1 : w1.heap[r]? = some (.mapIter (some b) since seen c0) := by rcases hal with rfl | rfl <;> exact hr
    have hb1 : w1.heap[b]? = some (.map es clock) := by rcases hal with rfl | rfl <;> exact hb
    have hset := Go.MapKept.heap_set (o' := .mapIter (some b) since (seen.push e.born) clock) hr1
    have hb' : (setBlock w1 r (.mapIter (some b) since (seen.push e.born) clock)).heap[b]? = some (.map es clock) := (hset.2 b (fun e1 => hne e1.symm)).trans hb1
    have hst := (Go.MapKept.stamped_iff es clock).1 hk.2
    have hkey := hk.1.ints e hem
    have hmn : m (keyInt e.key) = some e.val := by rw [← hm]; exact findI_mem hk.1 hem
    have hc1 : Chg [r] w (setBlock w1 r (.mapIter (some b) since (seen.push e.born) clock)) := by
      rcases hal with rfl | rfl <;> exact ⟨rfl, rfl, rfl, by simp [setBlock], fun i _ hi => hset.2 i (fun e1 => hi (by rw [e1]; simp))⟩
    refine .inr ⟨keyInt e.key, e.val, _, hmn, fun hin => ?_, by rw [← hkey]; exact hrun, ⟨es, clock, since, seen.push e.born, clock, hb', hk, hm, hset.1, hold, ⟨hsk, hsk⟩, fun x hx => ?_⟩, ?_, hc1, ?_, ?_⟩
    · have := (hd e hem).2 hin
      rw [this] at hes; cases hes
    · rw [contains_push]
      constructor
      · intro h1
        rcases Bool.or_eq_true_iff.1 h1 with h1 | h1
        · exact List.mem_append_left _ ((hd x hx).1 h1)
        · have : x = e := born_inj hst.2.1 hx hem (by simpa using h1)
          rw [this]; simp
      · intro h1
        rcases List.mem_append.1 h1 with h1 | h1
        · rw [(hd x hx).2 h1]; rfl
        · simp at h1
          have : x = e := by
            by_cases hxe : x = e
            · exact hxe
            · exfalso
              have := hk.1.apart
              obtain ⟨i, hi, rfl⟩ := List.getElem_of_mem hx
              obtain ⟨j, hj, rfl⟩ := List.getElem_of_mem hem
              rcases Nat.lt_trichotomy i j with h | h | h
              · exact List.pairwise_iff_getElem.1 this i j hi hj h h1
              · subst h; exact hxe rfl
              · exact List.pairwise_iff_getElem.1 this j i hj hi h h1.symm
          rw [this]; simp
    · have hsr : (setBlock w1 r (.mapIter (some b) since (seen.push e.born) clock)).heap[r]? = some (.mapIter (some b) since (seen.push e.born) clock) := hset.1
      simp only [World.rangeLeft, hb, hr, hb', hsr]
      exact left_shrinks es seen e he
    · rcases hal with rfl | rfl <;> simp [setBlock]
    · rw [← hkey]
      exact run_entry_at _ r b since seen es clock e hset.1 hb' hem hst.2.1
variable {ops : Array Oper} {rest : List Oper} {o : Oper} {a : Act} {Q : Exit → Act → World → Prop}
end
end Go.Proofs.Ytofjocjljbkjgaa
namespace Go.Proofs.Ytofjocjljbkjgaa
open Go.RowKit
def Tr.subT (id : Int) (t : Tr) : Option Tr := match t.path id with
  | some p => Tr.at? p t
  | none => none
theorem subT_root {id : Int} {t : Tr} (h : t.id = id) : t.subT id = some t := by
  unfold Tr.subT; rw [Tr.path_eq, if_pos h]; rfl
theorem subT_some {id : Int} {t : Tr} (h : id ∈ t.ids) : ∃ x, t.subT id = some x ∧ x.id = id := by
  obtain ⟨p, hp⟩ := path_some h
  obtain ⟨x, h1, h2⟩ := Tr.path_at id t p hp
  exact ⟨x, by unfold Tr.subT; rw [hp]; exact h1, h2⟩
theorem subT_none {id : Int} {t : Tr} (h : id ∉ t.ids) : t.subT id = none := by
  unfold Tr.subT; rw [path_none h]
theorem subT_kid {id : Int} {t : Tr} (h0 : t.id ≠ id) {k : Nat} (hk : k < t.kids.length) (h1 : ∀ j (hj : j < k), id ∉ (t.kids[j]'(by omega)).ids) (h2 : id ∈ (t.kids[k]).ids) : t.subT id = (t.kids[k]).subT id := by
  obtain ⟨p, hp⟩ := path_some h2
  unfold Tr.subT
  rw [Tr.path_eq, if_neg h0, pathL_step id t.kids k 0 hk (fun j hj => path_none (h1 j hj)), hp]
  simp only [Tr.at?, Nat.zero_add, List.getElem?_eq_getElem hk]
theorem ids_out {id : Int} {t : Tr} (h0 : t.id ≠ id) (h1 : ∀ j (hj : j < t.kids.length), id ∉ (t.kids[j]).ids) : id ∉ t.ids := by
  rw [Tr.ids_eq]
  intro h
  rcases List.mem_cons.1 h with h | h
  · exact h0 h.symm
  · have : ∀ ks : List Tr, (∀ k ∈ ks, id ∉ k.ids) → id ∉ idsL ks := by
      intro ks
      induction ks with
      | nil => intro _; simp [idsL]
      | cons k ks ih => intro h; rw [idsL, List.mem_append]; rintro (h2 | h2); exact h k (by simp) h2; exact ih (fun x hx => h x (by simp [hx])) h2
    exact this t.kids (fun k hk => by obtain ⟨j, hj, rfl⟩ := List.getElem_of_mem hk; exact h1 j hj) h
end Go.Proofs.Ytofjocjljbkjgaa

namespace Go.Proofs.Ytofjocjljbkjgaa
open Go.RowKit
theorem at_append : ∀ (p q : List Nat) (t : Tr), Tr.at? (p ++ q) t = match Tr.at? p t with | some r => Tr.at? q r | none => none
  | [], q, t => rfl
  | i :: p, q, t => by
    simp only [List.cons_append, Tr.at?]
    cases t.kids[i]? with
    | none => rfl
    | some k => exact at_append p q k
end Go.Proofs.Ytofjocjljbkjgaa



namespace Go.Proofs.Ytofjocjljbkjgaa
open Go.RowKit
structure Own3 (w wr : World) (t : Tr) (k : Nat) (v : Value) : Prop where
  out : wr.heap[w.heap.size]? = some (.cells #[.int .i64 t.id, .int .i64 t.kind, .string t.text, v] 24 (0, 0))
  res : wr.heap[w.heap.size + 1]? = some (.cells #[.int .i64 0, .int .i64 0, .string ⟨#[]⟩, .slice none 0 0] 24 (0, 0))
  chg : Chg [] w wr
  row : RowV wr (w.heap.size + 2) v (t.kids.take k) (fun g => w.heap.size + 2 ≤ g)
set_option maxHeartbeats 4000000 in
set_option maxRecDepth 100000 in
theorem cown_any : ∀ (t : Tr) (A : Option Addr) (c : Nat) (w : World), TrC (fun _ => True) w t [.int .i64 (Tr.id t), .int .i64 (Tr.kind t), .string (Tr.text t), .slice A (Tr.kids t).length c] → t.nodes ≤ 100000 → Calls Try.prog 67 #[.agg #[.int .i64 (Tr.id t), .int .i64 (Tr.kind t), .string (Tr.text t), .slice A (Tr.kids t).length c]] w (NewPost t w) := by
  intro t
  induction t using Tr.ind with
  | h t ih =>
  intro A c w hT hN
  obtain ⟨ip, hi, hz0, hz1, hz2⟩ := info_parts infoNode
  obtain ⟨A', c', hcs, hlc, hcm, htx, hK⟩ := hT.opens
  simp only [List.cons.injEq, Value.slice.injEq, true_and, and_true] at hcs
  obtain ⟨rfl, rfl⟩ := hcs
  have hlen : t.kids.length ≤ 100000 := by have := nodesL_len t.kids; rw [Tr.nodes_eq] at hN; omega
  have HI := Lib.hid (And.intro hi (And.intro hz0 (And.intro hz1 hz2)))
  have HH := Lib.hid (And.intro ih (And.intro hN (And.intro htx hK)))
  clear hi hz0 hz1 hz2 hT hK ih hN htx
  go_enter Try.func67, Try.ntmps67
  go_wp2_with (skip; fail)
  refine wp_world (fun W => Own3 w W t 0 (.slice none 0 0)) ⟨heap_old (heap_new _ _ rfl) _, heap_new _ _ (by simp), (by with_reducible repeat (first | exact Chg.refl _ _ | apply Chg.alloc | apply Chg.drew | apply Chg.drewN | (refine Chg.setCell ?_ _ _ (by simp)))), RowV.nil _ _ _⟩ ?_
  intro W hOwn
  have HX := Lib.hid hOwn
  clear hOwn
  go_loopw [11] (fun i wr => ∃ (k : Nat) (v : Value), k ≤ t.kids.length ∧ i = .int .i64 k ∧ Hid (Own3 w wr t k v)) (fun i _ => t.kids.length - (intOf i).toNat)
  case atStart => exact ⟨0, _, Nat.zero_le _, rfl, HX.out⟩
  case round =>
    obtain ⟨k, v, hk, rfl, H⟩ := hrel
    clear HX
    obtain ⟨V0, hV0⟩ : ∃ V0, V0 = wr := ⟨_, rfl⟩
    subst hV0
    by_cases hlt : k < t.kids.length
    · obtain ⟨gk, ok, cs, rfl, _, hr, hat⟩ := HH.out.2.2.2 k _ (List.getElem?_eq_getElem hlt)
      obtain ⟨Ak, ck, rfl, _⟩ := hat.opens
      have hr' := H.out.chg.range hr (by simp)
      have hkn : (t.kids[k]).nodes ≤ 100000 := by have := nodesL_mem (List.getElem_mem hlt); have h2 := HH.out.2.1; rw [Tr.nodes_eq] at h2; omega
      obtain ⟨U, hU⟩ : ∃ U, U = V0.alloc (.cells #[.int .i64 (Tr.id (t.kids[k])), .int .i64 (Tr.kind (t.kids[k])), .string (Tr.text (t.kids[k])), .slice Ak (Tr.kids (t.kids[k])).length ck] 24) := ⟨_, rfl⟩
      have hVU : Chg [] V0 U := by rw [hU]; exact (by with_reducible repeat (first | exact Chg.refl _ _ | apply Chg.alloc | apply Chg.drew | apply Chg.drewN | (refine Chg.setCell ?_ _ _ (by simp))))
      have hUb : U.heap[V0.heap.size]? = some (.cells #[.int .i64 (Tr.id (t.kids[k])), .int .i64 (Tr.kind (t.kids[k])), .string (Tr.text (t.kids[k])), .slice Ak (Tr.kids (t.kids[k])).length ck] 24 (0, 0)) := by rw [hU]; exact heap_new _ _ rfl
      have hcall := HH.out.1 (t.kids[k]) (List.getElem_mem hlt) Ak ck U.drew (hat.kept ((H.out.chg.trans hVU).drew) (by simp)) hkn
      have hout := hVU.at H.out.out (by simp)
      have s3 := (blk4 hout).2.2.2
      have HC := Lib.hid (And.intro hcall (And.intro hr' (And.intro hVU (And.intro hU (hVU.at H.out.res (by simp))))))
      obtain ⟨k0, k1, k2, k3⟩ := blk4 hUb
      clear hcall hat hkn hr hr' hVU hUb hU
      go_wp2_with (first
        | (refine wpList_load_mid rfl 24 (.tmp 13) rfl gk (ok + k * 4) (by kernel_rfl) _ _ HC.out.2.1 Try.underlying24 rfl (by kernel_rfl) ?_
           ((try dsimp only); (try simp only [Act.put, List.setIfInBounds_toArray, List.set_cons_zero, List.set_cons_succ])))
        | (skip; fail))
      rw [← HC.out.2.2.2.1]
      refine wp_region_M (fun W => W.cell? ⟨w.heap.size, 3, none⟩ = some v) (fun k => [3, 4, 5, 7].contains k) (fun k => [7].contains k) (by kernel_rfl) ?_
      ((try dsimp only); (try simp only [Act.put, List.setIfInBounds_toArray, List.set_cons_zero, List.set_cons_succ]))
      refine M_pure (i := 0) (v := ?_) rfl (by kernel_rfl) (by kernel_rfl) (by kernel_rfl) (fun _ _ _ h => h) (by rfl) ?hy ?_; (case hy => (intro w; go_simp; with_reducible rfl)); ((try dsimp only); (try simp only [Act.put, List.setIfInBounds_toArray, List.set_cons_zero, List.set_cons_succ]))
      refine M_semi (i := 1) (v := ?_) rfl (by kernel_rfl) (by kernel_rfl) (by kernel_rfl) (by kernel_rfl) (fun _ _ _ h => h) (by rfl) s3 ?hy ?_; (case hy => (intro w hS; go_simp; with_reducible rfl)); ((try dsimp only); (try simp only [Act.put, List.setIfInBounds_toArray, List.set_cons_zero, List.set_cons_succ]))
      refine M_take (i := 2) (v := ?_) rfl (by kernel_rfl) (by kernel_rfl) (by kernel_rfl) (by kernel_rfl) (fun _ _ _ h => h) (by rfl) ?hy ?_; (case hy => (go_simp; with_reducible rfl)); ((try dsimp only); (try simp only [Act.put, List.setIfInBounds_toArray, List.set_cons_zero, List.set_cons_succ]))
      refine M_eff (i := 3) rfl (by kernel_rfl) (by rfl) ?_
      clear k0 k1 k2 k3
      go_wp2_with fail
      refine HC.out.1.mono ?_
      rintro e X ⟨A1, c1, rfl, hV, hX⟩
      have q3 := hX.cell s3 (by simp)
      have HX := Lib.hid (And.intro hV (And.intro hX (hX.at hout (by simp))))
      clear hV hX hout
      go_wp2_with fail
      refine ⟨q3, ?_⟩
      ((try dsimp only); (try simp only [Act.put, List.setIfInBounds_toArray, List.set_cons_zero, List.set_cons_succ]))
      refine M_eff (i := 4) rfl (by kernel_rfl) (by rfl) ?_
      refine wpList_slice_one rfl 22 24 (.tmp 18) rfl Try.underlying22 ip _ HI.out.1 HI.out.2.1 (by rw [HI.out.2.2.1]; rfl) (by rw [HI.out.2.2.1]; omega) (by rw [HI.out.2.2.1]; omega) (.agg #[.int .i64 (Tr.id (t.kids[k])), .int .i64 (Tr.kind (t.kids[k])), .string (Tr.text (t.kids[k])), .slice A1 (Tr.kids (t.kids[k])).length c1]) rfl (by rw [HI.out.2.2.1]; rfl) ?_
      have hXs : U.heap.size ≤ X.heap.size := HX.out.2.1.size
      have hUs := HC.out.2.2.1.size
      have hXa : Chg [] X (X.alloc (.cells (Value.agg #[.int .i64 (Tr.id (t.kids[k])), .int .i64 (Tr.kind (t.kids[k])), .string (Tr.text (t.kids[k])), .slice A1 (Tr.kids (t.kids[k])).length c1]).cells 24)) := (by with_reducible repeat (first | exact Chg.refl _ _ | apply Chg.alloc | apply Chg.drew | apply Chg.drewN | (refine Chg.setCell ?_ _ _ (by simp))))
      obtain ⟨xs, hown, hgrow⟩ := H.out.row.growBox (HC.out.2.2.1.trans ((Chg.drew (Chg.refl [] U)).trans HX.out.2.1)) (HX.out.1.weak (fun g hg => ⟨by have := hg.1; simp at this; omega, hg.2⟩)) (fun x hx => by have := lt_of_block H.out.res; omega) (Value.agg #[.int .i64 (Tr.id (t.kids[k])), .int .i64 (Tr.kind (t.kids[k])), .string (Tr.text (t.kids[k])), .slice A1 (Tr.kids (t.kids[k])).length c1]).cells
      rw [show (t.kids.take k).length = k from by simp; omega] at hown hgrow
      have HG := Lib.hid hgrow
      clear hgrow
      refine wpList_nil ⟨hXa.cell q3 (by simp), ?_⟩
      ((try dsimp only); (try simp only [Act.put, List.setIfInBounds_toArray, List.set_cons_zero, List.set_cons_succ]))
      refine M_eff (i := 5) rfl (by kernel_rfl) (by rfl) ?_
      refine wpList_append_own_at _ rfl (.tmp 16) (.tmp 19) 22 rfl _ 24 ip _ 4 56 Try.underlying22 HI.out.1 HI.out.2.1 HI.out.2.2.1 HI.out.2.2.2 rfl (by omega) v _ _ rfl hown ⟨X.heap.size, 0, none⟩ 1 1 _ rfl rfl (fun j u hu => by rw [Addr.add_mid]; exact range_all (heap_new X _ rfl) j u hu) (HX.out.1.one) (by unfold maxLen; omega) (by omega) (by have := lt_of_block H.out.res; simp; omega) ?_
      intro v' X3 hown' hgr _ hat
      have hV0X : Chg [] V0 (X.alloc (.cells (Value.agg #[.int .i64 (Tr.id (t.kids[k])), .int .i64 (Tr.kind (t.kids[k])), .string (Tr.text (t.kids[k])), .slice A1 (Tr.kids (t.kids[k])).length c1]).cells 24)) := HC.out.2.2.1.trans ((Chg.drew (Chg.refl [] U)).trans (HX.out.2.1.trans hXa))
      have hC3 : Chg (v.ownBlock.toList) V0 X3 := (hV0X.mono (by simp)).grown hgr (by intro k hk; rw [hk]; simp)
      have hrow3 := HG.out X3 v' hown' hgr hat
      rw [← take_snoc' _ _ hlt] at hrow3
      have hnb : ∀ b, b ∈ v.ownBlock.toList → w.heap.size + 2 ≤ b := fun b hb => by have := H.out.row.own b (by simpa using hb); omega
      have hout3 := hC3.at H.out.out (fun hm => by have := hnb _ hm; omega)
      have hres3 := hC3.at H.out.res (fun hm => by have := hnb _ hm; omega)
      obtain ⟨A', c', rfl⟩ := own_slice hown'
      have s3' := (blk4 hout3).2.2.2
      have f3 := blkF hout3 3
      have hnb3 : ∀ b, (Value.slice A' (k + 1) c').ownBlock = some b → w.heap.size + 2 ≤ b := fun b hb => by have := hrow3.own b hb; omega
      have H3 := Lib.hid (And.intro hrow3 (And.intro hout3 (And.intro hres3 (And.intro (H.out.chg.andThen hC3 (fun i hi => .inr (by have := hnb i hi; omega))) hnb3))))
      clear hrow3 hout3 hres3 hown' hgr hat hXa hnb hnb3 hC3 HG q3 hV0X
      refine wpList_nil ⟨s3', ?_⟩
      ((try dsimp only); (try simp only [Act.put, List.setIfInBounds_toArray, List.set_cons_zero, List.set_cons_succ]))
      refine M_pure (i := 6) (v := ?_) rfl (by kernel_rfl) (by kernel_rfl) (by kernel_rfl) (fun _ _ _ h => h) (by rfl) ?hy ?_; (case hy => (intro w; go_simp; with_reducible rfl)); ((try dsimp only); (try simp only [Act.put, List.setIfInBounds_toArray, List.set_cons_zero, List.set_cons_succ]))
      refine M_brk (i := 7) rfl (by kernel_rfl) (by rfl) (by rfl) ?_
      go_wp2_with fail
      refine M_done (by kernel_rfl) ?_ _
      go_wp2_with (skip; fail)
      go_roundw
      case rel =>
        have hCs : Chg [w.heap.size] X3 (X3.setCell ⟨w.heap.size, 3, none⟩ (.slice A' (k + 1) c')) := (Chg.refl _ _).setCell _ _ (by simp)
        exact ⟨k + 1, .slice A' (k + 1) c', by omega, by go_num, Lib.hid ⟨heap_setCell_same _ _ 3 _ _ _ H3.out.2.1, hCs.at H3.out.2.2.1 (by simp), H3.out.2.2.2.1.andThen hCs (fun i hi => .inr (by simp at hi; omega)), H3.out.1.kept hCs (fun b hb => by have := H3.out.2.2.2.2 b hb; simp; omega) (fun g hg => by simp; omega)⟩⟩
      case measure => simp [intOf]; omega
    · obtain rfl : k = t.kids.length := by omega
      have hrow := H.out.row
      rw [List.take_of_length_le (Nat.le_refl _)] at hrow
      obtain ⟨A', c', rfl, hV⟩ := hrow.node t HH.out.2.2.1
      have HV := Lib.hid hV
      clear hrow hV
      obtain ⟨q0, q1, q2, q3⟩ := blk4 H.out.out
      obtain ⟨r0, r1, r2, r3⟩ := blk4 H.out.res
      have f0 := blkF H.out.res 0
      have f1 := blkF H.out.res 1
      have f2 := blkF H.out.res 2
      have f3 := blkF H.out.res 3
      go_wp2_with (skip; fail)
      have hC0 := chg4 V0 (w.heap.size + 1) (.int .i64 t.id) (.int .i64 t.kind) (.string t.text) (.slice A' t.kids.length c')
      have hsz := H.out.chg.size
      have hF : ∀ g, w.heap.size + 2 ≤ g ∨ (Value.slice A' t.kids.length c').ownBlock = some g → w.heap.size + 2 ≤ g := fun g hg => by
        rcases hg with hg | hg
        · omega
        · have := H.out.row.own g hg; omega
      refine bodyPost_ret (v := .agg #[.int .i64 (Tr.id t), .int .i64 (Tr.kind t), .string (Tr.text t), .slice A' (Tr.kids t).length c']) (results_cell_row rfl _ _ (w.heap.size + 1) _ _ _ _ rfl (set4 H.out.res) Try.underlying24 rfl szNode) rfl ⟨A', c', rfl, ?_, H.out.chg.andThen hC0 (by simp)⟩
      exact ((HV.out.bound.weak (F' := fun g => w.heap.size + 2 ≤ g ∧ g < V0.heap.size) (fun g hg => ⟨hF g hg.1, hg.2⟩)).kept hC0 (fun g hg => by simp; omega)).weak (fun g hg => ⟨by omega, Nat.lt_of_lt_of_le hg.2 hC0.size⟩)
end Go.Proofs.Ytofjocjljbkjgaa
namespace Go.Proofs.Ytofjocjljbkjgaa
open Go.RowKit
theorem cells9 {w : World} {b : Nat} {a0 a1 a2 a3 a4 a5 a6 a7 a8 : Value} {t : TypeId} {fr : Nat × Nat} (h : w.heap[b]? = some (.cells #[a0, a1, a2, a3, a4, a5, a6, a7, a8] t fr)) :
    w.cell? ⟨b, 0, none⟩ = some a0 ∧ w.cell? ⟨b, 1, none⟩ = some a1 ∧ w.cell? ⟨b, 2, none⟩ = some a2 ∧ w.cell? ⟨b, 3, none⟩ = some a3 ∧ w.cell? ⟨b, 4, none⟩ = some a4 ∧ w.cell? ⟨b, 5, none⟩ = some a5 ∧ w.cell? ⟨b, 6, none⟩ = some a6 ∧ w.cell? ⟨b, 7, none⟩ = some a7 ∧ w.cell? ⟨b, 8, none⟩ = some a8 := by
  simp [World.cell?, h]
theorem results_row_tmp2 {P : Program} {fn : Func} {p u u2 : Tmp} {ty : TypeId} (h : fn.results = #[.cell p ty, .tmp u, .tmp u2]) (tmps : Array Value) (w : World) (g : Nat) (t : TypeId) (cs : Array Value) (fr : Nat × Nat) (d : TypeDesc) (x y : Value)
    (hp : tmps.getD p undef = .pointer (some ⟨g, 0, none⟩)) (hv : tmps.getD u undef = x) (hv2 : tmps.getD u2 undef = y) (hg : w.heap[g]? = some (.cells cs t fr)) (hu : P.underlying ty = some d) (hd : (match d with | .struct _ | .array _ _ => true | _ => false) = true) (hi : (P.info? ty).map (·.size) = some cs.size) :
    (results fn tmps).run P w = .ok (.tuple #[.agg cs, x, y]) w := by
  have hp' : tmps[p]?.getD undef = .pointer (some ⟨g, 0, none⟩) := by simpa using hp
  have hv' : tmps[u]?.getD undef = x := by simpa using hv
  have hv2' : tmps[u2]?.getD undef = y := by simpa using hv2
  simp [results, h, hp', hv', hv2', asAddr, run_loadVar_row w g t ty cs fr d hg hu hd hi]
structure Kp (B0 : Nat) (Lo : List Nat) (W W' : World) : Prop where
  os : W'.os = W.os
  tape : W'.tape = W.tape
  output : W'.output = W.output
  size : W.heap.size ≤ W'.heap.size
  block : ∀ k, k < W.heap.size → k < B0 → k ∉ Lo → W'.heap[k]? = W.heap[k]?
theorem Kp.of_chg {B0 : Nat} {Lo l : List Nat} {W W' : World} (h : Chg l W W') (hl : ∀ k, k ∈ l → B0 ≤ k ∨ k ∈ Lo) : Kp B0 Lo W W' := ⟨h.os, h.tape, h.output, h.size, fun k h1 h2 h3 => h.block k h1 (fun hm => by rcases hl k hm with h | h; omega; exact h3 h)⟩
theorem Kp.at {B0 : Nat} {Lo : List Nat} {W W' : World} (h : Kp B0 Lo W W') {b : Nat} {o : Obj} (hb : W.heap[b]? = some o) (h1 : b < B0) (h2 : b ∉ Lo) : W'.heap[b]? = some o := (h.block b (lt_of_block hb) h1 h2).trans hb
theorem Kp.chg {B0 : Nat} {Lo : List Nat} {w W W' : World} (h : Kp B0 Lo W W') (hc : Chg Lo w W) (hB : w.heap.size ≤ B0) : Chg Lo w W' :=
  ⟨h.os.trans hc.os, h.tape.trans hc.tape, h.output.trans hc.output, Nat.le_trans hc.size h.size, fun k h1 h2 => (h.block k (Nat.lt_of_lt_of_le h1 hc.size) (by omega) h2).trans (hc.block k h1 h2)⟩
def foldF (f : Tr → Stp → Except Int Tr) : Tr → List Stp → Nat → Tr × Nat × Int
  | x, [], i => (x, i, 0)
  | x, s :: l, i => match f x s with
    | .error n => (x, i, n)
    | .ok y => foldF f y l (i + 1)
def SepK (n : Nat) (Sep : World → Nat → Prop) : Prop := ∀ W W' b, n ≤ W.heap.size → Sep W b → Chg [n, n + 1] W W' → Sep W' b
def FoldOne (f : Tr → Stp → Except Int Tr) (Lo : List Nat) (Sep : World → Nat → Prop) (B0 : Nat) (J : Nat → Tr → World → Prop) (i : Nat) (x : Tr) (s : Stp) (W : World) (v : Value) (W' : World) : Prop :=
  match f x s with
  | .error n => n ≠ 0 ∧ Chg [] W W' ∧ (∃ (z : Tr) (A : Option Addr) (c : Nat), v = .tuple #[.agg #[.int .i64 (Tr.id z), .int .i64 (Tr.kind z), .string (Tr.text z), .slice A (Tr.kids z).length c], .int .i64 n]) ∧ J i x W'
  | .ok y => Kp B0 Lo W W' ∧ (∃ A c, v = .tuple #[.agg #[.int .i64 (Tr.id y), .int .i64 (Tr.kind y), .string (Tr.text y), .slice A (Tr.kids y).length c], .int .i64 0] ∧ TrC (fun b => W.heap.size ≤ b ∧ b < W'.heap.size ∧ Sep W' b) W' y [.int .i64 (Tr.id y), .int .i64 (Tr.kind y), .string (Tr.text y), .slice A (Tr.kids y).length c]) ∧ J (i + 1) y W'
structure FoldW (w : World) (x : Tr) (A : Option Addr) (c : Nat) (Lo : List Nat) (Sep : World → Nat → Prop) (O : Nat → Prop) (W : World) : Prop where
  s : W.heap[w.heap.size]? = some (.cells #[.int .i64 (Tr.id x), .int .i64 (Tr.kind x), .string (Tr.text x), .slice A (Tr.kids x).length c] 24 (0, 0))
  r : W.heap[w.heap.size + 1]? = some (.cells #[.int .i64 0, .int .i64 0, .string ⟨#[]⟩, .slice none 0 0] 24 (0, 0))
  x : TrC (fun b => b < W.heap.size ∧ (O b ∨ w.heap.size + 2 ≤ b) ∧ Sep W b) W x [.int .i64 (Tr.id x), .int .i64 (Tr.kind x), .string (Tr.text x), .slice A (Tr.kids x).length c]
  chg : Chg Lo w W
theorem FoldW.kept {w : World} {x : Tr} {A : Option Addr} {c : Nat} {Lo : List Nat} {Sep : World → Nat → Prop} {O : Nat → Prop} {W W' : World} (hSep : SepK w.heap.size Sep) (h : FoldW w x A c Lo Sep O W) (hc : Chg [] W W') : FoldW w x A c Lo Sep O W' :=
  ⟨hc.at h.s (by simp), hc.at h.r (by simp), (h.x.kept hc (by simp)).weak (fun b hb _ => ⟨Nat.lt_of_lt_of_le hb.1 hc.size, hb.2.1, hSep _ _ _ h.chg.size hb.2.2 (hc.mono (by simp))⟩), h.chg.trans (hc.mono (by simp))⟩
theorem FoldW.read {w : World} {x : Tr} {A : Option Addr} {c : Nat} {Lo : List Nat} {Sep : World → Nat → Prop} {O : Nat → Prop} {W : World} (h : FoldW w x A c Lo Sep O W) : TrC (fun b => b < W.heap.size ∧ Sep W b) W x [.int .i64 (Tr.id x), .int .i64 (Tr.kind x), .string (Tr.text x), .slice A (Tr.kids x).length c] := h.x.weak (fun b hb _ => ⟨hb.1, hb.2.2⟩)
def FoldPost (w : World) (Lo : List Nat) (O : Nat → Prop) (J : Nat → Tr → World → Prop) (r : Tr × Nat × Int) (e : Ending) (w' : World) : Prop :=
  ∃ A c, e = .returned (.tuple #[.agg #[.int .i64 (Tr.id r.1), .int .i64 (Tr.kind r.1), .string (Tr.text r.1), .slice A (Tr.kids r.1).length c], .int .i64 r.2.1, .int .i64 r.2.2]) ∧ TrC (fun b => b < w'.heap.size ∧ (O b ∨ w.heap.size + 2 ≤ b)) w' r.1 [.int .i64 (Tr.id r.1), .int .i64 (Tr.kind r.1), .string (Tr.text r.1), .slice A (Tr.kids r.1).length c] ∧ J r.2.1 r.1 w' ∧ Chg Lo w w'
theorem foldPost_end {w V w' : World} {Lo : List Nat} {Sep : World → Nat → Prop} {O : Nat → Prop} (hO : ∀ b, O b → b < w.heap.size) {J : Nat → Tr → World → Prop} {x : Tr} {Ax : Option Addr} {cx k : Nat} {n : Int} (h : FoldW w x Ax cx Lo Sep O V) (hJx : J k x V) (hs : w.heap.size + 2 ≤ V.heap.size) (hJ : ∀ i x W W', J i x W → Chg [w.heap.size, w.heap.size + 1] W W' → J i x W') (hc : Chg [w.heap.size + 1] V w') : FoldPost w Lo O J (x, k, n) (.returned (.tuple #[.agg #[.int .i64 (Tr.id x), .int .i64 (Tr.kind x), .string (Tr.text x), .slice Ax (Tr.kids x).length cx], .int .i64 k, .int .i64 n])) w' := by
  have hsz := hc.size
  refine ⟨Ax, cx, rfl, ?_, hJ _ _ _ _ hJx (hc.mono (by simp)), h.chg.andThen hc (by simp)⟩
  exact (h.x.kept hc (fun b hb => by rcases hb.2.1 with h | h; have := hO b h; simp; omega; simp; omega)).weak (fun b hb _ => ⟨by omega, hb.2.1⟩)
set_option maxHeartbeats 4000000 in
set_option maxRecDepth 100000 in
theorem fold_any (K : FuncId) (lb : Array Value) (eg : ∀ args w, (callFunc K args).run Try.prog w = .ok (.enter K args) w) (f : Tr → Stp → Except Int Tr) (Lo : List Nat) (Sep : World → Nat → Prop) (O : Nat → Prop) (J : Nat → Tr → World → Prop) (ss : List Stp) (B : Option Addr) (d : Nat) (x0 : Tr) (A0 : Option Addr) (c0 : Nat) (w : World)
    (hl : ss.length ≤ 9223372036854775807) (hLo : ∀ k ∈ Lo, k < w.heap.size) (hS : StpsC (fun b => b < w.heap.size ∧ b ∉ Lo) w B ss) (hO : ∀ b, O b → b < w.heap.size) (hSep : SepK w.heap.size Sep) (hO2 : ∀ b, O b → Sep w b) (hT : TrC O w x0 [.int .i64 (Tr.id x0), .int .i64 (Tr.kind x0), .string (Tr.text x0), .slice A0 (Tr.kids x0).length c0]) (hJ : ∀ i x W W', J i x W → Chg [w.heap.size, w.heap.size + 1] W W' → J i x W') (h0 : J 0 x0 w)
    (hone : ∀ (i : Nat) (x : Tr) (A : Option Addr) (c : Nat) (s : Stp) (As : Option Addr) (cs : Nat) (W : World), Chg Lo w W → w.heap.size + 2 ≤ W.heap.size → J i x W → ss[i]? = some s → TrC (fun b => b < W.heap.size ∧ Sep W b) W x [.int .i64 (Tr.id x), .int .i64 (Tr.kind x), .string (Tr.text x), .slice A (Tr.kids x).length c] → StpC (fun b => b < w.heap.size ∧ b ∉ Lo) W s (#[.int .i8 (Stp.op s), .int .i64 (Stp.id s), .int .i64 (Stp.par s), .int .i64 (Stp.place s), .string (Stp.text s), .int .i64 (Stp.sub s).id, .int .i64 (Stp.sub s).kind, .string (Stp.sub s).text, .slice As (Stp.sub s).kids.length cs] : Array Value).toList →
      Calls Try.prog K (#[.agg #[.int .i64 (Tr.id x), .int .i64 (Tr.kind x), .string (Tr.text x), .slice A (Tr.kids x).length c], .agg #[.int .i8 (Stp.op s), .int .i64 (Stp.id s), .int .i64 (Stp.par s), .int .i64 (Stp.place s), .string (Stp.text s), .int .i64 (Stp.sub s).id, .int .i64 (Stp.sub s).kind, .string (Stp.sub s).text, .slice As (Stp.sub s).kids.length cs]] ++ lb) W (fun e W' => ∃ v, e = .returned v ∧ FoldOne f Lo Sep (w.heap.size + 2) J i x s W v W')) :
    Calls Try.prog 68 #[.agg #[.int .i64 (Tr.id x0), .int .i64 (Tr.kind x0), .string (Tr.text x0), .slice A0 (Tr.kids x0).length c0], .slice B ss.length d, .func (.func K) #[] lb] w (FoldPost w Lo O J (foldF f x0 ss 0)) := by
  obtain ⟨W, hW⟩ : ∃ W, W = (w.alloc (.cells #[.int .i64 (Tr.id x0), .int .i64 (Tr.kind x0), .string (Tr.text x0), .slice A0 (Tr.kids x0).length c0] 24)).alloc (.cells #[.int .i64 0, .int .i64 0, .string ⟨#[]⟩, .slice none 0 0] 24) := ⟨_, rfl⟩
  have hcW : Chg [] w W := by rw [hW]; exact (by with_reducible repeat (first | exact Chg.refl _ _ | apply Chg.alloc | apply Chg.drew | apply Chg.drewN | (refine Chg.setCell ?_ _ _ (by simp))))
  have hWs : W.heap.size = w.heap.size + 2 := by rw [hW]; simp
  have hF : FoldW w x0 A0 c0 Lo Sep O W := ⟨by rw [hW]; exact heap_old (heap_new _ _ rfl) _, by rw [hW]; exact heap_new _ _ (by simp), (hT.kept hcW (by simp)).weak (fun b hb _ => ⟨Nat.lt_of_lt_of_le (hO b hb) hcW.size, .inl hb, hSep _ _ _ (Nat.le_refl _) (hO2 b hb) (hcW.mono (by simp))⟩), hcW.mono (by simp)⟩
  have HW := Lib.hid (And.intro hF (And.intro (hJ _ _ _ _ h0 (hcW.mono (by simp))) (And.intro hWs hW)))
  have HH := Lib.hid (And.intro hLo (And.intro hS (And.intro hJ (And.intro hone eg))))
  have HK := Lib.hid hSep
  clear hcW hF h0 hLo hS hT hJ hone eg hWs hW hSep hO2
  go_enter Try.func68, Try.ntmps68
  go_wp2_with (skip; fail)
  rw [← HW.out.2.2.2]
  go_step3
  go_wp2_with (skip; fail)
  go_step3
  go_wp2_with (skip; fail)
  go_loopw [15] (fun iv wr => ∃ (k : Nat) (x : Tr) (Ax : Option Addr) (cx : Nat), k ≤ ss.length ∧ iv = .int .i64 k ∧ Hid (FoldW w x Ax cx Lo Sep O wr ∧ J k x wr ∧ w.heap.size + 2 ≤ wr.heap.size ∧ foldF f x0 ss 0 = foldF f x (ss.drop k) k)) (fun iv _ => ss.length - (intOf iv).toNat)
  case atStart => exact ⟨0, x0, A0, c0, Nat.zero_le _, rfl, Lib.hid ⟨HW.out.1, HW.out.2.1, by have := HW.out.2.2.1; omega, rfl⟩⟩
  case round =>
    obtain ⟨k, x, Ax, cx, hk, rfl, H⟩ := hrel
    obtain ⟨V, hV⟩ : ∃ V, V = wr := ⟨_, rfl⟩
    subst hV
    by_cases hlt : k < ss.length
    · have hmv := HH.out.2.1.move (ok' := fun b => b < w.heap.size ∧ b ∉ Lo) (fun g hg hlt => ⟨H.out.1.chg.block g hg.1 hg.2, hg⟩)
      obtain ⟨gs, os, As, cs, rfl, _, hrs, hTs, hts, hop⟩ := hmv.at hlt
      obtain ⟨s, hs⟩ : ∃ s, s = ss[k] := ⟨_, rfl⟩
      have hse : ss[k]? = some s := by rw [hs]; exact List.getElem?_eq_getElem hlt
      rw [← hs] at hrs hTs hts hop
      have hun : foldF f x0 ss 0 = match f x s with | .error n => (x, k, n) | .ok y => foldF f y (ss.drop (k + 1)) (k + 1) := by
        rw [H.out.2.2.2, List.drop_eq_getElem_cons hlt, ← hs]; rfl
      obtain ⟨U, hU⟩ : ∃ U, U = V.alloc (.cells #[.int .i8 (Stp.op s), .int .i64 (Stp.id s), .int .i64 (Stp.par s), .int .i64 (Stp.place s), .string (Stp.text s), .int .i64 (Stp.sub s).id, .int .i64 (Stp.sub s).kind, .string (Stp.sub s).text, .slice As (Stp.sub s).kids.length cs] 27) := ⟨_, rfl⟩
      have hVU : Chg [] V U := by rw [hU]; exact (by with_reducible repeat (first | exact Chg.refl _ _ | apply Chg.alloc | apply Chg.drew | apply Chg.drewN | (refine Chg.setCell ?_ _ _ (by simp))))
      have hFU := H.out.1.kept HK.out hVU
      have hUb : U.heap[V.heap.size]? = some (.cells #[.int .i8 (Stp.op s), .int .i64 (Stp.id s), .int .i64 (Stp.par s), .int .i64 (Stp.place s), .string (Stp.text s), .int .i64 (Stp.sub s).id, .int .i64 (Stp.sub s).kind, .string (Stp.sub s).text, .slice As (Stp.sub s).kids.length cs] 27 (0, 0)) := by rw [hU]; exact heap_new _ _ rfl
      have hcall := HH.out.2.2.2.1 k x Ax cx s As cs U hFU.chg (Nat.le_trans H.out.2.2.1 hVU.size) (HH.out.2.2.1 _ _ _ _ H.out.2.1 (hVU.mono (by simp))) hse hFU.read ((show StpC (fun b => b < w.heap.size ∧ b ∉ Lo) V s (#[.int .i8 (Stp.op s), .int .i64 (Stp.id s), .int .i64 (Stp.par s), .int .i64 (Stp.place s), .string (Stp.text s), .int .i64 (Stp.sub s).id, .int .i64 (Stp.sub s).kind, .string (Stp.sub s).text, .slice As (Stp.sub s).kids.length cs] : Array Value).toList from ⟨As, cs, rfl, hTs, hts, hop⟩).kept hVU (by simp))
      obtain ⟨p0, p1, p2, p3⟩ := blk4 hFU.s
      obtain ⟨q0, q1, q2, q3, q4, q5, q6, q7, q8⟩ := cells9 hUb
      have HU := Lib.hid (And.intro hrs (And.intro hU (And.intro hFU (And.intro hun (And.intro hcall (Nat.le_trans H.out.2.2.1 hVU.size))))))
      rw [hU] at p0 p1 p2 p3 q0 q1 q2 q3 q4 q5 q6 q7 q8
      clear hmv hrs hTs hts hop hs hse hun hU hVU hFU hUb hcall
      go_upto_region 4 with (first
        | (refine wpList_load_mid rfl 27 (.tmp 18) rfl gs (os + k * 9) (by kernel_rfl) _ _ HU.out.1 Try.underlying27 rfl (by kernel_rfl) ?_
           ((try dsimp only); (try simp only [Act.put, List.setIfInBounds_toArray, List.set_cons_zero, List.set_cons_succ])))
        | (skip; fail))
      cases hfx : f x s with
      | error n =>
        have hun := HU.out.2.2.2.1
        rw [hfx] at hun
        have HF := Lib.hid hfx
        have HUn := Lib.hid hun
        clear hfx hun
        have hcf := HH.out.2.2.2.2
        go_wp2_with fail
        rw [← HU.out.2.1]
        clear p0 p1 p2 p3 q0 q1 q2 q3 q4 q5 q6 q7 q8 hcf
        refine HU.out.2.2.2.2.1.mono ?_
        rintro e X ⟨v, rfl, hR⟩
        unfold FoldOne at hR
        rw [HF.out] at hR
        obtain ⟨hn0, hcX, ⟨zz, Az, cz, rfl⟩, hJX⟩ := hR
        have e0 : (n == 0) = false := by simpa using hn0
        have e0' : (n != 0) = true := by simpa using hn0
        have hFX := HU.out.2.2.1.kept HK.out hcX
        obtain ⟨p0, p1, p2, p3⟩ := blk4 hFX.s
        obtain ⟨r0, r1, r2, r3⟩ := blk4 hFX.r
        have f0 := blkF hFX.r 0
        have f1 := blkF hFX.r 1
        have f2 := blkF hFX.r 2
        have f3 := blkF hFX.r 3
        have hl0 := lt_of_block hFX.s
        have hl1 := lt_of_block hFX.r
        have HX := Lib.hid (And.intro hFX (And.intro hJX hcX.size))
        clear hn0 hcX hJX hFX
        go_wp2_with (skip; fail)
        have hc4 := chg4 X (w.heap.size + 1) (.int .i64 x.id) (.int .i64 x.kind) (.string x.text) (.slice Ax x.kids.length cx)
        rw [Exit.noGoto_ret]
        go_wp2_with (skip; fail)
        refine bodyPost_ret (v := .tuple #[.agg #[.int .i64 (Tr.id x), .int .i64 (Tr.kind x), .string (Tr.text x), .slice Ax (Tr.kids x).length cx], .int .i64 k, .int .i64 n]) (results_row_tmp2 rfl _ _ (w.heap.size + 1) _ _ _ _ _ _ rfl rfl rfl (heap_old (set4 HX.out.1.r) _) Try.underlying24 rfl szNode) rfl ?_
        rw [HUn.out]
        exact foldPost_end hO HX.out.1 HX.out.2.1 (Nat.le_trans HU.out.2.2.2.2.2 HX.out.2.2) HH.out.2.2.1 (hc4.alloc _)
      | ok y =>
        have hun := HU.out.2.2.2.1
        rw [hfx] at hun
        have HF := Lib.hid hfx
        have HUn := Lib.hid hun
        clear hfx hun
        have hcf := HH.out.2.2.2.2
        go_wp2_with fail
        rw [← HU.out.2.1]
        clear p0 p1 p2 p3 q0 q1 q2 q3 q4 q5 q6 q7 q8 hcf
        refine HU.out.2.2.2.2.1.mono ?_
        rintro e X ⟨v, rfl, hR⟩
        unfold FoldOne at hR
        rw [HF.out] at hR
        obtain ⟨hkp, ⟨Ay, cy, rfl, hTy⟩, hJX⟩ := hR
        have hs0 := hkp.at HU.out.2.2.1.s (by omega) (fun hm => by have := HH.out.1 _ hm; omega)
        have hr0 := hkp.at HU.out.2.2.1.r (by omega) (fun hm => by have := HH.out.1 _ hm; omega)
        obtain ⟨p0, p1, p2, p3⟩ := blk4 hs0
        have f0 := blkF hs0 0
        have f1 := blkF hs0 1
        have f2 := blkF hs0 2
        have f3 := blkF hs0 3
        have hl0 := lt_of_block hs0
        have HX := Lib.hid (And.intro hkp (And.intro hTy (And.intro hJX (And.intro hs0 hr0))))
        clear hkp hTy hJX hs0 hr0
        go_wp2_with (skip; fail)
        go_roundw
        case rel =>
          have hc4 := (chg4 X w.heap.size (.int .i64 y.id) (.int .i64 y.kind) (.string y.text) (.slice Ay y.kids.length cy)).alloc (.cells #[.int .i64 (Tr.id y), .int .i64 (Tr.kind y), .string (Tr.text y), .slice Ay (Tr.kids y).length cy] 24)
          have hUs := HU.out.2.2.2.2.2
          have hXs := HX.out.1.size
          have hs4 := hc4.size
          refine ⟨k + 1, y, Ay, cy, by omega, by go_num, Lib.hid ⟨⟨heap_old (set4 HX.out.2.2.2.1) _, hc4.at HX.out.2.2.2.2 (by simp), (HX.out.2.1.kept hc4 (fun b hb => by simp; omega)).weak (fun b hb _ => ⟨by omega, .inr (by omega), HK.out _ _ _ (by omega) hb.2.2 (hc4.mono (by simp))⟩), (HX.out.1.chg HU.out.2.2.1.chg (by omega)).andThen hc4 (by simp)⟩, HH.out.2.2.1 _ _ _ _ HX.out.2.2.1 (hc4.mono (by simp)), by omega, HUn.out⟩⟩
        case measure => simp [intOf]; omega
    · obtain rfl : k = ss.length := by omega
      obtain ⟨p0, p1, p2, p3⟩ := blk4 H.out.1.s
      obtain ⟨r0, r1, r2, r3⟩ := blk4 H.out.1.r
      have f0 := blkF H.out.1.r 0
      have f1 := blkF H.out.1.r 1
      have f2 := blkF H.out.1.r 2
      have f3 := blkF H.out.1.r 3
      have hfin := H.out.2.2.2
      rw [List.drop_length] at hfin
      have HFin := Lib.hid hfin
      clear hfin
      go_wp2_with (skip; fail)
      rw [Exit.noGoto_ret]
      refine bodyPost_ret (v := .tuple #[.agg #[.int .i64 (Tr.id x), .int .i64 (Tr.kind x), .string (Tr.text x), .slice Ax (Tr.kids x).length cx], .int .i64 ss.length, .int .i64 0]) (results_row_tmp2 rfl _ _ (w.heap.size + 1) _ _ _ _ _ _ rfl rfl rfl (set4 H.out.1.r) Try.underlying24 rfl szNode) rfl ?_
      have hc4 := chg4 V (w.heap.size + 1) (.int .i64 x.id) (.int .i64 x.kind) (.string x.text) (.slice Ax x.kids.length cx)
      rw [HFin.out]
      exact foldPost_end hO (x := x) (k := ss.length) (n := 0) H.out.1 H.out.2.1 H.out.2.2.1 HH.out.2.2.1 hc4
end Go.Proofs.Ytofjocjljbkjgaa
