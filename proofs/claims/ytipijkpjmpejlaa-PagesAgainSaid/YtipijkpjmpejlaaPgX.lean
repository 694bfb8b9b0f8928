import Derived.Test.YtipijkpjmpejlaaPgV
import Derived.Test.YtipijkpjmpejlaaPgW
/- The walk of the law PagesAgain. -/
set_option linter.unusedVariables false
set_option linter.unusedSimpArgs false
namespace Go.Proofs.Ytipijkpjmpejlaa
open Go.RowKit
/-- What the disk tells behind i openings. -/
def Again (was : Img) (E : DS) (i : Nat) : Prop :=
  (was = Img.zero ∧ Good E 0 0 1 ∧ imageOf E = (Img.zero, 0, 0)) ∨ (was.gen ≠ 0 ∧ was.boot = 1 ∧ Good E was.gen was.half (1 + i) ∧ (imageOf E).1 = { was with boot := 1 + i } ∧ (imageOf E).2.2 = 0)
theorem again_start {N : Int} {D : DS} {P : PS} (h : Sync N D P) (hN : N ≤ 1000000) : Again (imageOf D).1 D 0 ∧ (imageOf D).2.2 = 0 := by
  by_cases hg : P.img.gen = 0
  · have hG := h.good hN
    have hi := look_blank hG hg
    refine ⟨.inl ⟨by rw [hi], ⟨hG.down, hG.armed, hG.boot, ?_⟩, hi⟩, by rw [hi]⟩
    rcases hG.sec with ⟨_, h0⟩ | ⟨g1, _⟩
    · exact .inl ⟨rfl, h0⟩
    · omega
  · have hG := h.good hN
    have hi := look_good hG hg
    rw [hi]
    exact ⟨.inr ⟨hg, rfl, by simpa using hG, by simp [hi], by rw [hi]⟩, rfl⟩
theorem again_open {was : Img} {E : DS} {i : Nat} (h : Again was E i) (hi : i ≤ 20) : ∃ E' P' B, openOf E = (E', some P', 0) ∧ Again was E' (i + 1) ∧ P'.img.gen = was.gen ∧ lookOf E' = ({ was with boot := B }, 0) ∧ (was.gen ≠ 0 → B = was.boot + i + 1) ∧ (E' = E ∨ E' = E.write 0 (bytes0 was.gen was.half (1 + i + 1))) := by
  rcases h with ⟨rfl, hG, him⟩ | ⟨hg, hb, hG, h1, h2⟩
  · refine ⟨E, ⟨Img.zero, 0, false⟩, 0, ?_, .inl ⟨rfl, hG, him⟩, rfl, ?_, fun hh => absurd rfl hh, .inl rfl⟩
    · unfold openOf
      rw [him]
      rfl
    · unfold lookOf
      rw [him]
      rfl
  · obtain ⟨E', P', ho, hgen, hG', hi1, hi2, hE⟩ := open_good hG hg (by omega)
    have e : (1 + (i : Int) + 1) = 1 + ((i + 1 : Nat) : Int) := by omega
    refine ⟨E', P', 1 + i + 1, ho, .inr ⟨hg, hb, by rw [← e]; exact hG', by rw [hi1, h1, ← e], hi2⟩, hgen, ?_, fun _ => by rw [hb], .inr hE⟩
    unfold lookOf
    rw [hi1, hi2, h1]
theorem again_room {E E' : DS} {n : Int} {bs : List Int} {k : Nat} (h : E.Room (k + 1)) (he : E' = E ∨ E' = E.write n bs) : E'.Room k := by
  rcases he with rfl | rfl
  · exact h.less (by omega)
  · exact h.write n bs
set_option maxHeartbeats 16000000 in
set_option maxRecDepth 100000 in
theorem pagesAgain_walk (A : Option Addr) (acts : List Act') (c : Nat) (times : Int) (w : World) (hA : Acts7 w A acts) (hm : acts.length ≤ 9223372036854775807) : Calls Try.prog 11 #[.slice A acts.length c, .int .i64 times] w fun e w' => e = .returned (.bool true) ∧ Chg [] w w' := by
  have HP := Lib.hid wk_parts.1
  have HG := Lib.hid (great7_any A acts c w hA hm)
  have HA := Lib.hid hA
  clear hA
  have hcase : 30 < acts.length ∨ acts.length ≤ 30 := by omega
  go_enter Try.func11, Try.ntmps11
  go_wp2_with fail
  refine HG.out.mono ?_
  rintro e W ⟨bb, rfl, hb, rfl⟩
  cases bb with
  | true =>
    clear hb
    go_wp2_with (go_at_call 56; refine (wakes_any _).mono ?_; rintro e W ⟨rfl, hC⟩; have HC := Lib.hid hC; clear hC)
    go_ret
    exact ⟨rfl, HC.out⟩
  | false =>
    have HL := Lib.hid (hb rfl)
    clear hb
    rcases hcase with h30 | h30
    · go_wp2_with (go_at_call 56; refine (wakes_any _).mono ?_; rintro e W ⟨rfl, hC⟩; have HC := Lib.hid hC; clear hC)
      go_ret
      exact ⟨rfl, HC.out⟩
    · go_wp2_with (go_at_call 28; refine (dnew_i w).mono ?_; rintro e W3 ⟨rfl, hd3, hc3⟩; have H3 := Lib.hid (And.intro hd3 hc3); clear hd3 hc3)
      have ho := open_any w W3 _ DS.new H3.out.1 (new_room.less (by omega))
      rw [HP.out] at ho
      have HO := Lib.hid ho
      clear ho
      refine HO.out.mono ?_
      rintro e W4 ⟨hd4, hc4, q, rfl, hq4, hqs⟩
      have H4 := Lib.hid (And.intro hd4 (And.intro hq4 (hc4.old H3.out.2)))
      clear hd4 hc4 hq4 hqs
      go_wp2_with fail
      go_loopw [41] (fun iv wr => ∃ (i : Nat) (D : DS) (P : PS), i ≤ acts.length ∧ iv = .int .i64 i ∧ Hid (DiskI w wr (w.heap.size + 1) D ∧ PagesI w wr q (w.heap.size + 1) P ∧ Sync i D P ∧ D.Room (1024 * (100 - i)) ∧ Chg [] w wr)) (fun iv _ => acts.length - (intOf iv).toNat)
      case atStart => exact ⟨0, DS.new, ⟨Img.zero, 0, false⟩, Nat.zero_le _, rfl, Lib.hid ⟨H4.out.1, H4.out.2.1, ⟨rfl, Img.zero_fit, rfl, rfl, (fun k hk => by show num4 zeros 1 ≤ 1; decide +kernel), .inl ⟨rfl, rfl⟩⟩, new_room.less (by omega), H4.out.2.2⟩⟩
      case round =>
        obtain ⟨i, D, P, hi, rfl, HI⟩ := hrel
        by_cases hlt : i < acts.length
        · obtain ⟨x, hx⟩ : ∃ x, acts[i]? = some x := ⟨acts[i], List.getElem?_eq_getElem hlt⟩
          obtain ⟨g, o, Ab, cb, hAe, hgw, hr, hB, hbl, hbb, hbn⟩ := HA.out i x hx
          subst hAe
          have hl6 : x.b.length ≤ 60000 := HL.out.2 x (List.mem_of_getElem? hx)
          have HR := Lib.hid (HI.out.2.2.2.2.range hr (by simp))
          have HX := Lib.hid (And.intro hB (And.intro hbb hbn))
          clear hr hB hbb hbn hx hgw
          have hX : Chg [] wr (wr.alloc (.cells #[.int .i64 x.kind, .int .i64 x.n, .slice Ab x.b.length cb] 94)) := (by with_reducible repeat (first | exact Chg.refl _ _ | apply Chg.alloc | apply Chg.drew | apply Chg.drewN | (refine Chg.setCell ?_ _ _ (by simp))))
          have hwX := HI.out.2.2.2.2.trans hX
          have hbk : BytesK w (wr.alloc (.cells #[.int .i64 x.kind, .int .i64 x.n, .slice Ab x.b.length cb] 94)) Ab x.b := ⟨HX.out.1.kept hwX (by simp), fun ad hp e => by obtain ⟨ad', e', hb, _⟩ := HX.out.1 hp; rw [e] at e'; cases e'; exact .inl hb⟩
          have hroom : D.Room (1024 * (100 - (i + 1)) + 1024) := HI.out.2.2.2.1.less (by omega)
          have hsy := act_sync (x := x) HI.out.2.2.1 (by omega) (by omega) HX.out.2.1
          have hrm := act_room (P := P) (x := x) hroom
          have HS := Lib.hid (And.intro hsy hrm)
          have hgz : P.img.gen = 0 ∨ P.img.gen ≠ 0 := by omega
          have HK := Lib.hid (And.intro (HI.out.1.kept0 hX) (And.intro (HI.out.2.1.kept0 hX) (And.intro hbk (And.intro hwX hroom))))
          have hbkc := Lib.hid (blank_any w _ q _ P (HI.out.2.1.kept0 hX))
          clear hX hwX hbk hroom hsy hrm
          by_cases hk : x.kind = 1
          · have e1 : (x.kind == 1) = true := by simpa using hk
            have hact : actOf D P x = snapOf D P x.b := by unfold actOf; rw [if_pos (.inl hk)]
            have HAC := Lib.hid hact
            clear hact hk hgz
            go_wp2_with (first
              | (refine wpList_load_mid rfl 94 (.tmp 43) rfl g (o + i * 3) (by kernel_rfl) _ _ HR.out Try.underlying94 rfl (by kernel_rfl) ?_
                 ((try dsimp only); (try simp only [Act.put, List.setIfInBounds_toArray, List.set_cons_zero, List.set_cons_succ])))
              | (skip; fail))
            refine (snap_any w _ _ q D P Ab x.b cb HK.out.1 HK.out.2.1 HI.out.2.2.1.fit HK.out.2.2.1 HX.out.2.2 HX.out.2.1 (HK.out.2.2.2.2.less (by omega)) (by omega)).mono ?_
            rintro e V ⟨rfl, hv1, hv2, hv3⟩
            rw [← HAC.out] at hv1 hv2
            have HV := Lib.hid (And.intro hv1 (And.intro hv2 (hv3.old HK.out.2.2.2.1)))
            clear hv1 hv2 hv3
            go_wp2_with fail
            go_roundw
            case rel => exact ⟨i + 1, (actOf D P x).1, (actOf D P x).2.1, by omega, by go_num, Lib.hid ⟨HV.out.1, HV.out.2.1, by have h := HS.out.1; simpa using h, HS.out.2, HV.out.2.2⟩⟩
            case measure => simp [intOf]; omega
          · have e1 : (x.kind == 1) = false := by simpa using hk
            rcases hgz with hg | hg
            · have e2 : (P.img.gen == 0) = true := by simpa using hg
              have hact : actOf D P x = snapOf D P x.b := by unfold actOf; rw [if_pos (.inr hg)]
              have HAC := Lib.hid hact
              clear hact hk hg
              go_wp2_with (first
                | (refine wpList_load_mid rfl 94 (.tmp 43) rfl g (o + i * 3) (by kernel_rfl) _ _ HR.out Try.underlying94 rfl (by kernel_rfl) ?_
                   ((try dsimp only); (try simp only [Act.put, List.setIfInBounds_toArray, List.set_cons_zero, List.set_cons_succ])))
                | (go_at_call 58; refine hbkc.out.mono ?_; rintro e w' ⟨rfl, rfl⟩)
                | (skip; fail))
              refine (snap_any w _ _ q D P Ab x.b cb HK.out.1 HK.out.2.1 HI.out.2.2.1.fit HK.out.2.2.1 HX.out.2.2 HX.out.2.1 (HK.out.2.2.2.2.less (by omega)) (by omega)).mono ?_
              rintro e V ⟨rfl, hv1, hv2, hv3⟩
              rw [← HAC.out] at hv1 hv2
              have HV := Lib.hid (And.intro hv1 (And.intro hv2 (hv3.old HK.out.2.2.2.1)))
              clear hv1 hv2 hv3
              go_wp2_with fail
              go_roundw
              case rel => exact ⟨i + 1, (actOf D P x).1, (actOf D P x).2.1, by omega, by go_num, Lib.hid ⟨HV.out.1, HV.out.2.1, by have h := HS.out.1; simpa using h, HS.out.2, HV.out.2.2⟩⟩
              case measure => simp [intOf]; omega
            · have e2 : (P.img.gen == 0) = false := by simpa using hg
              have hact : actOf D P x = appendOf D P x.b := by unfold actOf; rw [if_neg (by simp [hk, hg])]
              have HAC := Lib.hid hact
              clear hact hk hg
              go_wp2_with (first
                | (refine wpList_load_mid rfl 94 (.tmp 43) rfl g (o + i * 3) (by kernel_rfl) _ _ HR.out Try.underlying94 rfl (by kernel_rfl) ?_
                   ((try dsimp only); (try simp only [Act.put, List.setIfInBounds_toArray, List.set_cons_zero, List.set_cons_succ])))
                | (go_at_call 58; refine hbkc.out.mono ?_; rintro e w' ⟨rfl, rfl⟩)
                | (skip; fail))
              refine (append_any w _ _ q D P Ab x.b cb HK.out.1 HK.out.2.1 HI.out.2.2.1.fit HK.out.2.2.1 HX.out.2.2 HX.out.2.1 (HK.out.2.2.2.2.less (by omega)) (by omega)).mono ?_
              rintro e V ⟨rfl, hv1, hv2, hv3⟩
              rw [← HAC.out] at hv1 hv2
              have HV := Lib.hid (And.intro hv1 (And.intro hv2 (hv3.old HK.out.2.2.2.1)))
              clear hv1 hv2 hv3
              go_wp2_with fail
              go_roundw
              case rel => exact ⟨i + 1, (actOf D P x).1, (actOf D P x).2.1, by omega, by go_num, Lib.hid ⟨HV.out.1, HV.out.2.1, by have h := HS.out.1; simpa using h, HS.out.2, HV.out.2.2⟩⟩
              case measure => simp [intOf]; omega
        · obtain rfl : i = acts.length := by omega
          obtain ⟨hag, hle⟩ := again_start HI.out.2.2.1 (by omega)
          have hfit := imageOf_fit (D := D) (by obtain ⟨_, _, _, _, _, _, h⟩ := HI.out.1; exact h)
          have hlk := look_any w wr _ D HI.out.1
          have hlo : lookOf D = ((imageOf D).1, 0) := by unfold lookOf; rw [hle]
          rw [hlo] at hlk
          obtain ⟨was, hwas⟩ : ∃ was, was = (imageOf D).1 := ⟨_, rfl⟩
          rw [← hwas] at hlk hag hfit
          obtain ⟨wg, wh, wb, wrs⟩ := was
          have hrl : wrs.length ≤ 100000 := by have h1 := hfit.count; have h2 := hfit.most; dsimp only at h1; omega
          have HLK := Lib.hid (And.intro hlk hag)
          clear hlk hag hfit hlo hle hwas
          go_wp2_with fail
          refine HLK.out.1.mono ?_
          rintro e W5 ⟨v5, rfl, hr5, hc5⟩
          obtain ⟨A5, c5, rfl⟩ := hr5.slice
          dsimp only at hr5 ⊢
          have H5 := Lib.hid (And.intro hr5 (And.intro (HI.out.2.2.2.2.trans hc5) (HI.out.1.kept0 hc5)))
          clear hr5 hc5
          go_wp2_with (first
            | (refine wpList_alloc rfl 98 rfl _ zeroImg ?_
               refine wpList_world (fun Z => Z.heap[W5.heap.size]? = some (.cells #[.int .i64 0, .int .i64 0, .int .i64 0, .slice none 0 0] 98 (0, 0)) ∧ Chg [] W5 Z) ⟨heap_new _ _ rfl, (by with_reducible repeat (first | exact Chg.refl _ _ | apply Chg.alloc | apply Chg.drew | apply Chg.drewN | (refine Chg.setCell ?_ _ _ (by simp))))⟩ ?_
               rintro Z ⟨hb, hZ⟩
               refine wpList_store_row rfl 98 (.tmp 10) (.tmp 64) rfl W5.heap.size (by kernel_rfl) #[.int .i64 wg, .int .i64 wh, .int .i64 wb, .slice A5 wrs.length c5] (by kernel_rfl) _ _ hb infoImg rfl (img_one _ _ _ _ rfl) ?_
               refine wpList_world (fun U => U.heap[W5.heap.size]? = some (.cells #[.int .i64 wg, .int .i64 wh, .int .i64 wb, .slice A5 wrs.length c5] 98 (0, 0)) ∧ Chg [] W5 U) ⟨setRow_heap _ _ _ _ _ _ hb, hZ.andThen (setRow_chg _ _ _) (by simp)⟩ ?_
               rintro U ⟨hu, hU⟩
               have HU := Lib.hid (And.intro hu (And.intro hU (And.intro (H5.out.2.1.trans hU) (And.intro (H5.out.2.2.kept0 hU) (H5.out.1.kept0 hU)))))
               clear hb hZ hu hU
               ((try dsimp only); (try simp only [Act.put, List.setIfInBounds_toArray, List.set_cons_zero, List.set_cons_succ])))
            | (refine wpList_max2 rfl (.tmp 68) (.const (.int .i64 0)) 3 3 rfl times 0 (by kernel_rfl) rfl ?_; intro mx hmx)
            | (refine wpList_min2 rfl (.tmp 69) (.const (.int .i64 20)) 3 3 rfl mx 20 (by kernel_rfl) rfl ?_; intro my hmy)
            | (skip; fail))
          have hmb : 0 ≤ my ∧ my ≤ 20 := by rw [hmy.out, hmx.out]; omega
          obtain ⟨N, hN⟩ : ∃ N : Nat, my = (N : Int) := ⟨my.toNat, by omega⟩
          subst hN
          have hN20 : N ≤ 20 := by omega
          clear hmb
          have hroom : D.Room 2000 := HI.out.2.2.2.1.less (by omega)
          go_loopw [71] (fun iv wz => ∃ (k : Nat) (E : DS), k ≤ N ∧ iv = .int .i64 k ∧ Hid (DiskI w wz (w.heap.size + 1) E ∧ Again ⟨wg, wh, wb, wrs⟩ E k ∧ E.Room (2000 - k) ∧ ChgT w TD U wz)) (fun iv _ => N - (intOf iv).toNat)
          case atStart => exact ⟨0, D, Nat.zero_le _, rfl, Lib.hid ⟨HU.out.2.2.2.1, HLK.out.2, hroom, ChgT.refl _ _ _⟩⟩
          case round =>
            obtain ⟨k, E, hk, rfl, HE⟩ := hrel
            generalize wr = wz at *
            by_cases hlt : k < N
            · obtain ⟨E', P', B, ho, hag', hgen, hlo, hB, hE⟩ := again_open HE.out.2.1 (by omega)
              have hrm := again_room (k := 2000 - (k + 1)) (HE.out.2.2.1.less (by omega)) hE
              have hop := open_any w wz _ E HE.out.1 (HE.out.2.2.1.less (by omega))
              rw [ho] at hop
              have HOP := Lib.hid hop
              have HAG := Lib.hid (And.intro hag' hrm)
              dsimp only at hgen hlo hB
              clear ho hag' hE hrm hop
              have hwb : wg ≠ 0 → wb = 1 := fun hne => by rcases HE.out.2.1 with ⟨e, _⟩ | ⟨_, e, _⟩; · exact absurd (by injection e) hne
                                                          · exact e
              by_cases hz : wg = 0
              · have e1 : (P'.img.gen == 0) = true := by rw [hgen]; simpa using hz
                clear hgen hB hwb hz
                have HLO := Lib.hid hlo
                clear hlo
                go_wp2_with fail
                refine HOP.out.mono ?_
                rintro e X1 ⟨hd1, hc1, q1, rfl, hp1, _⟩
                have hl1 := look_any w X1 _ E' hd1
                rw [HLO.out] at hl1
                have HX1 := Lib.hid (And.intro hd1 (And.intro hc1 (And.intro hp1 hl1)))
                clear hd1 hc1 hp1 hl1
                go_wp2_with fail
                refine HX1.out.2.2.2.mono ?_
                rintro e X2 ⟨v6, rfl, hr6, hc6⟩
                obtain ⟨A6, c6, rfl⟩ := hr6.slice
                dsimp only at hr6 ⊢
                have HX2 := Lib.hid (And.intro hr6 hc6)
                clear hr6 hc6
                go_wp2_with (first
                  | (refine wpList_alloc rfl 98 rfl _ zeroImg ?_
                     refine wpList_world (fun Z => Z.heap[X2.heap.size]? = some (.cells #[.int .i64 0, .int .i64 0, .int .i64 0, .slice none 0 0] 98 (0, 0)) ∧ Chg [] X2 Z) ⟨heap_new _ _ rfl, (by with_reducible repeat (first | exact Chg.refl _ _ | apply Chg.alloc | apply Chg.drew | apply Chg.drewN | (refine Chg.setCell ?_ _ _ (by simp))))⟩ ?_
                     rintro Z2 ⟨hb, hZ⟩
                     refine wpList_store_row rfl 98 (.tmp 15) (.tmp 82) rfl X2.heap.size (by kernel_rfl) #[.int .i64 wg, .int .i64 wh, .int .i64 B, .slice A6 wrs.length c6] (by kernel_rfl) _ _ hb infoImg rfl (img_one _ _ _ _ rfl) ?_
                     refine wpList_world (fun U => U.heap[X2.heap.size]? = some (.cells #[.int .i64 wg, .int .i64 wh, .int .i64 B, .slice A6 wrs.length c6] 98 (0, 0)) ∧ Chg [] X2 U) ⟨setRow_heap _ _ _ _ _ _ hb, hZ.andThen (setRow_chg _ _ _) (by simp)⟩ ?_
                     rintro X3 ⟨hu, hU⟩
                     have HX3 := Lib.hid (And.intro hu hU)
                     clear hb hZ hu hU
                     ((try dsimp only); (try simp only [Act.put, List.setIfInBounds_toArray, List.set_cons_zero, List.set_cons_succ])))
                  | (skip; fail))
                have hl3 := look_any w X3 _ E' ((HX1.out.1.kept0 HX2.out.2).kept0 HX3.out.2)
                rw [HLO.out] at hl3
                refine hl3.mono ?_
                clear hl3
                rintro e X4 ⟨v7, rfl, hr7, hc7⟩
                obtain ⟨A7, c7, rfl⟩ := hr7.slice
                dsimp only at hr7 ⊢
                have HX4 := Lib.hid (And.intro hr7 hc7)
                clear hr7 hc7
                go_wp2_with (first
                  | (refine wpList_alloc rfl 98 rfl _ zeroImg ?_
                     refine wpList_world (fun Z => Z.heap[X4.heap.size]? = some (.cells #[.int .i64 0, .int .i64 0, .int .i64 0, .slice none 0 0] 98 (0, 0)) ∧ Chg [] X4 Z) ⟨heap_new _ _ rfl, (by with_reducible repeat (first | exact Chg.refl _ _ | apply Chg.alloc | apply Chg.drew | apply Chg.drewN | (refine Chg.setCell ?_ _ _ (by simp))))⟩ ?_
                     rintro Z4 ⟨hb, hZ⟩
                     refine wpList_store_row rfl 98 (.tmp 17) (.tmp 87) rfl X4.heap.size (by kernel_rfl) #[.int .i64 wg, .int .i64 wh, .int .i64 B, .slice A7 wrs.length c7] (by kernel_rfl) _ _ hb infoImg rfl (img_one _ _ _ _ rfl) ?_
                     refine wpList_world (fun U => U.heap[X4.heap.size]? = some (.cells #[.int .i64 wg, .int .i64 wh, .int .i64 B, .slice A7 wrs.length c7] 98 (0, 0)) ∧ Chg [] X4 U) ⟨setRow_heap _ _ _ _ _ _ hb, hZ.andThen (setRow_chg _ _ _) (by simp)⟩ ?_
                     rintro X5 ⟨hu, hU⟩
                     have HX5 := Lib.hid (And.intro hu hU)
                     clear hb hZ hu hU
                     have hT : ChgT w TD U X5 := HE.out.2.2.2.trans (HX1.out.2.1.trans (ChgT.of_nil (((HX2.out.2.trans HX3.out.2).trans HX4.out.2).trans HX5.out.2)))
                     have hF : X5.heap[X2.heap.size]? = some (.cells #[.int .i64 wg, .int .i64 wh, .int .i64 B, .slice A6 wrs.length c6] 98 (0, 0)) ∧ X5.heap[X4.heap.size]? = some (.cells #[.int .i64 wg, .int .i64 wh, .int .i64 B, .slice A7 wrs.length c7] 98 (0, 0)) ∧ X5.heap[W5.heap.size]? = some (.cells #[.int .i64 wg, .int .i64 wh, .int .i64 wb, .slice A5 wrs.length c5] 98 (0, 0)) ∧ RecsA X5 0 (.slice A6 wrs.length c6) wrs ∧ RecsA X5 0 (.slice A7 wrs.length c7) wrs ∧ RecsA X5 0 (.slice A5 wrs.length c5) wrs ∧ PagesI w X5 q1 (w.heap.size + 1) P' :=
                       ⟨(HX4.out.2.trans HX5.out.2).at HX3.out.1 (by simp), HX5.out.1, hT.at HU.out.1 (by simp [okind, TD]), ((HX2.out.1.kept0 HX3.out.2).kept0 (HX4.out.2.trans HX5.out.2)).base (Nat.zero_le _), (HX4.out.1.kept0 HX5.out.2).base (Nat.zero_le _), (HU.out.2.2.2.2.kept hT (by decide) (by decide)).base (Nat.zero_le _), HX1.out.2.2.1.kept0 (((HX2.out.2.trans HX3.out.2).trans HX4.out.2).trans HX5.out.2)⟩
                     have HF := Lib.hid hF
                     have HT := Lib.hid hT
                     clear hF hT
                     obtain ⟨a0, a1, a2, a3, _⟩ := cell4 HF.out.1
                     obtain ⟨d0, d1, d2, d3, _⟩ := cell4 HF.out.2.2.1
                     ((try dsimp only); (try simp only [Act.put, List.setIfInBounds_toArray, List.set_cons_zero, List.set_cons_succ])))
                  | (go_at_call 62
                     refine (records_eq X5 0 0 _ _ wrs HF.out.2.2.2.1 HF.out.2.2.2.2.2.1 hrl).mono ?_
                     rintro e Y6 ⟨rfl, hy6⟩
                     clear a0 a1 a2 a3 d0 d1 d2 d3
                     obtain ⟨a0, a1, a2, a3, _⟩ := cell4 (hy6.at HF.out.1 (by simp))
                     obtain ⟨b0, b1, b2, b3, _⟩ := cell4 (hy6.at HF.out.2.1 (by simp))
                     have HY6 := Lib.hid hy6
                     clear hy6)
                  | (skip; fail))
                refine (same_eq Y6 0 0 wg wh B _ _ wrs (HF.out.2.2.2.1.kept0 HY6.out) (HF.out.2.2.2.2.1.kept0 HY6.out) hrl).mono ?_
                rintro e Y7 ⟨rfl, hy7⟩
                clear a0 a1 a2 a3 b0 b1 b2 b3
                obtain ⟨a0, a1, a2, a3, _⟩ := cell4 ((HY6.out.trans hy7).at HF.out.1 (by simp))
                obtain ⟨d0, d1, d2, d3, _⟩ := cell4 ((HY6.out.trans hy7).at HF.out.2.2.1 (by simp))
                have HY7 := Lib.hid (HY6.out.trans hy7)
                clear hy7
                go_wp2_with fail
                refine (blank_any w Y7 q1 _ P' (HF.out.2.2.2.2.2.2.kept0 HY7.out)).mono ?_
                rintro e w' ⟨rfl, rfl⟩
                go_wp2_with fail
                go_roundw
                case rel => exact ⟨k + 1, E', by omega, by go_num, Lib.hid ⟨(((HX1.out.1.kept0 HX2.out.2).kept0 HX3.out.2).kept0 (HX4.out.2.trans HX5.out.2)).kept0 HY7.out, HAG.out.1, HAG.out.2, HT.out.trans (ChgT.of_nil HY7.out)⟩⟩
                case measure => simp [intOf]; omega
              · have e1 : (P'.img.gen == 0) = false := by rw [hgen]; simpa using hz
                obtain rfl := hB hz
                have hw1 := hwb hz
                have hw0 : 0 ≤ wb := by omega
                have hw2 : wb ≤ 1 := by omega
                clear hgen hB hwb hz hw1
                have HLO := Lib.hid hlo
                clear hlo
                go_wp2_with fail
                refine HOP.out.mono ?_
                rintro e X1 ⟨hd1, hc1, q1, rfl, hp1, _⟩
                have hl1 := look_any w X1 _ E' hd1
                rw [HLO.out] at hl1
                have HX1 := Lib.hid (And.intro hd1 (And.intro hc1 (And.intro hp1 hl1)))
                clear hd1 hc1 hp1 hl1
                go_wp2_with fail
                refine HX1.out.2.2.2.mono ?_
                rintro e X2 ⟨v6, rfl, hr6, hc6⟩
                obtain ⟨A6, c6, rfl⟩ := hr6.slice
                dsimp only at hr6 ⊢
                have HX2 := Lib.hid (And.intro hr6 hc6)
                clear hr6 hc6
                go_wp2_with (first
                  | (refine wpList_alloc rfl 98 rfl _ zeroImg ?_
                     refine wpList_world (fun Z => Z.heap[X2.heap.size]? = some (.cells #[.int .i64 0, .int .i64 0, .int .i64 0, .slice none 0 0] 98 (0, 0)) ∧ Chg [] X2 Z) ⟨heap_new _ _ rfl, (by with_reducible repeat (first | exact Chg.refl _ _ | apply Chg.alloc | apply Chg.drew | apply Chg.drewN | (refine Chg.setCell ?_ _ _ (by simp))))⟩ ?_
                     rintro Z2 ⟨hb, hZ⟩
                     refine wpList_store_row rfl 98 (.tmp 15) (.tmp 82) rfl X2.heap.size (by kernel_rfl) #[.int .i64 wg, .int .i64 wh, .int .i64 (wb + k + 1), .slice A6 wrs.length c6] (by kernel_rfl) _ _ hb infoImg rfl (img_one _ _ _ _ rfl) ?_
                     refine wpList_world (fun U => U.heap[X2.heap.size]? = some (.cells #[.int .i64 wg, .int .i64 wh, .int .i64 (wb + k + 1), .slice A6 wrs.length c6] 98 (0, 0)) ∧ Chg [] X2 U) ⟨setRow_heap _ _ _ _ _ _ hb, hZ.andThen (setRow_chg _ _ _) (by simp)⟩ ?_
                     rintro X3 ⟨hu, hU⟩
                     have HX3 := Lib.hid (And.intro hu hU)
                     clear hb hZ hu hU
                     ((try dsimp only); (try simp only [Act.put, List.setIfInBounds_toArray, List.set_cons_zero, List.set_cons_succ])))
                  | (skip; fail))
                have hl3 := look_any w X3 _ E' ((HX1.out.1.kept0 HX2.out.2).kept0 HX3.out.2)
                rw [HLO.out] at hl3
                refine hl3.mono ?_
                clear hl3
                rintro e X4 ⟨v7, rfl, hr7, hc7⟩
                obtain ⟨A7, c7, rfl⟩ := hr7.slice
                dsimp only at hr7 ⊢
                have HX4 := Lib.hid (And.intro hr7 hc7)
                clear hr7 hc7
                go_wp2_with (first
                  | (refine wpList_alloc rfl 98 rfl _ zeroImg ?_
                     refine wpList_world (fun Z => Z.heap[X4.heap.size]? = some (.cells #[.int .i64 0, .int .i64 0, .int .i64 0, .slice none 0 0] 98 (0, 0)) ∧ Chg [] X4 Z) ⟨heap_new _ _ rfl, (by with_reducible repeat (first | exact Chg.refl _ _ | apply Chg.alloc | apply Chg.drew | apply Chg.drewN | (refine Chg.setCell ?_ _ _ (by simp))))⟩ ?_
                     rintro Z4 ⟨hb, hZ⟩
                     refine wpList_store_row rfl 98 (.tmp 17) (.tmp 87) rfl X4.heap.size (by kernel_rfl) #[.int .i64 wg, .int .i64 wh, .int .i64 (wb + k + 1), .slice A7 wrs.length c7] (by kernel_rfl) _ _ hb infoImg rfl (img_one _ _ _ _ rfl) ?_
                     refine wpList_world (fun U => U.heap[X4.heap.size]? = some (.cells #[.int .i64 wg, .int .i64 wh, .int .i64 (wb + k + 1), .slice A7 wrs.length c7] 98 (0, 0)) ∧ Chg [] X4 U) ⟨setRow_heap _ _ _ _ _ _ hb, hZ.andThen (setRow_chg _ _ _) (by simp)⟩ ?_
                     rintro X5 ⟨hu, hU⟩
                     have HX5 := Lib.hid (And.intro hu hU)
                     clear hb hZ hu hU
                     have hT : ChgT w TD U X5 := HE.out.2.2.2.trans (HX1.out.2.1.trans (ChgT.of_nil (((HX2.out.2.trans HX3.out.2).trans HX4.out.2).trans HX5.out.2)))
                     have hF : X5.heap[X2.heap.size]? = some (.cells #[.int .i64 wg, .int .i64 wh, .int .i64 (wb + k + 1), .slice A6 wrs.length c6] 98 (0, 0)) ∧ X5.heap[X4.heap.size]? = some (.cells #[.int .i64 wg, .int .i64 wh, .int .i64 (wb + k + 1), .slice A7 wrs.length c7] 98 (0, 0)) ∧ X5.heap[W5.heap.size]? = some (.cells #[.int .i64 wg, .int .i64 wh, .int .i64 wb, .slice A5 wrs.length c5] 98 (0, 0)) ∧ RecsA X5 0 (.slice A6 wrs.length c6) wrs ∧ RecsA X5 0 (.slice A7 wrs.length c7) wrs ∧ RecsA X5 0 (.slice A5 wrs.length c5) wrs ∧ PagesI w X5 q1 (w.heap.size + 1) P' :=
                       ⟨(HX4.out.2.trans HX5.out.2).at HX3.out.1 (by simp), HX5.out.1, hT.at HU.out.1 (by simp [okind, TD]), ((HX2.out.1.kept0 HX3.out.2).kept0 (HX4.out.2.trans HX5.out.2)).base (Nat.zero_le _), (HX4.out.1.kept0 HX5.out.2).base (Nat.zero_le _), (HU.out.2.2.2.2.kept hT (by decide) (by decide)).base (Nat.zero_le _), HX1.out.2.2.1.kept0 (((HX2.out.2.trans HX3.out.2).trans HX4.out.2).trans HX5.out.2)⟩
                     have HF := Lib.hid hF
                     have HT := Lib.hid hT
                     clear hF hT
                     obtain ⟨a0, a1, a2, a3, _⟩ := cell4 HF.out.1
                     obtain ⟨d0, d1, d2, d3, _⟩ := cell4 HF.out.2.2.1
                     ((try dsimp only); (try simp only [Act.put, List.setIfInBounds_toArray, List.set_cons_zero, List.set_cons_succ])))
                  | (go_at_call 62
                     refine (records_eq X5 0 0 _ _ wrs HF.out.2.2.2.1 HF.out.2.2.2.2.2.1 hrl).mono ?_
                     rintro e Y6 ⟨rfl, hy6⟩
                     clear a0 a1 a2 a3 d0 d1 d2 d3
                     obtain ⟨a0, a1, a2, a3, _⟩ := cell4 (hy6.at HF.out.1 (by simp))
                     obtain ⟨b0, b1, b2, b3, _⟩ := cell4 (hy6.at HF.out.2.1 (by simp))
                     have HY6 := Lib.hid hy6
                     clear hy6)
                  | (skip; fail))
                refine (same_eq Y6 0 0 wg wh (wb + k + 1) _ _ wrs (HF.out.2.2.2.1.kept0 HY6.out) (HF.out.2.2.2.2.1.kept0 HY6.out) hrl).mono ?_
                rintro e Y7 ⟨rfl, hy7⟩
                clear a0 a1 a2 a3 b0 b1 b2 b3
                obtain ⟨a0, a1, a2, a3, _⟩ := cell4 ((HY6.out.trans hy7).at HF.out.1 (by simp))
                obtain ⟨d0, d1, d2, d3, _⟩ := cell4 ((HY6.out.trans hy7).at HF.out.2.2.1 (by simp))
                have HY7 := Lib.hid (HY6.out.trans hy7)
                clear hy7
                go_wp2_with fail
                refine (blank_any w Y7 q1 _ P' (HF.out.2.2.2.2.2.2.kept0 HY7.out)).mono ?_
                rintro e w' ⟨rfl, rfl⟩
                go_wp2_with fail
                go_roundw
                case rel => exact ⟨k + 1, E', by omega, by go_num, Lib.hid ⟨(((HX1.out.1.kept0 HX2.out.2).kept0 HX3.out.2).kept0 (HX4.out.2.trans HX5.out.2)).kept0 HY7.out, HAG.out.1, HAG.out.2, HT.out.trans (ChgT.of_nil HY7.out)⟩⟩
                case measure => simp [intOf]; omega
            · go_wp2_with (go_at_call 56; refine (wakes_any _).mono ?_; rintro e W ⟨rfl, hC⟩; have HC := Lib.hid hC; clear hC)
              go_ret
              exact ⟨rfl, (HE.out.2.2.2.old HU.out.2.2.1).trans HC.out⟩
end Go.Proofs.Ytipijkpjmpejlaa
