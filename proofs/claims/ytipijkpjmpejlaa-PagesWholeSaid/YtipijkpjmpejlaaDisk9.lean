import Derived.Test.YtipijkpjmpejlaaDisk8
/- The walk of the law DiskLast: a sector tells the last write to it. -/
set_option linter.unusedVariables false
set_option linter.unusedSimpArgs false
namespace Go.Proofs.Ytipijkpjmpejlaa
open Go.RowKit
theorem DiskA.other {w : World} {p bm : Nat} {v : Value} {L : List (Int × List Int)} {down armed : Bool} {left : Int} (h : DiskA w p bm v L down armed left) {g : Nat} {cs : Array Value} {e : TypeId} {fr : Nat × Nat} (hg : w.heap[g]? = some (.cells cs e fr)) (h1 : e ≠ 126) (h2 : e ≠ 130) : g ∉ p :: bm :: v.ownBlock.toList := by
  obtain ⟨hb, ⟨m, ⟨es, cl, hm, _⟩, _⟩, hl, _⟩ := h
  intro hmem
  simp only [List.mem_cons, Option.mem_toList] at hmem
  rcases hmem with rfl | rfl | hk
  · rw [hb] at hg; injection hg with hg; injection hg with _ he _; exact h1 he.symm
  · rw [hm] at hg; cases hg
  · rcases hl.2 with ⟨rfl, _⟩ | ⟨g', cap, cur, rfl, _, hh, _⟩
    · cases hk
    · cases hk
      rw [hh] at hg; injection hg with hg; injection hg with _ he _; exact h2 he.symm
theorem own_full {w : World} {base n g : Nat} {e : TypeId} {xs : List Value} (h : w.ownsRow base e 1 (.slice (some ⟨g, 0, none⟩) n n) n xs) : w.heap[g]? = some (.cells xs.toArray e (0, 0)) ∧ base ≤ g := by
  rcases h.2 with ⟨h0, _⟩ | ⟨g', cap, cur, hv, hb, hh, _, _, hsz, htk⟩
  · cases h0
  · injection hv with hA _ hc
    injection hA with hA
    injection hA with hA
    subst hA hc
    rw [List.take_of_length_le (by simp; omega)] at htk
    subst htk
    exact ⟨by rw [hh], hb⟩
/-- The state of a disk that only this call has: new, with so many writes. -/
structure Mine (w0 w : World) (p bm : Nat) (v : Value) (L : List (Int × List Int)) (left : Int) : Prop where
  disk : DiskA w p bm v L false false left
  new : w0.heap.size ≤ p ∧ w0.heap.size ≤ bm ∧ ∀ k, v.ownBlock = some k → w0.heap.size ≤ k
  chg : Chg [] w0 w
theorem Mine.kept {w0 w w' : World} {p bm : Nat} {v : Value} {L : List (Int × List Int)} {left : Int} (h : Mine w0 w p bm v L left) (hc : Chg [] w w') : Mine w0 w' p bm v L left :=
  ⟨h.disk.kept hc (by simp) (by simp) (by simp), h.new, h.chg.trans hc⟩
/-- A write that may be, at such a disk. -/
theorem mine_write (w0 : World) (p bm : Nat) (v : Value) (L : List (Int × List Int)) (left n : Int) (A : Option Addr) (bs : List Int) (cap : Nat) (w : World) (hM : Mine w0 w p bm v L left) (h1 : 0 ≤ n) (h2 : n < 2049) (h3 : bs.length ≤ 64)
    (hl1 : -1125899906842624 ≤ left) (hl2 : left ≤ 1125899906842624) (hB : BytesAt w0 A bs) (hL : L.length < 1048576) :
    Calls Try.prog 29 #[.pointer (some ⟨p, 0, none⟩), .int .i64 n, .slice A bs.length cap] w fun e w' => e = .returned (.int .i64 0) ∧ ∃ v', Mine w0 w' p bm v' (L ++ [(n, padB bs)]) (left - 1) ∧ Chg (p :: bm :: v.ownBlock.toList) w w' := by
  refine (write_ok p bm v L false left n A bs cap w hM.disk h1 h2 h3 (.inl rfl) hl1 hl2 (hB.kept hM.chg (by simp)) (fun hp ad h e => by obtain ⟨ad', h', hb, _⟩ := hB hp; rw [h] at h'; cases h'; have := hM.new.1; omega) hL).mono ?_
  rintro e w' ⟨rfl, v', hD, hC, hO⟩
  refine ⟨rfl, v', ⟨hD, ⟨hM.new.1, hM.new.2.1, fun k hk => ?_⟩, hM.chg.andThen hC (fun i hi => ?_)⟩, hC⟩
  · rcases hO with h | ⟨b, h, hb⟩
    · exact hM.new.2.2 k (by rw [← h]; exact hk)
    · rw [h] at hk; cases hk; exact Nat.le_trans hM.chg.size hb
  · simp only [List.mem_cons, Option.mem_toList] at hi
    rcases hi with h | h | h
    · subst h; exact .inr hM.new.1
    · subst h; exact .inr hM.new.2.1
    · exact .inr (hM.new.2.2 i h)
theorem diskLast_out (A : Option Addr) (acts : List Act') (c : Nat) (sector : Int) (w : World) (hA : ActsAt w A acts) (hm : acts.length ≤ 9223372036854775807) (h : sector < 0 ∨ 2049 ≤ sector ∨ 200 < acts.length) :
    Calls Try.prog 5 #[.slice A acts.length c, .int .i64 sector] w fun e w' => e = .returned (.bool true) ∧ Chg [] w w' := by
  have HG := Lib.hid (great_any A acts c w hA hm)
  clear hA
  go_enter Try.func5, Try.ntmps5
  go_wp2_with fail
  refine HG.out.mono ?_
  rintro e W ⟨b, rfl, hb, rfl⟩
  cases b with
  | true =>
    clear hb
    go_wp2_with (go_at_call 27; refine (dwakes_any _).mono ?_; rintro e W ⟨rfl, hC⟩; have HC := Lib.hid hC; clear hC)
    go_ret
    exact ⟨rfl, HC.out⟩
  | false =>
    have h200 := hb rfl
    clear hb
    by_cases h1 : sector < 0
    · have g1 : decide (sector < 0) = true := by simpa using h1
      go_wp2_with (go_at_call 27; refine (dwakes_any _).mono ?_; rintro e W ⟨rfl, hC⟩; have HC := Lib.hid hC; clear hC)
      go_ret
      exact ⟨rfl, HC.out⟩
    · have g1 : decide (sector < 0) = false := by simpa using h1
      have g2 : decide (2049 ≤ sector) = true := by simp; omega
      go_wp2_with (go_at_call 27; refine (dwakes_any _).mono ?_; rintro e W ⟨rfl, hC⟩; have HC := Lib.hid hC; clear hC)
      go_ret
      exact ⟨rfl, HC.out⟩
theorem made64 : (madeCells (Value.int .u8 0).cells (64 * 1)).toList = u8s zeros := by
  rw [show (Value.int .u8 0).cells = #[Value.int .u8 0] from rfl, toList_madeCells_one]
  simp [u8s, zeros]
theorem splice_zeros (bs : List Int) (h : bs.length ≤ 64) : splice (u8s zeros) 0 (u8s bs) = u8s (padB bs) := by
  have hr : (u8s zeros).drop bs.length = u8s (List.replicate (64 - bs.length) 0) := by
    unfold u8s zeros
    rw [← List.map_drop, List.drop_replicate]
  simp only [splice, List.take_zero, List.nil_append]
  rw [show 0 + (u8s bs).length = bs.length from by simp [u8s], hr]
  simp [padB, u8s]
theorem conv_str (w : World) (g c : Nat) (bs : List Int) (h : ∀ j u, (u8s bs)[j]? = some u → w.cell? ⟨g, j, none⟩ = some u) : (convert 49 9 (.slice (some ⟨g, 0, none⟩) bs.length c)).run Try.prog w = .ok (.string (strOfNums bs)) w :=
  run_convert_bytes_arg w 49 5 Try.underlying49 Try.underlying5 g 0 bs.length c bs rfl (fun i hi => by
    rw [Nat.zero_add]
    refine h i _ ?_
    simp [u8s, List.getElem?_eq_getElem hi]) 9 Try.underlying9
theorem secOf_snoc' (L : List (Int × List Int)) (n : Int) (b : List Int) (k : Int) : secOf (L ++ [(n, b)]) k = if k = n then b else secOf L k := secOf_snoc n b L k
set_option maxHeartbeats 8000000 in
set_option maxRecDepth 100000 in
theorem diskLast_in (A : Option Addr) (acts : List Act') (c : Nat) (sector : Int) (w : World) (hA : ActsAt w A acts) (hm : acts.length ≤ 9223372036854775807) (h1 : 0 ≤ sector) (h2 : sector < 2049) :
    Calls Try.prog 5 #[.slice A acts.length c, .int .i64 sector] w fun e w' => e = .returned (.bool true) ∧ Chg [] w w' := by
  obtain ⟨ip, hi, hz0, hz1, hz2⟩ := info_parts infoU8
  have HI := Lib.hid (And.intro hi (And.intro hz0 (And.intro hz1 hz2)))
  have HG := Lib.hid (great_any A acts c w hA hm)
  have HA := Lib.hid hA
  clear hi hz0 hz1 hz2 hA
  have g1 : decide (sector < 0) = false := by simp; omega
  have g2 : decide (2049 ≤ sector) = false := by simp; omega
  go_enter Try.func5, Try.ntmps5
  go_wp2_with fail
  refine HG.out.mono ?_
  rintro e W ⟨b, rfl, hb, rfl⟩
  cases b with
  | true =>
    clear hb
    go_wp2_with (go_at_call 27; refine (dwakes_any _).mono ?_; rintro e W ⟨rfl, hC⟩; have HC := Lib.hid hC; clear hC)
    go_ret
    exact ⟨rfl, HC.out⟩
  | false =>
    have h200 := hb rfl
    clear hb HG
    go_wp2_with (first
      | (go_at_call 28; refine (new_any w).mono ?_; rintro e W1 ⟨rfl, hD1, hC1, hZ1⟩
         have HM := Lib.hid (Mine.mk (w0 := w) hD1 ⟨by omega, by omega, fun k hk => by cases hk⟩ hC1)
         have hz1 := hZ1
         clear hD1 hC1 hZ1)
      | (refine wpList_make_full _ rfl (.const (.int .i64 64)) (.const (.int .i64 64)) 49 rfl w.heap.size 5 ip _ 1 Try.underlying49 HI.out.1 HI.out.2.1 HI.out.2.2.1 .i64 .i64 64 64 64 rfl rfl rfl rfl (by rw [HI.out.2.2.2]; omega) (by unfold maxLen; omega) (by omega) ?_
         rintro W2 hown hg
         rw [made64] at hown
         have hW := own_full hown
         rw [hz1] at hW
         have HM2 := Lib.hid (HM.out.kept (Chg.grown (Chg.refl _ _) hg (by simp)))
         have HW := Lib.hid hW
         clear hown hg hW HM))
    go_loopw [6, 26] (fun v6 i wr => ∃ (k : Nat) (v : Value) (L : List (Int × List Int)) (gw : Nat), k ≤ acts.length ∧ i = .int .i64 k ∧ v6 = .slice (some ⟨gw, 0, none⟩) 64 64 ∧ L.length ≤ k ∧ Hid (Mine w wr (w.heap.size + 1) w.heap.size v L (-(L.length : Int))) ∧ Hid (wr.heap[gw]? = some (.cells (u8s (secOf L sector)).toArray 5 (0, 0)) ∧ w.heap.size ≤ gw)) (fun _ i _ => acts.length - (intOf i).toNat)
    case atStart => exact ⟨0, _, [], _, Nat.zero_le _, rfl, rfl, Nat.zero_le _, HM2.out, HW.out⟩
    case round =>
      obtain ⟨k, v, L, gw, hk, rfl, rfl, hLk, HMr, HWr⟩ := hrel
      by_cases hlt : k < acts.length
      · obtain ⟨x, hx⟩ : ∃ x, acts[k]? = some x := ⟨acts[k], List.getElem?_eq_getElem hlt⟩
        obtain ⟨g, o, Ab, cb, rfl, hgw, hr, hB, hbl⟩ := HA.out k x hx
        have hr' := HMr.out.chg.range hr (by simp)
        have HR := Lib.hid hr'
        have HB := Lib.hid hB
        clear hr hr' hB hx
        have hsz1 : g ≠ gw := by have := HWr.out.2; omega
        by_cases hval : x.n < 0 ∨ 2049 ≤ x.n ∨ 64 < x.b.length
        · go_wp2_with (first
            | (refine wpList_load_mid rfl 51 (.tmp 28) rfl g (o + k * 3) rfl _ _ HR.out Try.underlying51 rfl (by kernel_rfl) ?_)
            | (go_at_call 29; refine (write_arg _ _ _ _ _ _ _ _ _ _ _ (HMr.out.disk.kept (l := []) (by with_reducible repeat (first | exact Chg.refl _ _ | apply Chg.alloc | apply Chg.drew | apply Chg.drewN | (refine Chg.setCell ?_ _ _ (by simp)))) (by simp) (by simp) (by simp)) hval).mono ?_; rintro e X ⟨rfl, rfl⟩))
          go_roundw
          case rel => exact ⟨k + 1, v, L, gw, by omega, by go_num, rfl, by omega, HMr.out.kept (by with_reducible repeat (first | exact Chg.refl _ _ | apply Chg.alloc | apply Chg.drew | apply Chg.drewN | (refine Chg.setCell ?_ _ _ (by simp)))), (Chg.at (l := []) (by with_reducible repeat (first | exact Chg.refl _ _ | apply Chg.alloc | apply Chg.drew | apply Chg.drewN | (refine Chg.setCell ?_ _ _ (by simp)))) HWr.out.1 (by simp)), HWr.out.2⟩
          case measure => simp [intOf]; omega
        · go_wp2_with (refine wpList_load_mid rfl 51 (.tmp 28) rfl g (o + k * 3) rfl _ _ HR.out Try.underlying51 rfl (by kernel_rfl) ?_)
          have hbox : (wr.alloc (.cells #[.int .i64 x.kind, .int .i64 x.n, .slice Ab x.b.length cb] 51)).heap[wr.heap.size]? = some (.cells #[.int .i64 x.kind, .int .i64 x.n, .slice Ab x.b.length cb] 51 (0, 0)) := heap_new _ _ rfl
          have hMa : Mine w (wr.alloc (.cells #[.int .i64 x.kind, .int .i64 x.n, .slice Ab x.b.length cb] 51)) _ _ _ _ _ := HMr.out.kept (by with_reducible repeat (first | exact Chg.refl _ _ | apply Chg.alloc | apply Chg.drew | apply Chg.drewN | (refine Chg.setCell ?_ _ _ (by simp))))
          have hga : (wr.alloc (.cells #[.int .i64 x.kind, .int .i64 x.n, .slice Ab x.b.length cb] 51)).heap[gw]? = _ := Chg.at (l := []) (by with_reducible repeat (first | exact Chg.refl _ _ | apply Chg.alloc | apply Chg.drew | apply Chg.drewN | (refine Chg.setCell ?_ _ _ (by simp)))) HWr.out.1 (by simp)
          refine (mine_write w _ _ _ _ _ x.n Ab x.b cb _ hMa (by omega) (by omega) (by omega) (by omega) (by omega) HB.out (by omega)).mono ?_
          rintro e X ⟨rfl, v', hMX, hCX⟩
          have hbX := hCX.at hbox (hMa.disk.other hbox (by decide) (by decide))
          have hgX := hCX.at hga (hMa.disk.other hga (by decide) (by decide))
          have b1 : X.cell? ⟨wr.heap.size, 1, none⟩ = some (.int .i64 x.n) := by simp [World.cell?, hbX]
          have b2 : X.cell? ⟨wr.heap.size, 2, none⟩ = some (.slice Ab x.b.length cb) := by simp [World.cell?, hbX]
          have hleft : (-(L.length : Int) - 1) = -(((L ++ [(x.n, padB x.b)]).length : Nat) : Int) := by simp; omega
          rw [hleft] at hMX
          have HX := Lib.hid (And.intro hMX hgX)
          clear hbox hMa hga hCX hbX hgX hleft hMX
          by_cases hs : x.n = sector
          · have gs : (x.n == sector) = true := by simpa using hs
            have HS := Lib.hid hs
            clear hs
            have hlb : (u8s x.b).length = x.b.length := by simp [u8s]
            have HLB := Lib.hid hlb
            clear hlb
            go_wp2_with (first
              | (refine wpList_make_full _ rfl (.const (.int .i64 64)) (.const (.int .i64 64)) 49 rfl w.heap.size 5 ip _ 1 Try.underlying49 HI.out.1 HI.out.2.1 HI.out.2.2.1 .i64 .i64 64 64 64 rfl rfl rfl rfl (by rw [HI.out.2.2.2]; omega) (by unfold maxLen; omega) HX.out.1.chg.size ?_
                 rintro Y hown hg
                 rw [made64] at hown
                 have hCY : Chg [] X Y := Chg.grown (Chg.refl _ _) hg (by simp)
                 have HY := Lib.hid (And.intro (own_full hown) hCY)
                 have b3 := hCY.cell b2 (by simp)
                 clear hown hg hCY b1 b2)
              | (refine wpList_copy_splice rfl (.tmp 44) (.tmp 46) 49 49 rfl 5 Try.underlying49 szU8 (some ⟨X.heap.size, 0, none⟩) Ab 64 64 x.b.length cb rfl rfl X.heap.size 0 (u8s zeros) 5 HY.out.1.1 (u8s x.b) (by rw [HLB.out]; exact (Nat.min_eq_left (by omega)).symm)
                  (fun h => by
                    rw [HLB.out] at h
                    obtain ⟨ad, hA, hb, hc⟩ := HB.out h
                    exact ⟨rfl, ad, hA, fun j u hu => (HX.out.1.chg.trans HY.out.2).cell (hc j u hu) (by simp)⟩)
                  (by rw [HLB.out]; show 0 + x.b.length ≤ 64; omega) (u8s_one x.b) X.heap.size Y (Below.refl _ _) (Nat.le_refl _) ?_
                 intro Z hz1' hz2'
                 have hzb := hz1'.out
                 rw [splice_zeros x.b (by omega)] at hzb
                 have hCZ : Chg [] X Z := ⟨hz2'.os.trans HY.out.2.os, hz2'.tape.trans HY.out.2.tape, hz2'.output.trans HY.out.2.output, Nat.le_trans HY.out.2.size hz2'.size, fun q hq hn => (hz2'.block q hq).trans (HY.out.2.block q hq (by simp))⟩
                 have HZ := Lib.hid (And.intro hzb hCZ)
                 clear hz1' hz2' hzb hCZ))
            go_roundw
            case rel =>
              refine ⟨k + 1, v', _, X.heap.size, by omega, by go_num, rfl, by simp; omega, HX.out.1.kept HZ.out.2, ?_, HX.out.1.chg.size⟩
              rw [secOf_snoc', if_pos HS.out.symm]; exact HZ.out.1
            case measure => simp [intOf]; omega
          · have gs : (x.n == sector) = false := by simpa using hs
            have HS := Lib.hid hs
            clear hs
            go_wp2_with fail
            go_roundw
            case rel =>
              refine ⟨k + 1, v', _, gw, by omega, by go_num, rfl, by simp; omega, HX.out.1, ?_, HWr.out.2⟩
              rw [secOf_snoc', if_neg (fun e => HS.out e.symm)]; exact HX.out.2
            case measure => simp [intOf]; omega
      · go_wp2_with fail
        refine (read_ok _ _ _ _ _ _ _ _ HMr.out.disk h1 h2).mono ?_
        rintro e X ⟨A6, c6, rfl, hO6, hC6⟩
        obtain ⟨g6, rfl, hg6, _, _, r6⟩ := own_row hO6 (by omega)
        have hl64 := secOf_len L sector HMr.out.disk.len
        have hgX : X.heap[gw]? = _ := hC6.at HWr.out.1 (by simp)
        have hc1 := conv_str X g6 c6 (secOf L sector) r6
        have hc2 := conv_str X gw 64 (secOf L sector) (fun j u hu => by rw [cell_of_row _ _ _ _ _ _ hgX]; simpa using hu)
        rw [hl64] at hc1 hc2
        have HC := Lib.hid (HMr.out.chg.trans hC6)
        clear hO6 hC6 r6 hgX hl64
        generalize strOfNums (secOf L sector) = ss at hc1 hc2
        go_wp2_with fail
        refine (dwakes_any _).mono ?_
        rintro e Y ⟨rfl, hCY⟩
        go_wp2
        go_ret
        exact ⟨rfl, HC.out.trans hCY⟩
theorem diskLast_walk (A : Option Addr) (acts : List Act') (c : Nat) (sector : Int) (w : World) (hA : ActsAt w A acts) (hm : acts.length ≤ 9223372036854775807) :
    Calls Try.prog 5 #[.slice A acts.length c, .int .i64 sector] w fun e w' => e = .returned (.bool true) ∧ Chg [] w w' := by
  by_cases h : sector < 0 ∨ 2049 ≤ sector
  · exact diskLast_out A acts c sector w hA hm (by omega)
  · exact diskLast_in A acts c sector w hA hm (by omega) (by omega)
end Go.Proofs.Ytipijkpjmpejlaa
