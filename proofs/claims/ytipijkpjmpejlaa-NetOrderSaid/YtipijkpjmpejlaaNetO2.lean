import Derived.Test.YtipijkpjmpejlaaNetO1
import Derived.Deep.CutBlock
import Derived.Deep.DeepCutAuto
/- The walk of NetOrder. -/
set_option linter.unusedVariables false
set_option linter.unusedSimpArgs false
namespace Go.Proofs.Ytipijkpjmpejlaa
open Go.RowKit
set_option maxHeartbeats 16000000 in
set_option maxRecDepth 100000 in
theorem netOrder_any (w : World) (count : Int) (A1 : Option Addr) (hs : List Int) (c1 : Nat) (A2 : Option Addr) (ws : List Int) (c2 : Nat) (hh : hs.length ≤ 9223372036854775807) (ha : ws.length ≤ 9223372036854775807) (h1 : IntsAt w A1 hs) (h2 : IntsAt w A2 ws) :
    Calls Try.prog 9 #[.int .i64 count, .slice A1 hs.length c1, .slice A2 ws.length c2] w fun e w' => e = .returned (.bool true) ∧ Chg [] w w' := by
  have HA := Lib.hid (And.intro h1 h2)
  clear h1 h2
  by_cases g1 : 60 < hs.length
  · have g1' : (60 : Int) < hs.length := by omega
    go_enter Try.func9, Try.ntmps9
    go_wp2_with (go_at_call 47; refine (nwakes_any _).mono ?_; rintro e X ⟨rfl, hX⟩; have HX := Lib.hid hX; clear hX)
    go_ret
    exact ⟨rfl, HX.out⟩
  by_cases g2 : 60 < ws.length
  · have g2' : (60 : Int) < ws.length := by omega
    go_enter Try.func9, Try.ntmps9
    go_wp2_with (go_at_call 47; refine (nwakes_any _).mono ?_; rintro e X ⟨rfl, hX⟩; have HX := Lib.hid hX; clear hX)
    go_ret
    exact ⟨rfl, HX.out⟩
  obtain ⟨ip, hi, hz0, hz1, hz2⟩ := info_parts infoInt
  have hm : (Try.prog.info? 39).map (·.size) = some 16 := infoMsg
  have HI := Lib.hid (And.intro hi (And.intro hz0 (And.intro hz1 (And.intro hz2 hm))))
  clear hi hz0 hz1 hz2 hm
  have hb := Int.tmod_lt_of_pos count (show (0 : Int) < 60 by omega)
  have hb2 := Int.lt_tmod_of_pos count (show (0 : Int) < 60 by omega)
  have g1' : ((hs.length : Int) > 60) = False := by simp; omega
  have g1d : decide ((60 : Int) < hs.length) = false := by simp; omega
  have g2d : decide ((60 : Int) < ws.length) = false := by simp; omega
  go_enter Try.func9, Try.ntmps9
  go_wp2_with fail
  obtain ⟨n, hn⟩ : ∃ n : Nat, (n : Int) = (count.tmod 60 + 60) % 60 := ⟨((count.tmod 60 + 60) % 60).toNat, by omega⟩
  have hnlt : n < 60 := by omega
  rw [← hn]
  clear hn hb hb2
  refine (new_at w w [] (Chg.refl _ _) (by simp)).mono ?_
  rintro e W1 ⟨rfl, hN1, -⟩
  have H1 := Lib.hid hN1
  clear hN1 g1'
  go_wp2_with fail
  go_loopw [8, 9] (fun v iv wr => ∃ (j : Nat) (L : List (Msg × Bool)), j ≤ n ∧ iv = .int .i64 j ∧ Ord2 w wr w.heap.size L v ((List.range j).map Int.ofNat)) (fun _ iv _ => n - (intOf iv).toNat)
  case atStart => exact ⟨0, [], Nat.zero_le _, rfl, H1.out, RowI.nil _ _, rfl⟩
  case round =>
    obtain ⟨j, L, hj, rfl, hO⟩ := hrel
    have hLl : L.length = j := by rw [hO.len]; simp
    have HO := Lib.hid (And.intro hO hLl)
    clear hO hLl
    by_cases hlt : j < n
    · have hsd := send_at HO.out.1.net (bareM 0 3 j) none 0 none 0 (bareM_c _ _ _ _ _) (bareM_fit _ _ _)
      rw [HO.out.2, show sendCode (bareM 0 3 j) j = 0 from by simp [sendCode, inside, bareM]; omega] at hsd
      have HS := Lib.hid hsd
      clear hsd
      go_wp2_with (first
        | (go_at_call 42; refine HS.out.mono ?_; rintro e W2 ⟨rfl, hA2, cl, hc2, hd2⟩; have H2 := Lib.hid (And.intro hA2 (HO.out.1.row.kept hc2 (fun b hb hm => hd2 b hm (by rw [hb]; simp)))); clear hA2 hc2 hd2)
        | (refine wpList_append_own_at _ rfl (.tmp 46) (.tmp 48) 73 rfl w.heap.size 3 ip _ 1 8 Try.underlying73 HI.out.1 HI.out.2.1 HI.out.2.2.1 HI.out.2.2.2.1 rfl (by omega) _ j _ rfl ((H2.out.2.kept (Chg.alloc (Chg.refl [] _) _) (by simp)).at (by simp)) ⟨W2.heap.size, 0, none⟩ 1 1 [.int .i64 j] rfl rfl (cell_one_new _ _ _) (by simp [Value.oneCell']) (by unfold maxLen; omega) (by omega) (by have := H2.out.1.size; simp; omega) ?_; intro v' W3 hown' hgr _ hat; have H3 := Lib.hid (And.intro hown' (And.intro hgr hat)); clear hown' hgr hat)
        | fail)
      go_roundw
      case rel =>
        refine ⟨j + 1, L ++ [(bareM 0 3 j, false)], by omega, by go_num, ?_⟩
        rw [List.range_succ, List.map_append]
        exact Ord2.push H2.out.1 H2.out.2 HO.out.1.nums rfl (by simpa using H3.out.1) H3.out.2.1 H3.out.2.2
      case measure => simp [intOf]; omega
    · obtain rfl : j = n := by omega
      clear hj hlt
      obtain ⟨xs, hxs, hO⟩ : ∃ xs : List Int, xs.length = j ∧ Ord2 w wr w.heap.size L u8 xs := ⟨_, by simp, HO.out.1⟩
      obtain ⟨Av, cv, rfl⟩ := hO.row.slice
      obtain rfl : xs.length = j := hxs
      have HO1 := Lib.hid hO
      clear hO HO
      go_upto_block 2 with (fail)
      go_cut [10] (fun _ wx => ∃ L, Hid (Ord2 w wx w.heap.size L (.slice Av xs.length cv) xs))
      case first =>
        go_wp2_with fail
        go_loopw [10] (fun iv wr => ∃ (j : Nat) (L : List (Msg × Bool)), j ≤ hs.length ∧ iv = .int .i64 j ∧ Ord2 w wr w.heap.size L (.slice Av xs.length cv) xs) (fun iv _ => hs.length - (intOf iv).toNat)
        case atStart => exact ⟨0, L, Nat.zero_le _, rfl, HO1.out⟩
        case round =>
          clear HO1 L
          obtain ⟨j, L, hj, rfl, hO⟩ := hrel
          have HO := Lib.hid hO
          clear hO
          by_cases hlt : j < hs.length
          · by_cases h0 : 0 < xs.length
            · obtain ⟨B, o, hA, hc⟩ := (HA.out.1.kept HO.out.net.chg) j hlt
              subst hA
              have b1 := Int.tmod_lt_of_pos hs[j] (show (0 : Int) < xs.length by omega)
              have b2 := Int.lt_tmod_of_pos hs[j] (show (0 : Int) < xs.length by omega)
              generalize hs[j] = h at *
              have hd0 : ((xs.length : Int) == 0) = false := beq_eq_false_iff_ne.2 (by omega)
              go_wp2_with fail
              refine (hold_at HO.out.net _).mono ?_
              rintro e W2 ⟨rfl, hA2⟩
              have e0 := Int.emod_nonneg (h.tmod xs.length) (show (xs.length : Int) ≠ 0 by omega)
              have e1 := Int.emod_lt_of_pos (h.tmod xs.length) (show (0 : Int) < xs.length by omega)
              rw [if_pos ⟨e0, by rw [HO.out.len]; exact e1⟩]
              have H2 := Lib.hid (HO.out.act hA2 ((nums_hold _ _).trans HO.out.nums))
              clear hA2 e0 e1 b1 b2 hc
              go_wp2_with fail
              go_roundw
              case rel => exact ⟨j + 1, _, by omega, by go_num, H2.out⟩
              case measure => simp [intOf]; omega
            · have h00 : decide ((0 : Int) < xs.length) = false := decide_eq_false (by omega)
              go_wp2_with fail
              go_meet
              exact ⟨L, HO⟩
          · go_wp2_with fail
            go_meet
            exact ⟨L, HO⟩
      case rest =>
        clear HO1 L
        obtain ⟨L, HO⟩ := hcut
        go_upto_block 4 with (fail)
        go_cut [8] (fun v wx => ∃ L xs, Hid (Ord2 w wx w.heap.size L v xs ∧ xs.length < 60))
        case first =>
          go_wp2_with fail
          go_loopw [8, 11] (fun v iv wr => ∃ (j : Nat) (L : List (Msg × Bool)) (ys : List Int), j ≤ ws.length ∧ iv = .int .i64 j ∧ Ord2 w wr w.heap.size L v ys ∧ ys.length < 60) (fun _ iv _ => ws.length - (intOf iv).toNat)
          case atStart => exact ⟨0, L, xs, Nat.zero_le _, rfl, HO.out, hnlt⟩
          case round =>
            clear HO L
            obtain ⟨j, L, ys, hj, rfl, hO, hys⟩ := hrel
            obtain ⟨Ay, cy, rfl⟩ := hO.row.slice
            have HO := Lib.hid hO
            clear hO
            by_cases hlt : j < ws.length
            · by_cases h0 : 0 < ys.length
              · obtain ⟨B, o, hA, hc⟩ := (HA.out.2.kept HO.out.net.chg) j hlt
                subst hA
                have b1 := Int.tmod_lt_of_pos ws[j] (show (0 : Int) < ys.length by omega)
                have b2 := Int.lt_tmod_of_pos ws[j] (show (0 : Int) < ys.length by omega)
                generalize ws[j] = h at *
                have hd0 : ((ys.length : Int) == 0) = false := beq_eq_false_iff_ne.2 (by omega)
                go_wp2_with fail
                have e0 := Int.emod_nonneg (h.tmod ys.length) (show (ys.length : Int) ≠ 0 by omega)
                have e1 := Int.emod_lt_of_pos (h.tmod ys.length) (show (0 : Int) < ys.length by omega)
                have e2 : (h.tmod ys.length + ys.length) % ys.length = h.tmod ys.length % ys.length := by rw [Int.add_emod_right]
                rw [e2]
                obtain ⟨k, hk⟩ : ∃ k : Nat, (k : Int) = h.tmod ys.length % ys.length := ⟨(h.tmod ys.length % ys.length).toNat, by omega⟩
                rw [← hk] at e0 e1 ⊢
                clear hk e2 b1 b2 hc
                have hkl : k < ys.length := by omega
                refine (take_at HO.out.net k).mono ?_
                rintro e W3 (⟨h3, _⟩ | ⟨x, A, c, B', d, -, hx, rfl, -, h3⟩)
                · exact absurd ⟨by omega, by rw [HO.out.len]; omega⟩ h3
                · rw [Int.toNat_natCast] at hx h3
                  have hn : ys[k]? = some x.1.number := nums_at HO.out.nums hx
                  rw [List.getElem?_eq_getElem hkl] at hn
                  injection hn with hn
                  obtain ⟨h3n, cl, h3c, h3d⟩ := h3
                  have hr3 := HO.out.row.kept h3c (fun b hb hm => h3d b hm (by rw [hb]; simp))
                  obtain ⟨gl, c', hv, hle, hcm, hcells⟩ := hr3.block (by omega)
                  injection hv with hv1 hv2 hv3
                  clear hv2
                  subst hv1 hv3
                  have hcell := hcells k hkl
                  rw [hn] at hcell
                  have h1c : (#[.int .i8 (Msg.kind x.1), .int .i64 (Msg.frm x.1), .int .i64 (Msg.to x.1), .int .i64 (Msg.boot x.1), .int .i64 (Msg.server x.1), .int .i64 (Msg.number x.1), .int .i64 (Msg.node x.1), .int .i64 (Msg.lease x.1), .int .i64 (Msg.epoch x.1), .int .i64 (Msg.version x.1), .int .i64 (Msg.e x.1), .slice B' (Msg.steps x.1).length d, .int .i64 (Msg.tree x.1).id, .int .i64 (Msg.tree x.1).kind, .string (Msg.tree x.1).text, .slice A (Msg.tree x.1).kids.length c] : Array Value).all (·.oneCell') = true := by simp [Value.oneCell']
                  obtain ⟨W4, hW4⟩ : ∃ W4, W4 = W3.alloc (.cells #[.int .i8 (Msg.kind x.1), .int .i64 (Msg.frm x.1), .int .i64 (Msg.to x.1), .int .i64 (Msg.boot x.1), .int .i64 (Msg.server x.1), .int .i64 (Msg.number x.1), .int .i64 (Msg.node x.1), .int .i64 (Msg.lease x.1), .int .i64 (Msg.epoch x.1), .int .i64 (Msg.version x.1), .int .i64 (Msg.e x.1), .slice B' (Msg.steps x.1).length d, .int .i64 (Msg.tree x.1).id, .int .i64 (Msg.tree x.1).kind, .string (Msg.tree x.1).text, .slice A (Msg.tree x.1).kids.length c] 39) := ⟨_, rfl⟩
                  have hc4 : Chg [] W3 W4 := by rw [hW4]; exact (by with_reducible repeat (first | exact Chg.refl _ _ | apply Chg.alloc | apply Chg.drew | apply Chg.drewN | (refine Chg.setCell ?_ _ _ (by simp))))
                  have hx4 : W4.cell? ⟨W3.heap.size, 5, none⟩ = some (.int .i64 x.1.number) := by
                    rw [hW4]; exact range_all (heap_new W3 (.cells #[.int .i8 (Msg.kind x.1), .int .i64 (Msg.frm x.1), .int .i64 (Msg.to x.1), .int .i64 (Msg.boot x.1), .int .i64 (Msg.server x.1), .int .i64 (Msg.number x.1), .int .i64 (Msg.node x.1), .int .i64 (Msg.lease x.1), .int .i64 (Msg.epoch x.1), .int .i64 (Msg.version x.1), .int .i64 (Msg.e x.1), .slice B' (Msg.steps x.1).length d, .int .i64 (Msg.tree x.1).id, .int .i64 (Msg.tree x.1).kind, .string (Msg.tree x.1).text, .slice A (Msg.tree x.1).kids.length c] 39 (0, 0)) rfl) 5 _ rfl
                  have hl4 := hc4.cell hcell (by simp)
                  have hne : (x.1.number != x.1.number) = false := by simp
                  have H4 := Lib.hid (And.intro (Eq.symm hW4) (And.intro (h3n.step0 hc4) (And.intro (hr3.kept hc4 (by simp)) (And.intro h1c (And.intro (congrArg (fun l => l.eraseIdx k) HO.out.nums) hcells)))))
                  clear hW4 h3n hr3 h1c hc4 h3c h3d hx hcell hcells hn
                  go_wp2_with (first
                    | (refine wpList_store_row rfl 39 (.tmp 13) (.tmp 101) rfl W3.heap.size rfl #[.int .i8 (Msg.kind x.1), .int .i64 (Msg.frm x.1), .int .i64 (Msg.to x.1), .int .i64 (Msg.boot x.1), .int .i64 (Msg.server x.1), .int .i64 (Msg.number x.1), .int .i64 (Msg.node x.1), .int .i64 (Msg.lease x.1), .int .i64 (Msg.epoch x.1), .int .i64 (Msg.version x.1), .int .i64 (Msg.e x.1), .slice B' (Msg.steps x.1).length d, .int .i64 (Msg.tree x.1).id, .int .i64 (Msg.tree x.1).kind, .string (Msg.tree x.1).text, .slice A (Msg.tree x.1).kids.length c] rfl _ _ (heap_new _ _ rfl) HI.out.2.2.2.2 rfl H4.out.2.2.2.1 ?_; rw [setRow_new, H4.out.1])
                    | fail)
                  go_quiet (fail)
                  obtain ⟨X, hX⟩ : ∃ X, X = W4.drewN nq := ⟨_, rfl⟩
                  have hcX : Chg [] W4 X := by rw [hX]; exact (Chg.refl _ _).drewN _
                  rw [← hX]
                  have hNX := H4.out.2.1.step0 hcX
                  have hRX := H4.out.2.2.1.kept hcX (by simp)
                  obtain ⟨gl', c'', hv, _, _, hcells⟩ := hRX.block (by omega)
                  injection hv with hv1 hv2 hv3
                  clear hv2
                  injection hv1 with hv1
                  injection hv1 with hv1
                  subst hv1 hv3
                  obtain ⟨pt, hpt⟩ : ∃ pt : Addr, (if cy = k + 1 then (some ⟨gl, 0, none⟩ : Option Addr) else some ⟨gl, k + 1, none⟩) = some pt := by split <;> exact ⟨_, rfl⟩
                  have HPT := Lib.hid hpt
                  have H5 := Lib.hid (And.intro hNX (And.intro hRX hcells))
                  have hk60 : k < 60 := by omega
                  have hkcy : k ≤ cy := by omega
                  have hky1 : k + 1 ≤ ys.length := by omega
                  have hky2 : (k : Int) + 1 ≤ ys.length := by omega
                  have hsX := hNX.size
                  clear hX hcX hNX hRX hcells hx4 hl4 hne
                  go_wp2_with (first
                    | (refine wpList_append_own_at _ rfl (.tmp 114) (.tmp 117) 73 rfl w.heap.size 3 ip _ 1 8 Try.underlying73 HI.out.1 HI.out.2.1 HI.out.2.2.1 HI.out.2.2.2.1 rfl (by omega) (.slice none 0 0) 0 [] rfl (World.ownsRow_nil _ _ _ _) ⟨gl, 0, none⟩ k cy (((ys.drop 0).take k).map (Value.int .i64)) rfl (by simp; omega) (cells_news H5.out.2.2 0 k) ints_one (by unfold maxLen; omega) (by omega) (by omega) ?_; intro v1 Z hown1 hgr1 _ hat1; have HZ := Lib.hid (And.intro hown1 (And.intro hgr1 (And.intro hat1 (And.intro (cells_rest (fun i hi => (Chg.grown (Chg.refl [] X) hgr1 (by intro q hq; cases hq)).cell (H5.out.2.2 i hi) (by simp)) hle HPT.out) (show w.heap.size ≤ Z.heap.size by have := hgr1.size; omega))))); clear hown1 hgr1 hat1)
                    | (refine wpList_append_own_at _ rfl (.tmp 119) (.tmp 123) 73 rfl w.heap.size 3 ip _ 1 8 Try.underlying73 HI.out.1 HI.out.2.1 HI.out.2.2.1 HI.out.2.2.2.1 rfl (by omega) _ _ _ rfl HZ.out.1 pt (ys.length - (k + 1)) (cy - (k + 1)) ((ys.drop (k + 1)).map (Value.int .i64)) rfl (by simp) HZ.out.2.2.2.1 ints_one (by unfold maxLen; omega) (by omega) HZ.out.2.2.2.2 ?_; intro v2 Z2 hown2 hgr2 _ hat2; have HZ2 := Lib.hid (And.intro hown2 (And.intro hgr2 hat2)); clear hown2 hgr2 hat2)
                    | fail)
                  go_roundw
                  case rel => exact ⟨j + 1, L.eraseIdx k, ys.eraseIdx k, by omega, by go_num, Ord2.erase H5.out.1 ((nums_erase _ _).trans H4.out.2.2.2.2.1) hkl HZ.out.1 HZ.out.2.1 HZ.out.2.2.1 HZ2.out.1 HZ2.out.2.1 HZ2.out.2.2, by rw [List.length_eraseIdx]; split <;> omega⟩
                  case measure => simp [intOf]; omega
              · have h00 : decide ((0 : Int) < ys.length) = false := decide_eq_false (by omega)
                go_wp2_with fail
                go_meet
                exact ⟨L, ys, Lib.hid ⟨HO.out, hys⟩⟩
            · go_wp2_with fail
              go_meet
              exact ⟨L, ys, Lib.hid ⟨HO.out, hys⟩⟩
        case rest =>
          clear HO L
          obtain ⟨L, ys, HO⟩ := hcut
          obtain ⟨Ay, cy, rfl⟩ := HO.out.1.row.slice
          have hys := HO.out.2
          rename_i wx
          go_wp2_with fail
          go_loopw [16] (fun iv wr => ∃ (j : Nat), j ≤ ys.length ∧ iv = .int .i64 j ∧ Ord2 w wr w.heap.size L (.slice Ay ys.length cy) ys) (fun iv _ => ys.length - (intOf iv).toNat)
          case atStart => exact ⟨0, Nat.zero_le _, rfl, HO.out.1⟩
          case round =>
            clear HO
            obtain ⟨j, hj, rfl, hO⟩ := hrel
            have HO := Lib.hid hO
            clear hO
            by_cases hlt : j < ys.length
            · go_wp2_with fail
              refine (look_at HO.out.net j).mono ?_
              rintro e W3 ⟨⟨h3n, cl, h3c, h3d⟩, (⟨h3, _⟩ | ⟨x, A, c, B', d, -, hx, rfl, -, h3⟩)⟩
              · exact absurd ⟨by omega, by rw [HO.out.len]; omega⟩ h3
              · rw [Int.toNat_natCast] at hx
                have hn : ys[j]? = some x.1.number := nums_at HO.out.nums hx
                rw [List.getElem?_eq_getElem hlt] at hn
                injection hn with hn
                have hr3 := HO.out.row.kept h3 (by simp)
                obtain ⟨gl, c', hv, hle, hcm, hcells⟩ := hr3.block (by omega)
                injection hv with hv1 hv2 hv3
                clear hv2
                subst hv1 hv3
                have hcell := hcells j hlt
                rw [hn] at hcell
                have h1c : (#[.int .i8 (Msg.kind x.1), .int .i64 (Msg.frm x.1), .int .i64 (Msg.to x.1), .int .i64 (Msg.boot x.1), .int .i64 (Msg.server x.1), .int .i64 (Msg.number x.1), .int .i64 (Msg.node x.1), .int .i64 (Msg.lease x.1), .int .i64 (Msg.epoch x.1), .int .i64 (Msg.version x.1), .int .i64 (Msg.e x.1), .slice B' (Msg.steps x.1).length d, .int .i64 (Msg.tree x.1).id, .int .i64 (Msg.tree x.1).kind, .string (Msg.tree x.1).text, .slice A (Msg.tree x.1).kids.length c] : Array Value).all (·.oneCell') = true := by simp [Value.oneCell']
                obtain ⟨W4, hW4⟩ : ∃ W4, W4 = W3.alloc (.cells #[.int .i8 (Msg.kind x.1), .int .i64 (Msg.frm x.1), .int .i64 (Msg.to x.1), .int .i64 (Msg.boot x.1), .int .i64 (Msg.server x.1), .int .i64 (Msg.number x.1), .int .i64 (Msg.node x.1), .int .i64 (Msg.lease x.1), .int .i64 (Msg.epoch x.1), .int .i64 (Msg.version x.1), .int .i64 (Msg.e x.1), .slice B' (Msg.steps x.1).length d, .int .i64 (Msg.tree x.1).id, .int .i64 (Msg.tree x.1).kind, .string (Msg.tree x.1).text, .slice A (Msg.tree x.1).kids.length c] 39) := ⟨_, rfl⟩
                have hc4 : Chg [] W3 W4 := by rw [hW4]; exact (by with_reducible repeat (first | exact Chg.refl _ _ | apply Chg.alloc | apply Chg.drew | apply Chg.drewN | (refine Chg.setCell ?_ _ _ (by simp))))
                have hx4 : W4.cell? ⟨W3.heap.size, 5, none⟩ = some (.int .i64 x.1.number) := by
                  rw [hW4]; exact range_all (heap_new W3 (.cells #[.int .i8 (Msg.kind x.1), .int .i64 (Msg.frm x.1), .int .i64 (Msg.to x.1), .int .i64 (Msg.boot x.1), .int .i64 (Msg.server x.1), .int .i64 (Msg.number x.1), .int .i64 (Msg.node x.1), .int .i64 (Msg.lease x.1), .int .i64 (Msg.epoch x.1), .int .i64 (Msg.version x.1), .int .i64 (Msg.e x.1), .slice B' (Msg.steps x.1).length d, .int .i64 (Msg.tree x.1).id, .int .i64 (Msg.tree x.1).kind, .string (Msg.tree x.1).text, .slice A (Msg.tree x.1).kids.length c] 39 (0, 0)) rfl) 5 _ rfl
                have hl4 := hc4.cell hcell (by simp)
                have hne : (x.1.number != x.1.number) = false := by simp
                have H4 := Lib.hid (And.intro (Eq.symm hW4) (And.intro h1c (h3.trans hc4)))
                clear hW4 h3n hr3 h1c hc4 h3c h3d hx hcell hcells hn h3
                go_wp2_with (first
                  | (refine wpList_store_row rfl 39 (.tmp 17) (.tmp 135) rfl W3.heap.size rfl #[.int .i8 (Msg.kind x.1), .int .i64 (Msg.frm x.1), .int .i64 (Msg.to x.1), .int .i64 (Msg.boot x.1), .int .i64 (Msg.server x.1), .int .i64 (Msg.number x.1), .int .i64 (Msg.node x.1), .int .i64 (Msg.lease x.1), .int .i64 (Msg.epoch x.1), .int .i64 (Msg.version x.1), .int .i64 (Msg.e x.1), .slice B' (Msg.steps x.1).length d, .int .i64 (Msg.tree x.1).id, .int .i64 (Msg.tree x.1).kind, .string (Msg.tree x.1).text, .slice A (Msg.tree x.1).kids.length c] rfl _ _ (heap_new _ _ rfl) HI.out.2.2.2.2 rfl H4.out.2.1 ?_; rw [setRow_new, H4.out.1])
                  | fail)
                go_quiet (fail)
                obtain ⟨X, hX⟩ : ∃ X, X = W4.drewN nq := ⟨_, rfl⟩
                have hcX : Chg [] W4 X := by rw [hX]; exact (Chg.refl _ _).drewN _
                rw [← hX]
                have H5 := Lib.hid (HO.out.act (ActAt.of_chg HO.out.net (H4.out.2.2.trans hcX)) HO.out.nums)
                clear hX hcX hx4 hl4 hne
                go_wp2_with fail
                go_roundw
                case rel => exact ⟨j + 1, by omega, by go_num, H5.out⟩
                case measure => simp [intOf]; omega
            · go_wp2_with fail
              refine (free_at HO.out.net).mono ?_
              rintro e W2 ⟨rfl, hA2⟩
              have H2 := Lib.hid (HO.out.act hA2 ((nums_clr _).trans HO.out.nums))
              clear hA2
              go_wp2_with fail
              refine (first_at H2.out.net).mono ?_
              rintro e W3 ⟨rfl, hA3⟩
              have hb : decide (0 < L.length) = decide ((0 : Int) < ys.length) := by rw [HO.out.len]; simp
              rw [firstAt_clr, hb]
              have H3 := Lib.hid (H2.out.act hA3 H2.out.nums)
              clear hA3 hb
              have hl3 := len_at H3.out.net
              rw [H3.out.len] at hl3
              have HL := Lib.hid hl3
              clear hl3
              by_cases hy : (0 : Int) < ys.length
              · have hy0 : decide ((0 : Int) < ys.length) = true := decide_eq_true hy
                rw [hy0]
                go_wp2_with (first
                  | (go_at_call 44; refine HL.out.mono ?_; rintro e X ⟨rfl, rfl⟩)
                  | (go_at_call 47; refine (nwakes_any _).mono ?_; rintro e W4 ⟨rfl, hW4⟩; have H4 := Lib.hid hW4; clear hW4)
                  | fail)
                go_ret
                exact ⟨rfl, H3.out.net.chg.trans H4.out⟩
              · have hy0 : decide ((0 : Int) < ys.length) = false := decide_eq_false hy
                rw [hy0]
                obtain rfl : ys = [] := by
                  cases ys with
                  | nil => rfl
                  | cons y ys => exact absurd (by simp) hy
                clear hy0 hy
                go_wp2_with (first
                  | (go_at_call 44; refine HL.out.mono ?_; rintro e X ⟨rfl, rfl⟩)
                  | (go_at_call 47; refine (nwakes_any _).mono ?_; rintro e W4 ⟨rfl, hW4⟩; have H4 := Lib.hid hW4; clear hW4)
                  | fail)
                go_ret
                exact ⟨rfl, H3.out.net.chg.trans H4.out⟩
end Go.Proofs.Ytipijkpjmpejlaa
