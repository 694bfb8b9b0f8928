import Derived.Test.YtipijkpjmpejlaaPhD
import Derived.Outline
/- The walk of the law PagesWhole. -/
set_option linter.unusedVariables false
set_option linter.unusedSimpArgs false
namespace Go.Proofs.Ytipijkpjmpejlaa
open Go.RowKit
/-- The acts of a round. -/
def Acts30 (w : World) (A : Option Addr) (acts : List Act') : Prop := Acts7 w A acts ∧ acts.length ≤ 30 ∧ ∀ x ∈ acts, x.b.length ≤ 60000
/-- What holds ahead of a round. -/
def Ahead (w wr : World) (r p : Nat) (D : DS) (rs : List (List Int)) : Prop := DiskI w wr p D ∧ Told (1 + 2 * r) (40 * r) (secOf D.L) rs ∧ D.down = false ∧ D.armed = false ∧ D.Room (1000000 - 100000 * r) ∧ Chg [] w wr
set_option maxHeartbeats 16000000 in
set_option maxRecDepth 100000 in
theorem pagesWhole_walk (A A2 : Option Addr) (acts acts2 : List Act') (c c2 : Nat) (one two : Int) (w : World) (hA : Acts7 w A acts) (hm : acts.length ≤ 9223372036854775807) (hA2 : Acts7 w A2 acts2) (hm2 : acts2.length ≤ 9223372036854775807) :
    Calls Try.prog 12 #[.slice A acts.length c, .slice A2 acts2.length c2, .int .i64 one, .int .i64 two] w fun e w' => e = .returned (.bool true) ∧ Chg [] w w' := by
  have HP := Lib.hid wk_parts.1
  have HG := Lib.hid (great7_any A acts c w hA hm)
  have HG2 := Lib.hid (great7_any A2 acts2 c2 w hA2 hm2)
  have HA := Lib.hid (And.intro hA hA2)
  clear hA hA2
  have hcase : (30 < acts.length ∨ acts.length ≤ 30) ∧ (30 < acts2.length ∨ acts2.length ≤ 30) := by omega
  go_enter Try.func12, Try.ntmps12
  go_wp2_with fail
  refine HG.out.mono ?_
  rintro e W ⟨bb, rfl, hb, rfl⟩
  cases bb with
  | true =>
    clear hb
    go_wp2_with (go_at_call 56; refine (wakes_any _).mono ?_; rintro e W ⟨rfl, hC⟩; have HC := Lib.hid hC; clear hC)
    go_ret
    exact ⟨rfl, HC.out⟩
  | false =>
  have HL := Lib.hid (hb rfl)
  clear hb
  go_wp2_with fail
  refine HG2.out.mono ?_
  rintro e W ⟨bb, rfl, hb, rfl⟩
  cases bb with
  | true =>
    clear hb
    go_wp2_with (go_at_call 56; refine (wakes_any _).mono ?_; rintro e W ⟨rfl, hC⟩; have HC := Lib.hid hC; clear hC)
    go_ret
    exact ⟨rfl, HC.out⟩
  | false =>
  have HL2 := Lib.hid (hb rfl)
  clear hb
  obtain ⟨h30, h302⟩ := hcase
  rcases h30 with h30 | h30
  · go_wp2_with (go_at_call 56; refine (wakes_any _).mono ?_; rintro e W ⟨rfl, hC⟩; have HC := Lib.hid hC; clear hC)
    go_ret
    exact ⟨rfl, HC.out⟩
  rcases h302 with h302 | h302
  · go_wp2_with (go_at_call 56; refine (wakes_any _).mono ?_; rintro e W ⟨rfl, hC⟩; have HC := Lib.hid hC; clear hC)
    go_ret
    exact ⟨rfl, HC.out⟩
  have HAC := Lib.hid (show Acts30 w A acts ∧ Acts30 w A2 acts2 from ⟨⟨HA.out.1, h30, HL.out.2⟩, HA.out.2, h302, HL2.out.2⟩)
  clear HA HL HL2 HG HG2
  go_wp2_with (go_at_call 28; refine (dnew_i w).mono ?_; rintro e W3 ⟨rfl, hd3, hc3⟩; have H3 := Lib.hid (And.intro hd3 hc3); clear hd3 hc3)
  go_loopw [9, 51] (fun dv iv wr => ∃ (r p : Nat) (D : DS) (rs : List (List Int)), r ≤ 2 ∧ iv = .int .i64 r ∧ dv = .pointer (some ⟨p, 0, none⟩) ∧ Hid (Ahead w wr r p D rs)) (fun _ iv _ => 2 - (intOf iv).toNat)
  case atStart => exact ⟨0, w.heap.size + 1, DS.new, [], by omega, rfl, rfl, Lib.hid ⟨H3.out.1, .inl ⟨⟨rfl, fun k hk => by show num4 zeros 0 ≤ 1 ∧ num4 zeros 1 ≤ 1 ∧ (num4 zeros 0 = 1 → num4 zeros 2 ≤ 1); decide +kernel⟩, rfl⟩, rfl, rfl, new_room, H3.out.2⟩⟩
  case round =>
    obtain ⟨r, p, D, rs, hr2, rfl, rfl, HI⟩ := hrel
    by_cases hlt : r < 2
    · have hby : D.Byt := by obtain ⟨_, _, _, _, _, _, h⟩ := HI.out.1; exact h
      obtain ⟨D1, P, x0, x0', ho, hheld, hrs, hgen, hl0, hl1, hx0, hx1, hg1, hbt, hwr⟩ := told_open HI.out.2.2.1 HI.out.2.2.2.1 hby HI.out.2.1 (by omega) (by omega)
      have hop := open_any w wr p D HI.out.1 (HI.out.2.2.2.2.1.less (by omega))
      rw [ho] at hop
      have hrm : D1.Room (1000000 - 100000 * r - 1) := by
        have h0 : D.Room (1000000 - 100000 * r - 1 + 1) := HI.out.2.2.2.2.1.less (by omega)
        rcases hwr with rfl | ⟨bs, rfl⟩
        · exact h0.less (by omega)
        · exact h0.write _ _
      have HOP := Lib.hid hop
      have HH := Lib.hid (And.intro hheld hrm)
      clear ho hheld hrs hgen hl0 hl1 hx0 hx1 hg1 hbt hwr hop hrm hby
      go_wp2_with fail
      refine HOP.out.mono ?_
      rintro e X1 ⟨hd1, hc1, q, rfl, hp1, _⟩
      have H1 := Lib.hid (And.intro hd1 (And.intro hc1 hp1))
      clear hd1 hc1 hp1
      go_wp2_with fail
      refine (imagem_any w X1 q _ P H1.out.2.2 HH.out.1.fit).mono ?_
      rintro e X2 ⟨nowv, rfl, hr3, hc3⟩
      obtain ⟨An, cn, rfl⟩ := hr3.slice
      dsimp only at hr3 ⊢
      have H2 := Lib.hid (show DiskI w X2 p D1 ∧ PagesI w X2 q p P ∧ RecsK w X2 0 (.slice An P.img.recs.length cn) P.img.recs ∧ Chg [] w X2 from ⟨H1.out.1.kept0 hc3, H1.out.2.2.kept0 hc3, (hr3.base (Nat.zero_le _)).toK, (H1.out.2.1.old HI.out.2.2.2.2.2).trans hc3⟩)
      clear hr3 hc3
      have f3 := field3 P.img.gen P.img.half P.img.boot An P.img.recs.length cn
      have HWr := Lib.hid (dwrites_i w X2 p D1 H2.out.1)
      go_upto_if 69 with (go_at_call 32; refine HWr.out.mono ?_; rintro e w' ⟨rfl, rfl⟩)

      go_cut [17, 18] (fun s17 s18 wx => ∃ (A' : Option Addr) (acts' : List Act') (c' : Nat) (cut : Int), s17 = .slice A' acts'.length c' ∧ s18 = .int .i64 cut ∧ wx = X2 ∧ Hid (Acts30 w A' acts'))
      case first =>
        as_aux_lemma =>
          by_cases hr : r = 1
          · have e1 : ((r : Int) == 1) = true := by rw [hr]; rfl
            clear hr
            go_wp2_with fail
            go_meet
            exact ⟨A2, acts2, c2, two, rfl, rfl, rfl, Lib.hid HAC.out.2⟩
          · have e1 : ((r : Int) == 1) = false := by simpa using (by omega : ¬ (r : Int) = 1)
            clear hr
            go_wp2_with fail
            go_meet
            exact ⟨A, acts, c, one, rfl, rfl, rfl, Lib.hid HAC.out.1⟩
      case rest =>
      obtain ⟨A', acts', c', cut, rfl, rfl, rfl, HA⟩ := hcut
      clear HAC HOP f3
      obtain ⟨at0, hat⟩ : ∃ at0, at0 = D1.L.length := ⟨_, rfl⟩
      rw [← hat]
      have HAT := Lib.hid hat
      clear hat
      go_wp2_with fail
      have hl30 := HA.out.2.1
      go_loopw [13, 14, 15, 74] (fun mv nv nowv iv wz => ∃ (i : Nat) (D : DS) (P : PS) (ms ns : List (List (List Int))), i ≤ acts'.length ∧ iv = .int .i64 i ∧ Hid (DiskI w wz p D ∧ PagesI w wz q p P ∧ Held (2 + 2 * r) (40 * r + i) D P ∧ D.Room (1000000 - 100000 * r - 1 - 1024 * i) ∧ Tabs w wz w.heap.size mv nv ms ns ∧ Moments (2 + 2 * r) (40 * r + i) at0 D.L ms ∧ ns.length = ms.length ∧ RecsK w wz 0 nowv P.img.recs ∧ Chg [] w wz)) (fun _ _ _ iv _ => acts'.length - (intOf iv).toNat)
      case atStart =>
        have e2 : (1 + 2 * (r : Int) + 1) = 2 + 2 * r := by omega
        have hh := HH.out.1
        rw [e2] at hh
        exact ⟨0, D1, P, [], [], Nat.zero_le _, rfl, Lib.hid ⟨H2.out.1, H2.out.2.1, hh.mono (by omega), HH.out.2.less (by omega), Tabs.nil _ _ _, by rw [HAT.out]; exact Moments.start _ _ _, rfl, H2.out.2.2.1, H2.out.2.2.2⟩⟩
      case round =>
        clear HH H1 H2 HWr HI
        obtain ⟨i, E, P, ms, ns, hi, rfl, HI⟩ := hrel
        obtain ⟨A13, c13, rfl⟩ := HI.out.2.2.2.2.1.one.slice
        obtain ⟨A14, c14, rfl⟩ := HI.out.2.2.2.2.1.two.slice
        obtain ⟨A15, c15, rfl⟩ := HI.out.2.2.2.2.2.2.2.1.slice
        by_cases hlt : i < acts'.length
        · obtain ⟨x, hx⟩ : ∃ x, acts'[i]? = some x := ⟨acts'[i], List.getElem?_eq_getElem hlt⟩
          obtain ⟨g, o, Ab, cb, hAe, hgw, hrg, hB, hbl, hbb, hbn⟩ := HA.out.1 i x hx
          subst hAe
          have hl6 : x.b.length ≤ 60000 := HA.out.2.2 x (List.mem_of_getElem? hx)
          have HR := Lib.hid (HI.out.2.2.2.2.2.2.2.2.range hrg (by simp))
          obtain ⟨Y, hY⟩ : ∃ Y, Y = wr.alloc (.cells #[.int .i64 x.kind, .int .i64 x.n, .slice Ab x.b.length cb] 94) := ⟨_, rfl⟩
          have hX : Chg [] wr Y := by rw [hY]; exact (by with_reducible repeat (first | exact Chg.refl _ _ | apply Chg.alloc | apply Chg.drew | apply Chg.drewN | (refine Chg.setCell ?_ _ _ (by simp))))
          have hwX := HI.out.2.2.2.2.2.2.2.2.trans hX
          have hbk : BytesK w Y Ab x.b := ⟨hB.kept hwX (by simp), fun ad hp e => by obtain ⟨ad', e', hb, _⟩ := hB hp; rw [e] at e'; cases e'; exact .inl hb⟩
          have hblk : Y.heap[wr.heap.size]? = some (.cells #[.int .i64 x.kind, .int .i64 x.n, .slice Ab x.b.length cb] 94 (0, 0)) := by rw [hY]; exact heap_new _ _ rfl
          have HK := Lib.hid (And.intro (HI.out.1.kept0 hX) (And.intro (HI.out.2.1.kept0 hX) (And.intro hbk (And.intro hwX (And.intro hblk (And.intro hbb hbn))))))
          have HT := Lib.hid (And.intro (HI.out.2.2.2.2.1.kept0 hX) (HI.out.2.2.2.2.2.2.2.1.kept0 hX))
          have HYe := Lib.hid hY
          clear hX hwX hbk hblk hB hbb hbn hx hgw hrg hY
          go_wp2_with (first
            | (refine wpList_load_mid rfl 94 (.tmp 76) rfl g (o + i * 3) (by kernel_rfl) _ _ HR.out Try.underlying94 rfl (by kernel_rfl) ?_
               ((try dsimp only); (try simp only [Act.put, List.setIfInBounds_toArray, List.set_cons_zero, List.set_cons_succ])))
            | (skip; fail))
          rw [← HYe.out]
          have hcell := HK.out.2.2.2.2.1
          go_cut [21] (fun tv wx => ∃ (A21 : Option Addr) (c21 : Nat) (nt : List (List Int)), tv = .slice A21 nt.length c21 ∧ Hid (nt = P.img.recs ++ [x.b] ∧ RecsK w wx 0 tv nt ∧ Chg [] Y wx))
          case first =>
            as_aux_lemma =>
              obtain ⟨a0, a1, a2⟩ : Y.cell? ⟨wr.heap.size, 0, none⟩ = some (.int .i64 x.kind) ∧ Y.cell? ⟨wr.heap.size, 1, none⟩ = some (.int .i64 x.n) ∧ Y.cell? ⟨wr.heap.size, 2, none⟩ = some (.slice Ab x.b.length cb) := ⟨range_all (cs := [_, _, _]) hcell 0 _ rfl, range_all (cs := [_, _, _]) hcell 1 _ rfl, range_all (cs := [_, _, _]) hcell 2 _ rfl⟩
              have hlen : P.img.recs.length ≤ 1024 := by have h1 := HI.out.2.2.1.fit.count; have h2 := HI.out.2.2.1.fit.most; omega
              have hw0 : w.heap.size ≤ Y.heap.size := HK.out.2.2.2.1.size
              refine wp_region_M (fun W => W.cell? ⟨wr.heap.size, 2, none⟩ = some (.slice Ab x.b.length cb)) (fun k => [0, 2, 5, 6].contains k) (fun k => [6].contains k) (by kernel_rfl) ?_
              have hYd : Chg [] Y Y.drew := (Chg.refl _ _).drew
              have hS : Y.drew.cell? ⟨wr.heap.size, 2, none⟩ = some (.slice Ab x.b.length cb) := a2
              have hN := HT.out.2.kept0 hYd
              have hBK : BK w Y.drew (.slice Ab x.b.length cb) x.b := ⟨Ab, cb, rfl, HK.out.2.2.1.kept (T := []) (ChgT.of_nil hYd) (by simp), HK.out.2.2.2.2.2.2⟩
              have hsz : Y.heap.size = Y.drew.heap.size := rfl
              obtain ⟨Z, hZ⟩ : ∃ Z, Z = Y.drew := ⟨_, rfl⟩
              rw [← hZ] at hYd hS hN hBK hsz ⊢
              clear a0 a1 a2 hZ
              ((try dsimp only); (try simp only [Act.put, List.setIfInBounds_toArray, List.set_cons_zero, List.set_cons_succ]))
              refine M_pure (i := 1) (v := ?_) rfl (by kernel_rfl) (by kernel_rfl) (by kernel_rfl) (fun _ _ _ h => h) (by rfl) ?hy ?_; (case hy => (intro w; go_simp; with_reducible rfl)); ((try dsimp only); (try simp only [Act.put, List.setIfInBounds_toArray, List.set_cons_zero, List.set_cons_succ]))
              refine M_pure (i := 3) (v := ?_) rfl (by kernel_rfl) (by kernel_rfl) (by kernel_rfl) (fun _ _ _ h => h) (by rfl) ?hy ?_; (case hy => (intro w; go_simp; with_reducible rfl)); ((try dsimp only); (try simp only [Act.put, List.setIfInBounds_toArray, List.set_cons_zero, List.set_cons_succ]))
              refine M_semi (i := 4) (v := ?_) rfl (by kernel_rfl) (by kernel_rfl) (by kernel_rfl) (by kernel_rfl) (fun _ _ _ h => h) (by rfl) hS ?hy ?_; (case hy => (intro w hS; go_simp; with_reducible rfl)); ((try dsimp only); (try simp only [Act.put, List.setIfInBounds_toArray, List.set_cons_zero, List.set_cons_succ]))
              refine M_two (i := 0) (j := 5) rfl rfl (by kernel_rfl) (by rfl) (by rfl) ?_ ?_
              · -- 0 first
                have q1 : Chg [] Z (Z.alloc (.cells #[] 49)) := (Chg.refl _ _).alloc _
                have q2 := RecsK.empty w Z Z.heap.size (Nat.le_refl _)
                refine wpList_none rfl rfl (wpList_nil ?_)
                refine ⟨q1.cell hS (by simp), ?_⟩
                ((try dsimp only); (try simp only [Act.put, List.setIfInBounds_toArray, List.set_cons_zero, List.set_cons_succ]))
                obtain ⟨W1, hW1⟩ : ∃ W1, W1 = Z.alloc (.cells #[] 49) := ⟨_, rfl⟩
                rw [← hW1] at q1 q2 ⊢
                clear hW1
                refine M_two (i := 2) (j := 5) rfl rfl (by kernel_rfl) (by rfl) (by rfl) ?_ ?_
                · refine wpList_recs_append rfl (.tmp 78) (.tmp 79) rfl w Z.heap.size 0 _ [] P.img.recs rfl q2 A15 c15 rfl (hN.kept0 q1) (by simp; omega) q1.size (by omega) ?_
                  intro v2 W2 h3 _ h4
                  have q3 := q1.andThen h4 (fun k hk => .inr (q2.own k hk).1)
                  refine wpList_nil ⟨q3.cell hS (by simp), ?_⟩
                  ((try dsimp only); (try simp only [Act.put, List.setIfInBounds_toArray, List.set_cons_zero, List.set_cons_succ]))
                  refine M_eff (i := 5) rfl (by kernel_rfl) (by rfl) ?_
                  refine wpList_row1 rfl (.tmp 82) rfl Ab x.b.length cb rfl (wpList_nil ?_)
                  have q4 : Chg [] W2 (W2.alloc (.cells #[.slice Ab x.b.length cb] 49)) := (Chg.refl _ _).alloc _
                  have q5 := RecsK.one (hBK.kept (T := []) (ChgT.of_nil q3) (by simp)) Z.heap.size q3.size
                  have q6 := h3.kept0 q4
                  refine ⟨(q3.trans q4).cell hS (by simp), ?_⟩
                  ((try dsimp only); (try simp only [Act.put, List.setIfInBounds_toArray, List.set_cons_zero, List.set_cons_succ]))
                  refine M_brk (i := 6) rfl (by kernel_rfl) (by rfl) (by rfl) ?_
                  refine wpList_recs_append rfl (.tmp 80) (.tmp 83) rfl w Z.heap.size _ v2 _ [x.b] rfl q6 _ 1 rfl q5 (by simp; omega) (q3.trans q4).size (by omega) ?_
                  intro v4 W4 h7 _ h8
                  have hF : RecsK w W4 0 v4 (P.img.recs ++ [x.b]) ∧ Chg [] Y W4 := ⟨by have := h7.base (Nat.zero_le _); simpa using this, hYd.trans ((q3.trans q4).andThen h8 (fun k hk => .inr (q6.own k hk).1))⟩
                  refine wpList_nil ?_
                  ((try dsimp only [EffQ]); (try simp only [Act.put, List.setIfInBounds_toArray, List.set_cons_zero, List.set_cons_succ]))
                  refine M_pure (i := 7) (v := ?_) rfl (by kernel_rfl) (by kernel_rfl) (by kernel_rfl) (fun _ _ _ h => h) (by rfl) ?hy ?_; (case hy => (intro w; go_simp; with_reducible rfl)); ((try dsimp only); (try simp only [Act.put, List.setIfInBounds_toArray, List.set_cons_zero, List.set_cons_succ]))
                  refine M_done (by kernel_rfl) ?_ _
                  have HF := Lib.hid hF
                  clear hF h7 h8
                  go_wp2_with fail
                  go_meet
                  obtain ⟨A21, c21, e21⟩ := HF.out.1.slice
                  exact ⟨A21, c21, _, e21, Lib.hid ⟨rfl, HF.out⟩⟩
                · -- 5, then 2
                  refine wpList_row1 rfl (.tmp 82) rfl Ab x.b.length cb rfl (wpList_nil ?_)
                  have r1 : Chg [] W1 (W1.alloc (.cells #[.slice Ab x.b.length cb] 49)) := (Chg.refl _ _).alloc _
                  have r2 := RecsK.one (hBK.kept (T := []) (ChgT.of_nil q1) (by simp)) Z.heap.size q1.size
                  have r3 := q2.kept0 r1
                  refine ⟨(q1.trans r1).cell hS (by simp), ?_⟩
                  ((try dsimp only); (try simp only [Act.put, List.setIfInBounds_toArray, List.set_cons_zero, List.set_cons_succ]))
                  obtain ⟨W2, hW2⟩ : ∃ W2, W2 = W1.alloc (.cells #[.slice Ab x.b.length cb] 49) := ⟨_, rfl⟩
                  rw [← hW2] at r1 r2 r3 ⊢
                  clear hW2
                  refine M_eff (i := 2) rfl (by kernel_rfl) (by rfl) ?_
                  refine wpList_recs_append rfl (.tmp 78) (.tmp 79) rfl w Z.heap.size 0 _ [] P.img.recs rfl r3 A15 c15 rfl (hN.kept0 (q1.trans r1)) (by simp; omega) (q1.trans r1).size (by omega) ?_
                  intro v2 W3 h3 h9 h4
                  have q3 := (q1.trans r1).andThen h4 (fun k hk => .inr (q2.own k hk).1)
                  have q5 := r2.beside h4 h9 (fun k hk hm => by have h := (q2.own k hm).2; cases hk; dsimp only at h; omega)
                  refine wpList_nil ⟨q3.cell hS (by simp), ?_⟩
                  ((try dsimp only); (try simp only [Act.put, List.setIfInBounds_toArray, List.set_cons_zero, List.set_cons_succ]))
                  refine M_brk (i := 6) rfl (by kernel_rfl) (by rfl) (by rfl) ?_
                  refine wpList_recs_append rfl (.tmp 80) (.tmp 83) rfl w Z.heap.size _ v2 _ [x.b] rfl h3 _ 1 rfl q5 (by simp; omega) q3.size (by omega) ?_
                  intro v4 W4 h7 _ h8
                  have hF : RecsK w W4 0 v4 (P.img.recs ++ [x.b]) ∧ Chg [] Y W4 := ⟨by have := h7.base (Nat.zero_le _); simpa using this, hYd.trans (q3.andThen h8 (fun k hk => .inr (h3.own k hk).1))⟩
                  refine wpList_nil ?_
                  ((try dsimp only [EffQ]); (try simp only [Act.put, List.setIfInBounds_toArray, List.set_cons_zero, List.set_cons_succ]))
                  refine M_pure (i := 7) (v := ?_) rfl (by kernel_rfl) (by kernel_rfl) (by kernel_rfl) (fun _ _ _ h => h) (by rfl) ?hy ?_; (case hy => (intro w; go_simp; with_reducible rfl)); ((try dsimp only); (try simp only [Act.put, List.setIfInBounds_toArray, List.set_cons_zero, List.set_cons_succ]))
                  refine M_done (by kernel_rfl) ?_ _
                  have HF := Lib.hid hF
                  clear hF h7 h8
                  go_wp2_with fail
                  go_meet
                  obtain ⟨A21, c21, e21⟩ := HF.out.1.slice
                  exact ⟨A21, c21, _, e21, Lib.hid ⟨rfl, HF.out⟩⟩
              · -- 5 first
                have r1 : Chg [] Z (Z.alloc (.cells #[.slice Ab x.b.length cb] 49)) := (Chg.refl _ _).alloc _
                have r2 := RecsK.one hBK Z.heap.size (Nat.le_refl _)
                refine wpList_row1 rfl (.tmp 82) rfl Ab x.b.length cb rfl (wpList_nil ?_)
                refine ⟨r1.cell hS (by simp), ?_⟩
                ((try dsimp only); (try simp only [Act.put, List.setIfInBounds_toArray, List.set_cons_zero, List.set_cons_succ]))
                have r4 : (Z.alloc (.cells #[.slice Ab x.b.length cb] 49)).heap.size = Z.heap.size + 1 := by simp
                obtain ⟨W1, hW1⟩ : ∃ W1, W1 = Z.alloc (.cells #[.slice Ab x.b.length cb] 49) := ⟨_, rfl⟩
                rw [← hW1] at r1 r2 r4 ⊢
                clear hW1
                refine M_eff (i := 0) rfl (by kernel_rfl) (by rfl) ?_
                have q1 : Chg [] W1 (W1.alloc (.cells #[] 49)) := (Chg.refl _ _).alloc _
                have q2 := RecsK.empty w W1 W1.heap.size (Nat.le_refl _)
                refine wpList_none rfl rfl (wpList_nil ?_)
                refine ⟨(r1.trans q1).cell hS (by simp), ?_⟩
                ((try dsimp only); (try simp only [Act.put, List.setIfInBounds_toArray, List.set_cons_zero, List.set_cons_succ]))
                have r3 := r2.kept0 q1
                obtain ⟨W2, hW2⟩ : ∃ W2, W2 = W1.alloc (.cells #[] 49) := ⟨_, rfl⟩
                rw [← hW2] at q1 q2 r3 ⊢
                clear hW2
                refine M_eff (i := 2) rfl (by kernel_rfl) (by rfl) ?_
                refine wpList_recs_append rfl (.tmp 78) (.tmp 79) rfl w W1.heap.size 0 _ [] P.img.recs rfl q2 A15 c15 rfl (hN.kept0 (r1.trans q1)) (by simp; omega) q1.size (by omega) ?_
                intro v2 W3 h3 h9 h4
                have q3 := (r1.trans q1).andThen h4 (fun k hk => .inr (by have := (q2.own k hk).1; omega))
                have q5 := r3.beside h4 h9 (fun k hk hm => by have h := (q2.own k hm).1; cases hk; dsimp only at h; omega)
                refine wpList_nil ⟨q3.cell hS (by simp), ?_⟩
                ((try dsimp only); (try simp only [Act.put, List.setIfInBounds_toArray, List.set_cons_zero, List.set_cons_succ]))
                refine M_brk (i := 6) rfl (by kernel_rfl) (by rfl) (by rfl) ?_
                refine wpList_recs_append rfl (.tmp 80) (.tmp 83) rfl w W1.heap.size _ v2 _ [x.b] rfl h3 _ 1 rfl q5 (by simp; omega) (by have := q3.size; have := h4.size; have := q1.size; omega) (by omega) ?_
                intro v4 W4 h7 _ h8
                have hF : RecsK w W4 0 v4 (P.img.recs ++ [x.b]) ∧ Chg [] Y W4 := ⟨by have := h7.base (Nat.zero_le _); simpa using this, hYd.trans (q3.andThen h8 (fun k hk => .inr (by have := (h3.own k hk).1; omega)))⟩
                refine wpList_nil ?_
                ((try dsimp only [EffQ]); (try simp only [Act.put, List.setIfInBounds_toArray, List.set_cons_zero, List.set_cons_succ]))
                refine M_pure (i := 7) (v := ?_) rfl (by kernel_rfl) (by kernel_rfl) (by kernel_rfl) (fun _ _ _ h => h) (by rfl) ?hy ?_; (case hy => (intro w; go_simp; with_reducible rfl)); ((try dsimp only); (try simp only [Act.put, List.setIfInBounds_toArray, List.set_cons_zero, List.set_cons_succ]))
                refine M_done (by kernel_rfl) ?_ _
                have HF := Lib.hid hF
                clear hF h7 h8
                go_wp2_with fail
                go_meet
                obtain ⟨A21, c21, e21⟩ := HF.out.1.slice
                exact ⟨A21, c21, _, e21, Lib.hid ⟨rfl, HF.out⟩⟩
          case rest =>
          obtain ⟨A21, c21, nt, rfl, H21⟩ := hcut
          obtain ⟨Y1, hY1⟩ : ∃ Y1, Y1 = wc := ⟨_, rfl⟩
          subst hY1
          obtain ⟨b0, b1, b2⟩ : Y1.cell? ⟨wr.heap.size, 0, none⟩ = some (.int .i64 x.kind) ∧ Y1.cell? ⟨wr.heap.size, 1, none⟩ = some (.int .i64 x.n) ∧ Y1.cell? ⟨wr.heap.size, 2, none⟩ = some (.slice Ab x.b.length cb) := ⟨range_all (cs := [_, _, _]) (H21.out.2.2.at hcell (by simp)) 0 _ rfl, range_all (cs := [_, _, _]) (H21.out.2.2.at hcell (by simp)) 1 _ rfl, range_all (cs := [_, _, _]) (H21.out.2.2.at hcell (by simp)) 2 _ rfl⟩
          clear hcell
          obtain ⟨ws, hw1, hw2, hw3, hw4⟩ := act_held (x := x) HI.out.2.2.1 (by omega) (by omega) HK.out.2.2.2.2.2.1
          have hrm := act_room (P := P) (x := x) (k := 1000000 - 100000 * r - 1 - 1024 * (i + 1)) (HI.out.2.2.2.1.less (by omega))
          have HW := Lib.hid (And.intro hw1 (And.intro hw2 (And.intro hw3 (And.intro hw4 hrm))))
          clear hw1 hw2 hw3 hw4 hrm
          have hgz : P.img.gen = 0 ∨ P.img.gen ≠ 0 := by omega
          have hbkc := Lib.hid (blank_any w Y1 q p P (HK.out.2.1.kept0 H21.out.2.2))
          iterate 10 go_step
          go_cut [21, 22] (fun tv dv wx => ∃ (A21 : Option Addr) (c21 : Nat) (nx : List (List Int)), tv = .slice A21 nx.length c21 ∧ dv = .int .i64 (actOf E P x).2.2 ∧ Hid (nx = (if x.kind = 1 ∨ P.img.gen = 0 then [x.b] else P.img.recs ++ [x.b]) ∧ RecsK w wx 0 tv nx ∧ DiskI w wx p (actOf E P x).1 ∧ PagesI w wx q p (actOf E P x).2.1 ∧ ChgT w TP Y wx))
          case first =>
            as_aux_lemma =>
              have HC := Lib.hid (And.intro (HK.out.1.kept0 H21.out.2.2) (And.intro (HK.out.2.1.kept0 H21.out.2.2) (HK.out.2.2.1.kept (T := []) (ChgT.of_nil H21.out.2.2) (by simp))))
              have hBK : BK w Y1 (.slice Ab x.b.length cb) x.b := ⟨Ab, cb, rfl, HC.out.2.2, HK.out.2.2.2.2.2.2⟩
              have HBK := Lib.hid hBK
              clear hBK
              by_cases hs : x.kind = 1 ∨ P.img.gen = 0
              · have hact : actOf E P x = snapOf E P x.b := by unfold actOf; rw [if_pos hs]
                have HAC := Lib.hid (And.intro hact hs)
                clear hact hgz
                by_cases hk : x.kind = 1
                · have e1 : (x.kind == 1) = true := by simpa using hk
                  clear hk hs
                  go_wp2_with (first
                    | (refine wpList_row1 rfl (.tmp 93) rfl Ab x.b.length cb rfl ?_
                       refine wpList_world (fun Z => RecsK w Z 0 (.slice (some ⟨Y1.heap.size, 0, none⟩) 1 1) [x.b] ∧ Chg [] Y1 Z) ⟨RecsK.one HBK.out 0 (Nat.zero_le _), (by with_reducible repeat (first | exact Chg.refl _ _ | apply Chg.alloc | apply Chg.drew | apply Chg.drewN | (refine Chg.setCell ?_ _ _ (by simp))))⟩ ?_
                       rintro Y2 ⟨h1, h2⟩
                       have d0 := h2.cell b0 (by simp)
                       have d2 := h2.cell b2 (by simp)
                       have HY2 := Lib.hid (And.intro h1 h2)
                       clear b0 b1 b2 h1 h2
                       ((try dsimp only); (try simp only [Act.put, List.setIfInBounds_toArray, List.set_cons_zero, List.set_cons_succ])))
                    | (skip; fail))
                  refine (snap_any w _ p q E P Ab x.b cb (HC.out.1.kept0 HY2.out.2) (HC.out.2.1.kept0 HY2.out.2) HI.out.2.2.1.fit (HC.out.2.2.kept (T := []) (ChgT.of_nil HY2.out.2) (by simp)) HK.out.2.2.2.2.2.2 HK.out.2.2.2.2.2.1 (HI.out.2.2.2.1.less (by omega)) (by omega)).mono ?_
                  rintro e V ⟨rfl, hv1, hv2, hv3⟩
                  rw [← HAC.out.1] at hv1 hv2
                  rw [← HAC.out.1]
                  have HV := Lib.hid (And.intro hv1 (And.intro hv2 hv3))
                  clear hv1 hv2 hv3
                  go_wp2_with fail
                  go_meet
                  exact ⟨some ⟨Y1.heap.size, 0, none⟩, 1, [x.b], rfl, rfl, Lib.hid ⟨by rw [if_pos HAC.out.2], HY2.out.1.kept HV.out.2.2 (by decide) (by decide), HV.out.1, HV.out.2.1, (ChgT.of_nil (H21.out.2.2.trans HY2.out.2)).trans HV.out.2.2⟩⟩
                · have e1 : (x.kind == 1) = false := by simpa using hk
                  have e2 : (P.img.gen == 0) = true := by rcases hs with h | h; · exact absurd h hk
                                                          · simpa using h
                  clear hk hs
                  go_wp2_with (first
                    | (refine wpList_row1 rfl (.tmp 93) rfl Ab x.b.length cb rfl ?_
                       refine wpList_world (fun Z => RecsK w Z 0 (.slice (some ⟨Y1.heap.size, 0, none⟩) 1 1) [x.b] ∧ Chg [] Y1 Z) ⟨RecsK.one HBK.out 0 (Nat.zero_le _), (by with_reducible repeat (first | exact Chg.refl _ _ | apply Chg.alloc | apply Chg.drew | apply Chg.drewN | (refine Chg.setCell ?_ _ _ (by simp))))⟩ ?_
                       rintro Y2 ⟨h1, h2⟩
                       have d0 := h2.cell b0 (by simp)
                       have d2 := h2.cell b2 (by simp)
                       have HY2 := Lib.hid (And.intro h1 h2)
                       clear b0 b1 b2 h1 h2
                       ((try dsimp only); (try simp only [Act.put, List.setIfInBounds_toArray, List.set_cons_zero, List.set_cons_succ])))
                    | (go_at_call 58; refine hbkc.out.mono ?_; rintro e w' ⟨rfl, rfl⟩)
                    | (skip; fail))
                  refine (snap_any w _ p q E P Ab x.b cb (HC.out.1.kept0 HY2.out.2) (HC.out.2.1.kept0 HY2.out.2) HI.out.2.2.1.fit (HC.out.2.2.kept (T := []) (ChgT.of_nil HY2.out.2) (by simp)) HK.out.2.2.2.2.2.2 HK.out.2.2.2.2.2.1 (HI.out.2.2.2.1.less (by omega)) (by omega)).mono ?_
                  rintro e V ⟨rfl, hv1, hv2, hv3⟩
                  rw [← HAC.out.1] at hv1 hv2
                  rw [← HAC.out.1]
                  have HV := Lib.hid (And.intro hv1 (And.intro hv2 hv3))
                  clear hv1 hv2 hv3
                  go_wp2_with fail
                  go_meet
                  exact ⟨some ⟨Y1.heap.size, 0, none⟩, 1, [x.b], rfl, rfl, Lib.hid ⟨by rw [if_pos HAC.out.2], HY2.out.1.kept HV.out.2.2 (by decide) (by decide), HV.out.1, HV.out.2.1, (ChgT.of_nil (H21.out.2.2.trans HY2.out.2)).trans HV.out.2.2⟩⟩
              · have hact : actOf E P x = appendOf E P x.b := by unfold actOf; rw [if_neg hs]
                have HAC := Lib.hid (And.intro hact hs)
                have e1 : (x.kind == 1) = false := by simpa using fun h => hs (.inl h)
                have e2 : (P.img.gen == 0) = false := by simpa using fun h => hs (.inr h)
                clear hact hs hgz
                go_wp2_with (first
                  | (go_at_call 58; refine hbkc.out.mono ?_; rintro e w' ⟨rfl, rfl⟩)
                  | (skip; fail))
                refine (append_any w _ p q E P Ab x.b cb HC.out.1 HC.out.2.1 HI.out.2.2.1.fit HC.out.2.2 HK.out.2.2.2.2.2.2 HK.out.2.2.2.2.2.1 (HI.out.2.2.2.1.less (by omega)) (by omega)).mono ?_
                rintro e V ⟨rfl, hv1, hv2, hv3⟩
                rw [← HAC.out.1] at hv1 hv2
                rw [← HAC.out.1]
                have HV := Lib.hid (And.intro hv1 (And.intro hv2 hv3))
                clear hv1 hv2 hv3
                go_wp2_with fail
                go_meet
                exact ⟨A21, c21, nt, rfl, rfl, Lib.hid ⟨by rw [if_neg HAC.out.2, H21.out.1], H21.out.2.1.kept HV.out.2.2 (by decide) (by decide), HV.out.1, HV.out.2.1, (ChgT.of_nil H21.out.2.2).trans HV.out.2.2⟩⟩
          case rest =>
          obtain ⟨A22, c22, nx, rfl, rfl, H22⟩ := hcut
          obtain ⟨V, hVe⟩ : ∃ V, V = wc := ⟨_, rfl⟩
          subst hVe
          have hTY : ChgT w TP Y V := H22.out.2.2.2.2
          have HJ := Lib.hid (And.intro (HT.out.1.kept hTY (by decide) (by decide) (by decide)) (And.intro (HT.out.2.kept hTY (by decide) (by decide)) (hTY.old HK.out.2.2.2.1)))
          have hms := HI.out.2.2.2.2.2.1
          have hns := HI.out.2.2.2.2.2.2.1
          have hml := hms.len
          have hwr : Calls Try.prog 32 #[.pointer (some ⟨p, 0, none⟩)] V fun e w' => e = .returned (.int .i64 ((at0 + ms.length + ws.length : Nat) : Int)) ∧ V = w' := by
            refine (dwrites_i w V p _ H22.out.2.2.1).mono ?_
            rintro e w' ⟨rfl, rfl⟩
            rw [HW.out.1, List.length_append, ← hml]
            exact ⟨rfl, rfl⟩
          have hLr : at0 + ms.length + ws.length < 400000 := by
            have h := HW.out.2.2.2.2.1
            rw [HW.out.1, List.length_append] at h
            omega
          have hns' : (ns.length : Int) = ms.length := by rw [hns]
          have HWr := Lib.hid (And.intro hwr (And.intro hms (And.intro hns hml)))
          clear hwr hms hns hml hns' hTY b0 b1 b2 hbkc H21 hgz HT HR HYe
          go_wp2_with (first
            | (go_at_call 32; refine HWr.out.1.mono ?_; rintro e w' ⟨rfl, rfl⟩)
            | (skip; fail))
          have e9 : ((at0 : Int) + ms.length + ws.length - at0 - ms.length) = ws.length := by omega
          rw [e9]
          clear e9
          go_loopw [13, 14, 110] (fun mv nv jv wq => ∃ (j : Nat) (ms' ns' : List (List (List Int))), j ≤ ws.length ∧ jv = .int .i64 j ∧ Hid (Tabs w wq w.heap.size mv nv ms' ns' ∧ ChgT w [some 96] V wq ∧ ms' = ms ++ List.replicate j P.img.recs ∧ ns' = ns ++ List.replicate j nx)) (fun _ _ jv _ => ws.length - (intOf jv).toNat)
          case atStart => exact ⟨0, ms, ns, Nat.zero_le _, rfl, Lib.hid ⟨HJ.out.1, ChgT.refl _ _ _, by simp, by simp⟩⟩
          case round =>
            obtain ⟨j, ms', ns', hj, rfl, HQ⟩ := hrel
            obtain ⟨wq, hwq⟩ : ∃ wq, wq = wr := ⟨_, rfl⟩
            subst hwq
            obtain ⟨Am, cm, rfl⟩ := HQ.out.1.one.slice
            obtain ⟨An, cn, rfl⟩ := HQ.out.1.two.slice
            have hml' : ms'.length ≤ 900000 := by rw [HQ.out.2.2.1, List.length_append, List.length_replicate]; omega
            have hnl' : ns'.length ≤ 900000 := by rw [HQ.out.2.2.2, List.length_append, List.length_replicate, HWr.out.2.2.1]; omega
            have hN1 := HJ.out.2.1.kept HQ.out.2.1 (by decide) (by decide)
            have hN2 := Nat.le_trans HJ.out.2.2.size HQ.out.2.1.size
            have HN := Lib.hid (And.intro hN1 hN2)
            clear hN1 hN2
            by_cases hjl : j < ws.length
            · go_wp2_with (first
                | (refine wpList_tab1 rfl (.tmp 113) rfl A15 P.img.recs.length c15 rfl ?_
                   refine wpList_world (fun Z => Z.cell? ⟨wq.heap.size, 0, none⟩ = some (.slice A15 P.img.recs.length c15) ∧ Chg [] wq Z) ⟨block1 (heap_new _ _ rfl), (by with_reducible repeat (first | exact Chg.refl _ _ | apply Chg.alloc | apply Chg.drew | apply Chg.drewN | (refine Chg.setCell ?_ _ _ (by simp))))⟩ ?_
                   rintro Z1 ⟨z1, z2⟩
                   have HZ1 := Lib.hid (And.intro z1 z2)
                   clear z1 z2
                   ((try dsimp only); (try simp only [Act.put, List.setIfInBounds_toArray, List.set_cons_zero, List.set_cons_succ])))
                | (refine wpList_tab_push rfl (.tmp 112) (.tmp 114) rfl w w.heap.size _ _ rfl (HQ.out.1.kept0 HZ1.out.2).one wq.heap.size _ P.img.recs rfl HZ1.out.1 (HN.out.1.kept0 HZ1.out.2) (by omega) (Nat.le_trans HN.out.2 HZ1.out.2.size) (Nat.le_refl _) ?_
                   intro v1 Z2 t1 t2 t3 t4
                   have HZ2 := Lib.hid (And.intro ((HQ.out.1.kept0 HZ1.out.2).push1 t1 t2 t3 t4) ((ChgT.of_nil HZ1.out.2).trans t2))
                   obtain ⟨Am', cm', rfl⟩ := t1.slice
                   clear t1 t2 t3 t4
                   ((try dsimp only); (try simp only [Act.put, List.setIfInBounds_toArray, List.set_cons_zero, List.set_cons_succ])))
                | (refine wpList_tab1 rfl (.tmp 117) rfl A22 nx.length c22 rfl ?_
                   refine wpList_world (fun Z => Z.cell? ⟨Z2.heap.size, 0, none⟩ = some (.slice A22 nx.length c22) ∧ Chg [] Z2 Z) ⟨block1 (heap_new _ _ rfl), (by with_reducible repeat (first | exact Chg.refl _ _ | apply Chg.alloc | apply Chg.drew | apply Chg.drewN | (refine Chg.setCell ?_ _ _ (by simp))))⟩ ?_
                   rintro Z3 ⟨z1, z2⟩
                   have HZ3 := Lib.hid (And.intro z1 z2)
                   clear z1 z2
                   ((try dsimp only); (try simp only [Act.put, List.setIfInBounds_toArray, List.set_cons_zero, List.set_cons_succ])))
                | (refine wpList_tab_push rfl (.tmp 116) (.tmp 118) rfl w w.heap.size _ _ rfl (HZ2.out.1.kept0 HZ3.out.2).two Z2.heap.size _ nx rfl HZ3.out.1 ((H22.out.2.1.kept (HQ.out.2.1.trans HZ2.out.2) (by decide) (by decide)).kept0 HZ3.out.2) (by omega) (Nat.le_trans HN.out.2 (Nat.le_trans HZ2.out.2.size HZ3.out.2.size)) (Nat.le_refl _) ?_
                   intro v2 Z4 t1 t2 t3 t4
                   have HZ4 := Lib.hid (And.intro ((HZ2.out.1.kept0 HZ3.out.2).push2 t1 t2 t3 t4) ((HQ.out.2.1.trans HZ2.out.2).trans ((ChgT.of_nil HZ3.out.2).trans t2)))
                   clear t1 t2 t3 t4
                   ((try dsimp only); (try simp only [Act.put, List.setIfInBounds_toArray, List.set_cons_zero, List.set_cons_succ])))
                | (skip; fail))
              go_roundw
              case rel => exact ⟨j + 1, ms' ++ [P.img.recs], ns' ++ [nx], by omega, by go_num, Lib.hid ⟨HZ4.out.1, HZ4.out.2, by rw [HQ.out.2.2.1, List.append_assoc, ← List.replicate_succ'], by rw [HQ.out.2.2.2, List.append_assoc, ← List.replicate_succ']⟩⟩
              case measure => simp [intOf]; omega
            · obtain rfl : j = ws.length := by omega
              have e3 : 40 * (r : Int) + ((i + 1 : Nat) : Int) = 40 * r + i + 1 := by omega
              have hF : DiskI w wq p (actOf E P x).1 ∧ PagesI w wq q p (actOf E P x).2.1 ∧ Held (2 + 2 * r) (40 * r + (i + 1 : Nat)) (actOf E P x).1 (actOf E P x).2.1 ∧ (actOf E P x).1.Room (1000000 - 100000 * r - 1 - 1024 * (i + 1)) ∧ Tabs w wq w.heap.size (.slice Am ms'.length cm) (.slice An ns'.length cn) ms' ns' ∧ Moments (2 + 2 * r) (40 * r + (i + 1 : Nat)) at0 (actOf E P x).1.L ms' ∧ ns'.length = ms'.length :=
                ⟨H22.out.2.2.1.kept HQ.out.2.1 (by decide) (by decide) (by decide), H22.out.2.2.2.1.kept HQ.out.2.1 (by decide) (by decide) (by decide), by rw [e3]; exact HW.out.2.1, HW.out.2.2.2.2, HQ.out.1, by rw [HQ.out.2.2.1]; exact HWr.out.2.1.push HW.out.1 HW.out.2.2.1 (by omega), by rw [HQ.out.2.2.1, HQ.out.2.2.2, List.length_append, List.length_append, HWr.out.2.2.1, List.length_replicate, List.length_replicate]⟩
              have HF := Lib.hid hF
              have HV := Lib.hid (And.intro (HQ.out.2.1.old HJ.out.2.2) (H22.out.2.1.kept HQ.out.2.1 (by decide) (by decide)))
              clear hF e3
              by_cases he : (actOf E P x).2.2 = 0
              · have e4 : ((actOf E P x).2.2 == 0) = true := by simpa using he
                have hrec : (actOf E P x).2.1.img.recs = nx := by rw [HW.out.2.2.2.1, if_pos he, H22.out.1]
                have HRec := Lib.hid hrec
                clear he hrec
                go_wp2_with (skip; fail)
                go_roundw
                case rel => exact ⟨i + 1, (actOf E P x).1, (actOf E P x).2.1, ms', ns', by omega, by go_num, Lib.hid ⟨HF.out.1, HF.out.2.1, HF.out.2.2.1, HF.out.2.2.2.1, HF.out.2.2.2.2.1, HF.out.2.2.2.2.2.1, HF.out.2.2.2.2.2.2, by rw [HRec.out]; exact HV.out.2, HV.out.1⟩⟩
                case measure => simp [intOf]; omega
              · have e4 : ((actOf E P x).2.2 == 0) = false := by simpa using he
                have hrec : (actOf E P x).2.1.img.recs = P.img.recs := by rw [HW.out.2.2.2.1, if_neg he]
                have HRec := Lib.hid hrec
                clear he hrec
                go_wp2_with (skip; fail)
                go_roundw
                case rel => exact ⟨i + 1, (actOf E P x).1, (actOf E P x).2.1, ms', ns', by omega, by go_num, Lib.hid ⟨HF.out.1, HF.out.2.1, HF.out.2.2.1, HF.out.2.2.2.1, HF.out.2.2.2.2.1, HF.out.2.2.2.2.2.1, HF.out.2.2.2.2.2.2, by rw [HRec.out]; exact HN.out.1, HV.out.1⟩⟩
                case measure => simp [intOf]; omega
        · obtain rfl : i = acts'.length := by omega
          iterate 25 go_step
          go_cut [23, 24] (fun kv nv wx => ∃ k : Nat, kv = .int .i64 k ∧ nv = .int .i64 ms.length ∧ wx = wr ∧ Hid ((0 < ms.length → k < ms.length) ∧ (ms.length = 0 → k = 0)))
          case first =>
            as_aux_lemma =>
              by_cases hn : 0 < ms.length
              · obtain ⟨k, hk1, hk2, hk3, hk4⟩ := cut_in cut ms.length hn
                have hd0 : ((ms.length : Int) == 0) = false := beq_eq_false_iff_ne.2 (by omega)
                have hml : ms.length < 1048576 := by have h1 := HI.out.2.2.2.1.1; have h2 := HI.out.2.2.2.2.2.1.len; omega
                have hg : decide (0 < ms.length) = true := by simpa using hn
                go_wp2_with (skip; fail)
                go_meet
                exact ⟨k, rfl, rfl, rfl, Lib.hid ⟨fun _ => hk1, fun h => by omega⟩⟩
              · have hg : decide (0 < ms.length) = false := by simpa using hn
                go_wp2_with (skip; fail)
                go_meet
                exact ⟨0, rfl, rfl, rfl, Lib.hid ⟨fun h => absurd h hn, fun _ => rfl⟩⟩
          case rest =>
          obtain ⟨k, rfl, rfl, rfl, HK⟩ := hcut
          obtain ⟨V, hVe⟩ : ∃ V, V = wc := ⟨_, rfl⟩
          subst hVe
          have hkl : at0 + k ≤ E.L.length := by
            have h1 := HI.out.2.2.2.2.2.1.len
            rcases Nat.eq_zero_or_pos ms.length with h | h
            · have := HK.out.2 h; omega
            · have := HK.out.1 h; omega
          obtain ⟨m, hmm⟩ : ∃ m, m = if 0 < ms.length then ms.getD k [] else P.img.recs := ⟨_, rfl⟩
          have hLl : E.L.length < 1048576 := by have := HI.out.2.2.2.1.1; omega
          have hCL : (E.cut (at0 + k : Int)).L = E.L.take (at0 + k) := by
            show E.L.take (cutN (at0 + k : Int) E.L.length) = _
            unfold cutN
            congr 1
            omega
          have htold : Told (2 + 2 * r) (40 * r + acts'.length) (secOf (E.cut (at0 + k : Int)).L) m := by
            rw [hCL, hmm]
            by_cases hn : 0 < ms.length
            · rw [if_pos hn]
              exact HI.out.2.2.2.2.2.1.told k (HK.out.1 hn)
            · rw [if_neg hn, HK.out.2 (by omega), List.take_of_length_le (by have := HI.out.2.2.2.2.2.1.len; omega)]
              exact HI.out.2.2.1.told
          have hcut := dcut_i w V p E (at0 + k : Int) HI.out.1 hLl
          have hroom : (E.cut (at0 + k : Int)).Room (1000000 - 100000 * (r + 1) + 1) := by
            have h1 := HI.out.2.2.2.1.1
            refine ⟨?_, by show _ ≤ (0 : Int); omega, by show (0 : Int) ≤ _; omega⟩
            rw [hCL, List.length_take]
            omega
          obtain ⟨C, hC⟩ : ∃ C, C = E.cut (at0 + k : Int) := ⟨_, rfl⟩
          have hCd : C.down = false ∧ C.armed = false := by rw [hC]; exact ⟨rfl, rfl⟩
          rw [← hC] at hcut hroom htold
          have HCU := Lib.hid (And.intro hcut (And.intro hroom (And.intro htold (And.intro hCd hmm))))
          have hbk : at0 + k < 1048576 := by omega
          clear hkl hmm hLl hCL htold hcut hroom hC hCd
          go_wp2_with (first
            | (go_at_call 31
               refine HCU.out.1.mono ?_
               rintro e X ⟨rfl, hx1, hx2⟩
               have HX := Lib.hid (And.intro (hx1.base HI.out.2.2.2.2.2.2.2.2.size) hx2)
               clear hx1 hx2)
            | (skip; fail))
          obtain ⟨C', P', ⟨wg, wh, wb, wrs⟩, ⟨vg, vh, vb, vrs⟩, ho, hheld, hrs, hgen, hl0, hl1, hx0, hx1, hg1, hbt, hwr⟩ := told_open HCU.out.2.2.2.1.1 HCU.out.2.2.2.1.2 (by obtain ⟨_, _, _, _, _, _, h⟩ := HX.out.1; exact h) HCU.out.2.2.1 (by omega) (by omega)
          dsimp only at hgen hx0 hx1 hg1 hbt
          subst hx0
          have hx1 := hx1.symm
          have hg1 := hg1.symm
          subst hx1 hg1
          have hlk := look_any w X _ C HX.out.1
          rw [hl0] at hlk
          have hop := fun (U : World) (h : Chg [] X U) => open_any w U _ C (HX.out.1.kept0 h) (HCU.out.2.1.less (by omega))
          rw [ho] at hop
          have hml : wrs.length ≤ 100000 := by rw [← hrs]; have h1 := hheld.fit.count; have h2 := hheld.fit.most; omega
          have hrm : C'.Room (1000000 - 100000 * (r + 1)) := by
            rcases hwr with rfl | ⟨bs, rfl⟩
            · exact HCU.out.2.1.less (by omega)
            · exact HCU.out.2.1.write _ _
          have HLK := Lib.hid (And.intro hlk (And.intro hop (And.intro hl1 (And.intro hheld (And.intro hrs hrm)))))
          have HG := Lib.hid (And.intro hgen hbt)
          clear ho hheld hrs hgen hl0 hl1 hbt hwr hlk hop hrm
          refine HLK.out.1.mono ?_
          rintro e W5 ⟨v5, rfl, hr5, hc5⟩
          obtain ⟨A5, c5, rfl⟩ := hr5.slice
          dsimp only at hr5 ⊢
          have H5 := Lib.hid (And.intro (hr5.base (Nat.zero_le _)) hc5)
          clear hr5 hc5
          go_wp2_with (first
            | (refine wpList_alloc rfl 98 rfl _ zeroImg ?_
               refine wpList_world (fun Z => Z.heap[W5.heap.size]? = some (.cells #[.int .i64 0, .int .i64 0, .int .i64 0, .slice none 0 0] 98 (0, 0)) ∧ Chg [] W5 Z) ⟨heap_new _ _ rfl, (by with_reducible repeat (first | exact Chg.refl _ _ | apply Chg.alloc | apply Chg.drew | apply Chg.drewN | (refine Chg.setCell ?_ _ _ (by simp))))⟩ ?_
               rintro Z ⟨hb, hZ⟩
               refine wpList_store_row rfl 98 (.tmp 26) (.tmp 144) rfl W5.heap.size (by kernel_rfl) #[.int .i64 wg, .int .i64 wh, .int .i64 wb, .slice A5 wrs.length c5] (by kernel_rfl) _ _ hb infoImg rfl (img_one _ _ _ _ rfl) ?_
               refine wpList_world (fun U => U.heap[W5.heap.size]? = some (.cells #[.int .i64 wg, .int .i64 wh, .int .i64 wb, .slice A5 wrs.length c5] 98 (0, 0)) ∧ Chg [] W5 U) ⟨setRow_heap _ _ _ _ _ _ hb, hZ.andThen (setRow_chg _ _ _) (by simp)⟩ ?_
               rintro U ⟨hu, hU⟩
               have HU := Lib.hid (show U.heap[W5.heap.size]? = some (.cells #[.int .i64 wg, .int .i64 wh, .int .i64 wb, .slice A5 wrs.length c5] 98 (0, 0)) ∧ Chg [] X U ∧ RecsK w U 0 (.slice A5 wrs.length c5) wrs ∧ Chg [] V U from ⟨hu, H5.out.2.trans hU, (H5.out.1.kept0 hU).toK, HX.out.2.trans (H5.out.2.trans hU)⟩)
               clear hb hZ hu hU
               ((try dsimp only); (try simp only [Act.put, List.setIfInBounds_toArray, List.set_cons_zero, List.set_cons_succ])))
            | (skip; fail))
          go_cut [170] (fun bv wx => bv = .bool false ∧ Hid (Chg [] U wx))
          case first =>
            as_aux_lemma =>
              obtain ⟨a0, a1, a2, a3, _⟩ := cell4 HU.out.1
              by_cases hn : 0 < ms.length
              · have hkn := HK.out.1 hn
                obtain ⟨g, v, hA13, hcv, hrv⟩ := (HI.out.2.2.2.2.1.kept0 HU.out.2.2.2).one.at hkn
                subst hA13
                obtain ⟨Av, cv, rfl⟩ := hrv.slice
                have hmv : ms.getD k [] = wrs := by rw [HCU.out.2.2.2.2, if_pos hn]
                rw [hmv] at hrv hcv
                have HRV := Lib.hid hrv
                have hg : decide (0 < ms.length) = true := by simpa using hn
                have hYd : Chg [] U U.drew := (Chg.refl _ _).drew
                have d3 := hYd.cell a3 (by simp)
                have dv := hYd.cell hcv (by simp)
                clear hmv hrv hn a0 a1 a2 a3 hcv
                refine wp_region_M (fun _ => True) (fun k => [10].contains k) (fun _ => false) (by kernel_rfl) ?_
                obtain ⟨Z, hZ⟩ : ∃ Z, Z = U.drew := ⟨_, rfl⟩
                rw [← hZ] at hYd d3 dv ⊢
                have HZ := Lib.hid hYd
                clear hYd hZ
                ((try dsimp only); (try simp only [Act.put, List.setIfInBounds_toArray, List.set_cons_zero, List.set_cons_succ]))
                refine M_pure (i := 0) (v := ?_) rfl (by kernel_rfl) (by kernel_rfl) (by kernel_rfl) (fun _ _ _ h => h) (by rfl) ?hy ?_; (case hy => (intro w; go_simp; with_reducible rfl)); ((try dsimp only); (try simp only [Act.put, List.setIfInBounds_toArray, List.set_cons_zero, List.set_cons_succ]))
                refine M_pure (i := 1) (v := ?_) rfl (by kernel_rfl) (by kernel_rfl) (by kernel_rfl) (fun _ _ _ h => h) (by rfl) ?hy ?_; (case hy => (intro w; go_simp; with_reducible rfl)); ((try dsimp only); (try simp only [Act.put, List.setIfInBounds_toArray, List.set_cons_zero, List.set_cons_succ]))
                refine M_pure (i := 2) (v := ?_) rfl (by kernel_rfl) (by kernel_rfl) (by kernel_rfl) (fun _ _ _ h => h) (by rfl) ?hy ?_; (case hy => (intro w; go_simp; with_reducible rfl)); ((try dsimp only); (try simp only [Act.put, List.setIfInBounds_toArray, List.set_cons_zero, List.set_cons_succ]))
                refine M_pure (i := 3) (v := ?_) rfl (by kernel_rfl) (by kernel_rfl) (by kernel_rfl) (fun _ _ _ h => h) (by rfl) ?hy ?_; (case hy => (intro w; go_simp; with_reducible rfl)); ((try dsimp only); (try simp only [Act.put, List.setIfInBounds_toArray, List.set_cons_zero, List.set_cons_succ]))
                refine M_pure (i := 4) (v := ?_) rfl (by kernel_rfl) (by kernel_rfl) (by kernel_rfl) (fun _ _ _ h => h) (by rfl) ?hy ?_; (case hy => (intro w; go_simp; with_reducible rfl)); ((try dsimp only); (try simp only [Act.put, List.setIfInBounds_toArray, List.set_cons_zero, List.set_cons_succ]))
                refine M_take (i := 5) (v := ?_) rfl (by kernel_rfl) (by kernel_rfl) (by kernel_rfl) (by kernel_rfl) (fun _ _ _ h => h) (by rfl) ?hy ?_; (case hy => (go_simp; with_reducible rfl)); ((try dsimp only); (try simp only [Act.put, List.setIfInBounds_toArray, List.set_cons_zero, List.set_cons_succ]))
                refine M_pure (i := 6) (v := ?_) rfl (by kernel_rfl) (by kernel_rfl) (by kernel_rfl) (fun _ _ _ h => h) (by rfl) ?hy ?_; (case hy => (intro w; go_simp; with_reducible rfl)); ((try dsimp only); (try simp only [Act.put, List.setIfInBounds_toArray, List.set_cons_zero, List.set_cons_succ]))
                refine M_pure (i := 7) (v := ?_) rfl (by kernel_rfl) (by kernel_rfl) (by kernel_rfl) (fun _ _ _ h => h) (by rfl) ?hy ?_; (case hy => (intro w; go_simp; with_reducible rfl)); ((try dsimp only); (try simp only [Act.put, List.setIfInBounds_toArray, List.set_cons_zero, List.set_cons_succ]))
                refine M_pure (i := 8) (v := ?_) rfl (by kernel_rfl) (by kernel_rfl) (by kernel_rfl) (fun _ _ _ h => h) (by rfl) ?hy ?_; (case hy => (intro w; go_simp; with_reducible rfl)); ((try dsimp only); (try simp only [Act.put, List.setIfInBounds_toArray, List.set_cons_zero, List.set_cons_succ]))
                refine M_take (i := 9) (v := ?_) rfl (by kernel_rfl) (by kernel_rfl) (by kernel_rfl) (by kernel_rfl) (fun _ _ _ h => h) (by rfl) ?hy ?_; (case hy => (go_simp; with_reducible rfl)); ((try dsimp only); (try simp only [Act.put, List.setIfInBounds_toArray, List.set_cons_zero, List.set_cons_succ]))
                refine M_eff (i := 10) rfl (by kernel_rfl) (by rfl) ?_
                go_wp2_with fail
                refine (records_k w Z 0 0 _ _ wrs (HU.out.2.2.1.kept0 HZ.out) (HRV.out.kept0 HZ.out) hml).mono ?_
                rintro e Y ⟨rfl, hY⟩
                have HY := Lib.hid (HZ.out.trans hY)
                clear hY d3 dv
                go_wp2_with fail
                refine ⟨trivial, ?_⟩
                ((try dsimp only); (try simp only [Act.put, List.setIfInBounds_toArray, List.set_cons_zero, List.set_cons_succ]))
                refine M_pure (i := 11) (v := ?_) rfl (by kernel_rfl) (by kernel_rfl) (by kernel_rfl) (fun _ _ _ h => h) (by rfl) ?hy ?_; (case hy => (intro w; go_simp; with_reducible rfl)); ((try dsimp only); (try simp only [Act.put, List.setIfInBounds_toArray, List.set_cons_zero, List.set_cons_succ]))
                refine M_pure (i := 12) (v := ?_) rfl (by kernel_rfl) (by kernel_rfl) (by kernel_rfl) (fun _ _ _ h => h) (by rfl) ?hy ?_; (case hy => (intro w; go_simp; with_reducible rfl)); ((try dsimp only); (try simp only [Act.put, List.setIfInBounds_toArray, List.set_cons_zero, List.set_cons_succ]))
                refine M_pure (i := 13) (v := ?_) rfl (by kernel_rfl) (by kernel_rfl) (by kernel_rfl) (fun _ _ _ h => h) (by rfl) ?hy ?_; (case hy => (intro w; go_simp; with_reducible rfl)); ((try dsimp only); (try simp only [Act.put, List.setIfInBounds_toArray, List.set_cons_zero, List.set_cons_succ]))
                refine M_skip (i := 14) rfl (by kernel_rfl) (by kernel_rfl) (by kernel_rfl) (fun _ _ _ h => h) (by rfl) ?_; ((try dsimp only); (try simp only [Act.put, List.setIfInBounds_toArray, List.set_cons_zero, List.set_cons_succ]))
                refine M_skip (i := 15) rfl (by kernel_rfl) (by kernel_rfl) (by kernel_rfl) (fun _ _ _ h => h) (by rfl) ?_; ((try dsimp only); (try simp only [Act.put, List.setIfInBounds_toArray, List.set_cons_zero, List.set_cons_succ]))
                refine M_skip (i := 16) rfl (by kernel_rfl) (by kernel_rfl) (by kernel_rfl) (fun _ _ _ h => h) (by rfl) ?_; ((try dsimp only); (try simp only [Act.put, List.setIfInBounds_toArray, List.set_cons_zero, List.set_cons_succ]))
                refine M_skip (i := 17) rfl (by kernel_rfl) (by kernel_rfl) (by kernel_rfl) (fun _ _ _ h => h) (by rfl) ?_; ((try dsimp only); (try simp only [Act.put, List.setIfInBounds_toArray, List.set_cons_zero, List.set_cons_succ]))
                refine M_skip (i := 18) rfl (by kernel_rfl) (by kernel_rfl) (by kernel_rfl) (fun _ _ _ h => h) (by rfl) ?_; ((try dsimp only); (try simp only [Act.put, List.setIfInBounds_toArray, List.set_cons_zero, List.set_cons_succ]))
                refine M_skip (i := 19) rfl (by kernel_rfl) (by kernel_rfl) (by kernel_rfl) (fun _ _ _ h => h) (by rfl) ?_; ((try dsimp only); (try simp only [Act.put, List.setIfInBounds_toArray, List.set_cons_zero, List.set_cons_succ]))
                refine M_skip (i := 20) rfl (by kernel_rfl) (by kernel_rfl) (by kernel_rfl) (fun _ _ _ h => h) (by rfl) ?_; ((try dsimp only); (try simp only [Act.put, List.setIfInBounds_toArray, List.set_cons_zero, List.set_cons_succ]))
                refine M_skip (i := 21) rfl (by kernel_rfl) (by kernel_rfl) (by kernel_rfl) (fun _ _ _ h => h) (by rfl) ?_; ((try dsimp only); (try simp only [Act.put, List.setIfInBounds_toArray, List.set_cons_zero, List.set_cons_succ]))
                refine M_pure (i := 22) (v := ?_) rfl (by kernel_rfl) (by kernel_rfl) (by kernel_rfl) (fun _ _ _ h => h) (by rfl) ?hy ?_; (case hy => (intro w; go_simp; with_reducible rfl)); ((try dsimp only); (try simp only [Act.put, List.setIfInBounds_toArray, List.set_cons_zero, List.set_cons_succ]))
                refine M_done (by kernel_rfl) ?_ _
                go_wp2_with fail
                go_meet
                exact ⟨rfl, HY⟩
              · have hg : decide (0 < ms.length) = false := by simpa using hn
                clear a0 a1 a2 a3
                refine wp_region_M (fun _ => True) (fun _ => false) (fun _ => false) (by kernel_rfl) ?_
                ((try dsimp only); (try simp only [Act.put, List.setIfInBounds_toArray, List.set_cons_zero, List.set_cons_succ]))
                refine M_pure (i := 0) (v := ?_) rfl (by kernel_rfl) (by kernel_rfl) (by kernel_rfl) (fun _ _ _ h => h) (by rfl) ?hy ?_; (case hy => (intro w; go_simp; with_reducible rfl)); ((try dsimp only); (try simp only [Act.put, List.setIfInBounds_toArray, List.set_cons_zero, List.set_cons_succ]))
                refine M_pure (i := 1) (v := ?_) rfl (by kernel_rfl) (by kernel_rfl) (by kernel_rfl) (fun _ _ _ h => h) (by rfl) ?hy ?_; (case hy => (intro w; go_simp; with_reducible rfl)); ((try dsimp only); (try simp only [Act.put, List.setIfInBounds_toArray, List.set_cons_zero, List.set_cons_succ]))
                refine M_pure (i := 2) (v := ?_) rfl (by kernel_rfl) (by kernel_rfl) (by kernel_rfl) (fun _ _ _ h => h) (by rfl) ?hy ?_; (case hy => (intro w; go_simp; with_reducible rfl)); ((try dsimp only); (try simp only [Act.put, List.setIfInBounds_toArray, List.set_cons_zero, List.set_cons_succ]))
                refine M_pure (i := 3) (v := ?_) rfl (by kernel_rfl) (by kernel_rfl) (by kernel_rfl) (fun _ _ _ h => h) (by rfl) ?hy ?_; (case hy => (intro w; go_simp; with_reducible rfl)); ((try dsimp only); (try simp only [Act.put, List.setIfInBounds_toArray, List.set_cons_zero, List.set_cons_succ]))
                refine M_skip (i := 4) rfl (by kernel_rfl) (by kernel_rfl) (by kernel_rfl) (fun _ _ _ h => h) (by rfl) ?_; ((try dsimp only); (try simp only [Act.put, List.setIfInBounds_toArray, List.set_cons_zero, List.set_cons_succ]))
                refine M_skip (i := 5) rfl (by kernel_rfl) (by kernel_rfl) (by kernel_rfl) (fun _ _ _ h => h) (by rfl) ?_; ((try dsimp only); (try simp only [Act.put, List.setIfInBounds_toArray, List.set_cons_zero, List.set_cons_succ]))
                refine M_skip (i := 6) rfl (by kernel_rfl) (by kernel_rfl) (by kernel_rfl) (fun _ _ _ h => h) (by rfl) ?_; ((try dsimp only); (try simp only [Act.put, List.setIfInBounds_toArray, List.set_cons_zero, List.set_cons_succ]))
                refine M_skip (i := 7) rfl (by kernel_rfl) (by kernel_rfl) (by kernel_rfl) (fun _ _ _ h => h) (by rfl) ?_; ((try dsimp only); (try simp only [Act.put, List.setIfInBounds_toArray, List.set_cons_zero, List.set_cons_succ]))
                refine M_skip (i := 8) rfl (by kernel_rfl) (by kernel_rfl) (by kernel_rfl) (fun _ _ _ h => h) (by rfl) ?_; ((try dsimp only); (try simp only [Act.put, List.setIfInBounds_toArray, List.set_cons_zero, List.set_cons_succ]))
                refine M_skip (i := 9) rfl (by kernel_rfl) (by kernel_rfl) (by kernel_rfl) (fun _ _ _ h => h) (by rfl) ?_; ((try dsimp only); (try simp only [Act.put, List.setIfInBounds_toArray, List.set_cons_zero, List.set_cons_succ]))
                refine M_skip (i := 10) rfl (by kernel_rfl) (by kernel_rfl) (by kernel_rfl) (fun _ _ _ h => h) (by rfl) ?_; ((try dsimp only); (try simp only [Act.put, List.setIfInBounds_toArray, List.set_cons_zero, List.set_cons_succ]))
                refine M_skip (i := 11) rfl (by kernel_rfl) (by kernel_rfl) (by kernel_rfl) (fun _ _ _ h => h) (by rfl) ?_; ((try dsimp only); (try simp only [Act.put, List.setIfInBounds_toArray, List.set_cons_zero, List.set_cons_succ]))
                refine M_pure (i := 12) (v := ?_) rfl (by kernel_rfl) (by kernel_rfl) (by kernel_rfl) (fun _ _ _ h => h) (by rfl) ?hy ?_; (case hy => (intro w; go_simp; with_reducible rfl)); ((try dsimp only); (try simp only [Act.put, List.setIfInBounds_toArray, List.set_cons_zero, List.set_cons_succ]))
                refine M_pure (i := 13) (v := ?_) rfl (by kernel_rfl) (by kernel_rfl) (by kernel_rfl) (fun _ _ _ h => h) (by rfl) ?hy ?_; (case hy => (intro w; go_simp; with_reducible rfl)); ((try dsimp only); (try simp only [Act.put, List.setIfInBounds_toArray, List.set_cons_zero, List.set_cons_succ]))
                refine M_skip (i := 14) rfl (by kernel_rfl) (by kernel_rfl) (by kernel_rfl) (fun _ _ _ h => h) (by rfl) ?_; ((try dsimp only); (try simp only [Act.put, List.setIfInBounds_toArray, List.set_cons_zero, List.set_cons_succ]))
                refine M_skip (i := 15) rfl (by kernel_rfl) (by kernel_rfl) (by kernel_rfl) (fun _ _ _ h => h) (by rfl) ?_; ((try dsimp only); (try simp only [Act.put, List.setIfInBounds_toArray, List.set_cons_zero, List.set_cons_succ]))
                refine M_skip (i := 16) rfl (by kernel_rfl) (by kernel_rfl) (by kernel_rfl) (fun _ _ _ h => h) (by rfl) ?_; ((try dsimp only); (try simp only [Act.put, List.setIfInBounds_toArray, List.set_cons_zero, List.set_cons_succ]))
                refine M_skip (i := 17) rfl (by kernel_rfl) (by kernel_rfl) (by kernel_rfl) (fun _ _ _ h => h) (by rfl) ?_; ((try dsimp only); (try simp only [Act.put, List.setIfInBounds_toArray, List.set_cons_zero, List.set_cons_succ]))
                refine M_skip (i := 18) rfl (by kernel_rfl) (by kernel_rfl) (by kernel_rfl) (fun _ _ _ h => h) (by rfl) ?_; ((try dsimp only); (try simp only [Act.put, List.setIfInBounds_toArray, List.set_cons_zero, List.set_cons_succ]))
                refine M_skip (i := 19) rfl (by kernel_rfl) (by kernel_rfl) (by kernel_rfl) (fun _ _ _ h => h) (by rfl) ?_; ((try dsimp only); (try simp only [Act.put, List.setIfInBounds_toArray, List.set_cons_zero, List.set_cons_succ]))
                refine M_skip (i := 20) rfl (by kernel_rfl) (by kernel_rfl) (by kernel_rfl) (fun _ _ _ h => h) (by rfl) ?_; ((try dsimp only); (try simp only [Act.put, List.setIfInBounds_toArray, List.set_cons_zero, List.set_cons_succ]))
                refine M_skip (i := 21) rfl (by kernel_rfl) (by kernel_rfl) (by kernel_rfl) (fun _ _ _ h => h) (by rfl) ?_; ((try dsimp only); (try simp only [Act.put, List.setIfInBounds_toArray, List.set_cons_zero, List.set_cons_succ]))
                refine M_pure (i := 22) (v := ?_) rfl (by kernel_rfl) (by kernel_rfl) (by kernel_rfl) (fun _ _ _ h => h) (by rfl) ?hy ?_; (case hy => (intro w; go_simp; with_reducible rfl)); ((try dsimp only); (try simp only [Act.put, List.setIfInBounds_toArray, List.set_cons_zero, List.set_cons_succ]))
                refine M_done (by kernel_rfl) ?_ _
                go_wp2_with fail
                go_meet
                exact ⟨rfl, Lib.hid (Chg.refl _ _).drew⟩
          case rest =>
          obtain ⟨rfl, HC⟩ := hcut
          obtain ⟨G, hGe⟩ : ∃ G, G = wc := ⟨_, rfl⟩
          subst hGe
          by_cases hz : wg = 0
          · have e1 : (P'.img.gen == 0) = true := by rw [HG.out.1]; simpa using hz
            clear hz
            obtain ⟨a0, a1, a2, a3, _⟩ := cell4 (HC.out.at HU.out.1 (by simp))
            go_wp2_with fail
            refine (HLK.out.2.1 G (HU.out.2.1.trans HC.out)).mono ?_
            rintro e X1 ⟨hd1, hc1, q1, rfl, hp1, _⟩
            have hl1 := look_any w X1 _ C' hd1
            rw [HLK.out.2.2.1] at hl1
            have HX1 := Lib.hid (show DiskI w X1 (V.heap.size + 1) C' ∧ PagesI w X1 q1 (V.heap.size + 1) P' ∧ X1.heap[W5.heap.size]? = some (.cells #[.int .i64 wg, .int .i64 wh, .int .i64 wb, .slice A5 wrs.length c5] 98 (0, 0)) ∧ RecsK w X1 0 (.slice A5 wrs.length c5) wrs ∧ Chg [] w X1 from ⟨hd1, hp1, hc1.at (HC.out.at HU.out.1 (by simp)) (by simp [okind, TD]), (HU.out.2.2.1.kept0 HC.out).kept hc1 (by decide) (by decide), hc1.old (HI.out.2.2.2.2.2.2.2.2.trans (HU.out.2.2.2.trans HC.out))⟩)
            clear hd1 hc1 hp1 a0 a1 a2 a3
            go_wp2_with fail
            refine hl1.mono ?_
            clear hl1
            rintro e X2 ⟨v6, rfl, hr6, hc6⟩
            obtain ⟨A6, c6, rfl⟩ := hr6.slice
            dsimp only at hr6 ⊢
            have HX2 := Lib.hid (And.intro (hr6.base (Nat.zero_le _)) hc6)
            clear hr6 hc6
            go_wp2_with (first
              | (refine wpList_alloc rfl 98 rfl _ zeroImg ?_
                 refine wpList_world (fun Z => Z.heap[X2.heap.size]? = some (.cells #[.int .i64 0, .int .i64 0, .int .i64 0, .slice none 0 0] 98 (0, 0)) ∧ Chg [] X2 Z) ⟨heap_new _ _ rfl, (by with_reducible repeat (first | exact Chg.refl _ _ | apply Chg.alloc | apply Chg.drew | apply Chg.drewN | (refine Chg.setCell ?_ _ _ (by simp))))⟩ ?_
                 rintro Z ⟨hb, hZ⟩
                 refine wpList_store_row rfl 98 (.tmp 31) (.tmp 181) rfl X2.heap.size (by kernel_rfl) #[.int .i64 wg, .int .i64 vh, .int .i64 vb, .slice A6 wrs.length c6] (by kernel_rfl) _ _ hb infoImg rfl (img_one _ _ _ _ rfl) ?_
                 refine wpList_world (fun U => U.heap[X2.heap.size]? = some (.cells #[.int .i64 wg, .int .i64 vh, .int .i64 vb, .slice A6 wrs.length c6] 98 (0, 0)) ∧ Chg [] X2 U) ⟨setRow_heap _ _ _ _ _ _ hb, hZ.andThen (setRow_chg _ _ _) (by simp)⟩ ?_
                 rintro X3 ⟨hu, hU⟩
                 have HX3 := Lib.hid (show X3.heap[W5.heap.size]? = some (.cells #[.int .i64 wg, .int .i64 wh, .int .i64 wb, .slice A5 wrs.length c5] 98 (0, 0)) ∧ X3.heap[X2.heap.size]? = some (.cells #[.int .i64 wg, .int .i64 vh, .int .i64 vb, .slice A6 wrs.length c6] 98 (0, 0)) ∧ RecsK w X3 0 (.slice A5 wrs.length c5) wrs ∧ RecsK w X3 0 (.slice A6 wrs.length c6) wrs ∧ Chg [] X1 X3 from ⟨(HX2.out.2.trans hU).at HX1.out.2.2.1 (by simp), hu, HX1.out.2.2.2.1.kept0 (HX2.out.2.trans hU), (HX2.out.1.kept0 hU).toK, HX2.out.2.trans hU⟩)
                 clear hb hZ hu hU
                 obtain ⟨a0, a1, a2, a3, _⟩ := cell4 HX3.out.1
                 obtain ⟨d0, d1, d2, d3, _⟩ := cell4 HX3.out.2.1
                 ((try dsimp only); (try simp only [Act.put, List.setIfInBounds_toArray, List.set_cons_zero, List.set_cons_succ])))
              | (go_at_call 62
                 refine (records_k w X3 0 0 _ _ wrs HX3.out.2.2.1 HX3.out.2.2.2.1 hml).mono ?_
                 rintro e Y6 ⟨rfl, hy6⟩
                 clear a0 a1 a2 a3 d0 d1 d2 d3
                 obtain ⟨a0, a1, a2, a3, _⟩ := cell4 (hy6.at HX3.out.1 (by simp))
                 obtain ⟨d0, d1, d2, d3, _⟩ := cell4 (hy6.at HX3.out.2.1 (by simp))
                 have HY6 := Lib.hid hy6
                 clear hy6)
              | (skip; fail))
            refine (blank_any w Y6 q1 _ P' (HX1.out.2.1.kept0 (HX3.out.2.2.2.2.trans HY6.out))).mono ?_
            rintro e w' ⟨rfl, rfl⟩
            go_wp2_with fail
            go_roundw
            case rel =>
              have e5 : (1 + 2 * ((r + 1 : Nat) : Int)) = 2 + 2 * r + 1 := by omega
              have e6 : (40 * ((r + 1 : Nat) : Int)) = 40 * r + 40 := by omega
              have hh := HLK.out.2.2.2.1.told
              refine ⟨r + 1, V.heap.size + 1, C', P'.img.recs, by omega, by go_num, rfl, Lib.hid ⟨(HX1.out.1.kept0 HX3.out.2.2.2.2).kept0 HY6.out, by rw [e5, e6]; exact hh.mono (by omega), HLK.out.2.2.2.1.down, HLK.out.2.2.2.1.armed, HLK.out.2.2.2.2.2, (HX1.out.2.2.2.2.trans HX3.out.2.2.2.2).trans HY6.out⟩⟩
            case measure => simp [intOf]; omega
          · have e1 : (P'.img.gen == 0) = false := by rw [HG.out.1]; simpa using hz
            obtain ⟨rfl, hw0, hw2⟩ := HG.out.2 hz
            clear hz
            obtain ⟨a0, a1, a2, a3, _⟩ := cell4 (HC.out.at HU.out.1 (by simp))
            go_wp2_with fail
            refine (HLK.out.2.1 G (HU.out.2.1.trans HC.out)).mono ?_
            rintro e X1 ⟨hd1, hc1, q1, rfl, hp1, _⟩
            have hl1 := look_any w X1 _ C' hd1
            rw [HLK.out.2.2.1] at hl1
            have HX1 := Lib.hid (show DiskI w X1 (V.heap.size + 1) C' ∧ PagesI w X1 q1 (V.heap.size + 1) P' ∧ X1.heap[W5.heap.size]? = some (.cells #[.int .i64 wg, .int .i64 wh, .int .i64 wb, .slice A5 wrs.length c5] 98 (0, 0)) ∧ RecsK w X1 0 (.slice A5 wrs.length c5) wrs ∧ Chg [] w X1 from ⟨hd1, hp1, hc1.at (HC.out.at HU.out.1 (by simp)) (by simp [okind, TD]), (HU.out.2.2.1.kept0 HC.out).kept hc1 (by decide) (by decide), hc1.old (HI.out.2.2.2.2.2.2.2.2.trans (HU.out.2.2.2.trans HC.out))⟩)
            clear hd1 hc1 hp1 a0 a1 a2 a3
            go_wp2_with fail
            refine hl1.mono ?_
            clear hl1
            rintro e X2 ⟨v6, rfl, hr6, hc6⟩
            obtain ⟨A6, c6, rfl⟩ := hr6.slice
            dsimp only at hr6 ⊢
            have HX2 := Lib.hid (And.intro (hr6.base (Nat.zero_le _)) hc6)
            clear hr6 hc6
            go_wp2_with (first
              | (refine wpList_alloc rfl 98 rfl _ zeroImg ?_
                 refine wpList_world (fun Z => Z.heap[X2.heap.size]? = some (.cells #[.int .i64 0, .int .i64 0, .int .i64 0, .slice none 0 0] 98 (0, 0)) ∧ Chg [] X2 Z) ⟨heap_new _ _ rfl, (by with_reducible repeat (first | exact Chg.refl _ _ | apply Chg.alloc | apply Chg.drew | apply Chg.drewN | (refine Chg.setCell ?_ _ _ (by simp))))⟩ ?_
                 rintro Z ⟨hb, hZ⟩
                 refine wpList_store_row rfl 98 (.tmp 31) (.tmp 181) rfl X2.heap.size (by kernel_rfl) #[.int .i64 wg, .int .i64 vh, .int .i64 (wb + 1), .slice A6 wrs.length c6] (by kernel_rfl) _ _ hb infoImg rfl (img_one _ _ _ _ rfl) ?_
                 refine wpList_world (fun U => U.heap[X2.heap.size]? = some (.cells #[.int .i64 wg, .int .i64 vh, .int .i64 (wb + 1), .slice A6 wrs.length c6] 98 (0, 0)) ∧ Chg [] X2 U) ⟨setRow_heap _ _ _ _ _ _ hb, hZ.andThen (setRow_chg _ _ _) (by simp)⟩ ?_
                 rintro X3 ⟨hu, hU⟩
                 have HX3 := Lib.hid (show X3.heap[W5.heap.size]? = some (.cells #[.int .i64 wg, .int .i64 wh, .int .i64 wb, .slice A5 wrs.length c5] 98 (0, 0)) ∧ X3.heap[X2.heap.size]? = some (.cells #[.int .i64 wg, .int .i64 vh, .int .i64 (wb + 1), .slice A6 wrs.length c6] 98 (0, 0)) ∧ RecsK w X3 0 (.slice A5 wrs.length c5) wrs ∧ RecsK w X3 0 (.slice A6 wrs.length c6) wrs ∧ Chg [] X1 X3 from ⟨(HX2.out.2.trans hU).at HX1.out.2.2.1 (by simp), hu, HX1.out.2.2.2.1.kept0 (HX2.out.2.trans hU), (HX2.out.1.kept0 hU).toK, HX2.out.2.trans hU⟩)
                 clear hb hZ hu hU
                 obtain ⟨a0, a1, a2, a3, _⟩ := cell4 HX3.out.1
                 obtain ⟨d0, d1, d2, d3, _⟩ := cell4 HX3.out.2.1
                 ((try dsimp only); (try simp only [Act.put, List.setIfInBounds_toArray, List.set_cons_zero, List.set_cons_succ])))
              | (go_at_call 62
                 refine (records_k w X3 0 0 _ _ wrs HX3.out.2.2.1 HX3.out.2.2.2.1 hml).mono ?_
                 rintro e Y6 ⟨rfl, hy6⟩
                 clear a0 a1 a2 a3 d0 d1 d2 d3
                 obtain ⟨a0, a1, a2, a3, _⟩ := cell4 (hy6.at HX3.out.1 (by simp))
                 obtain ⟨d0, d1, d2, d3, _⟩ := cell4 (hy6.at HX3.out.2.1 (by simp))
                 have HY6 := Lib.hid hy6
                 clear hy6)
              | (skip; fail))
            refine (blank_any w Y6 q1 _ P' (HX1.out.2.1.kept0 (HX3.out.2.2.2.2.trans HY6.out))).mono ?_
            rintro e w' ⟨rfl, rfl⟩
            go_wp2_with fail
            go_roundw
            case rel =>
              have e5 : (1 + 2 * ((r + 1 : Nat) : Int)) = 2 + 2 * r + 1 := by omega
              have e6 : (40 * ((r + 1 : Nat) : Int)) = 40 * r + 40 := by omega
              have hh := HLK.out.2.2.2.1.told
              refine ⟨r + 1, V.heap.size + 1, C', P'.img.recs, by omega, by go_num, rfl, Lib.hid ⟨(HX1.out.1.kept0 HX3.out.2.2.2.2).kept0 HY6.out, by rw [e5, e6]; exact hh.mono (by omega), HLK.out.2.2.2.1.down, HLK.out.2.2.2.1.armed, HLK.out.2.2.2.2.2, (HX1.out.2.2.2.2.trans HX3.out.2.2.2.2).trans HY6.out⟩⟩
            case measure => simp [intOf]; omega
    · obtain rfl : r = 2 := by omega
      go_wp2_with (go_at_call 56; refine (wakes_any _).mono ?_; rintro e W ⟨rfl, hC⟩; have HC := Lib.hid hC; clear hC)
      go_ret
      exact ⟨rfl, HI.out.2.2.2.2.2.trans HC.out⟩
end Go.Proofs.Ytipijkpjmpejlaa
