/- Parts of the proof of the law ChangesBack, number 6 of 6: laws over memory, contracts of functions, walks. No condition. -/
import Derived.Test.YtofjocjljbkjgaaQChangesBack5
set_option linter.unusedVariables false
set_option linter.unusedSimpArgs false
namespace Go.Proofs.Ytofjocjljbkjgaa
open Go.RowKit
set_option maxHeartbeats 4000000 in
set_option maxRecDepth 100000 in
theorem backL_any (g : Gr) (Ag : Option Addr) (cg : Nat) (t : Tr) (A : Option Addr) (c : Nat) (ss : List Stp) (B : Option Addr) (d : Nat) (w : World) (hG : GrC w Ag cg g.kinds) (hT : TrC (fun b => b < w.heap.size) w t [.int .i64 (Tr.id t), .int .i64 (Tr.kind t), .string (Tr.text t), .slice A (Tr.kids t).length c]) (hS : StpsC (fun b => b < w.heap.size) w B ss) (hl : ss.length ≤ 9223372036854775807) :
    Calls Try.prog 7 #[.agg #[.slice Ag g.kinds.length cg, .int .i64 g.root], .agg #[.int .i64 (Tr.id t), .int .i64 (Tr.kind t), .string (Tr.text t), .slice A (Tr.kids t).length c], .slice B ss.length d] w (fun e w' => e = .returned (.bool true) ∧ Chg [] w w') := by
  obtain ⟨j, hj⟩ := GJ.ex g
  obtain ⟨W, hW⟩ : ∃ W, W = (w.alloc (.cells #[.slice Ag g.kinds.length cg, .int .i64 g.root] 43)).alloc (.cells #[.int .i64 (Tr.id t), .int .i64 (Tr.kind t), .string (Tr.text t), .slice A (Tr.kids t).length c] 24) := ⟨_, rfl⟩
  have hB : Box2 g Ag cg t A c w W := by rw [hW]; exact Box2.new _ _ _ _ _ _ _
  obtain ⟨g0, g1⟩ := cell2 hB.g
  have HW := Lib.hid (And.intro hW (And.intro hB (And.intro hG (And.intro hT (And.intro hS hj)))))
  rw [hW] at g0 g1
  clear hW hB hG hT hS hj
  go_enter Try.func7, Try.ntmps7
  go_wp2_with fail
  rw [← HW.out.1]
  clear g0 g1
  refine (great5_any g Ag cg W (HW.out.2.2.1.kept HW.out.2.1.chg)).mono ?_
  rintro e X ⟨b5, rfl, hsm, hX⟩
  clear hsm
  have HX := Lib.hid (HW.out.2.1.kept hX)
  clear hX
  cases b5 with
  | true =>
    go_wp2_with (go_at_call 30; refine (wakes11 _).mono ?_; rintro e V ⟨rfl, hV⟩; have HV := Lib.hid hV; clear hV)
    go_ret
    exact ⟨rfl, HX.out.chg.trans HV.out⟩
  | false =>
  obtain ⟨p0, p1, p2, p3⟩ := blk4 HX.out.t
  go_wp2_with fail
  clear p0 p1 p2 p3
  refine (great_t t A c X (HW.out.2.2.2.1.next HX.out.chg)).mono ?_
  rintro e Y ⟨bt, rfl, hbt, hY⟩
  have HY := Lib.hid (And.intro (HX.out.kept hY) hbt)
  clear hY hbt
  cases bt with
  | true =>
    go_wp2_with (go_at_call 30; refine (wakes11 _).mono ?_; rintro e V ⟨rfl, hV⟩; have HV := Lib.hid hV; clear hV)
    go_ret
    exact ⟨rfl, HY.out.1.chg.trans HV.out⟩
  | false =>
  have HTn := Lib.hid (HY.out.2 rfl)
  go_wp2_with fail
  refine (greatS_any ss B d Y (HW.out.2.2.2.2.1.next HY.out.1.chg) hl).mono ?_
  rintro e V ⟨bs, rfl, hbs, hV⟩
  have HV := Lib.hid (And.intro (HY.out.1.kept hV) hbs)
  clear hV hbs
  cases bs with
  | true =>
    go_wp2_with (go_at_call 30; refine (wakes11 _).mono ?_; rintro e V2 ⟨rfl, hV2⟩; have HV2 := Lib.hid hV2; clear hV2)
    go_ret
    exact ⟨rfl, HV.out.1.chg.trans HV2.out⟩
  | false =>
  have HSn := Lib.hid (HV.out.2 rfl)
  obtain ⟨g0, g1⟩ := cell2 HV.out.1.g
  obtain ⟨p0, p1, p2, p3⟩ := blk4 HV.out.1.t
  have htr := rtree_any g Ag cg t A c V (HW.out.2.2.1.kept HV.out.1.chg) (HW.out.2.2.2.1.next HV.out.1.chg)
  have HR := Lib.hid htr
  clear htr
  go_wp2_with fail
  clear g0 g1 p0 p1 p2 p3
  refine HR.out.mono ?_
  rintro e U ⟨a1, z1, rfl, h1, h2, hU⟩
  have HU := Lib.hid (And.intro (HV.out.1.kept hU) h1)
  clear hU h1 h2
  obtain ⟨g0, g1⟩ := cell2 HU.out.1.g
  obtain ⟨p0, p1, p2, p3⟩ := blk4 HU.out.1.t
  have hap := capply_any g j HW.out.2.2.2.2.2 Ag cg t A c ss B d U (HW.out.2.2.1.kept HU.out.1.chg) (HW.out.2.2.2.1.next HU.out.1.chg) (HW.out.2.2.2.2.1.next HU.out.1.chg) hl (by have := HTn.out; omega)
  have HA := Lib.hid hap
  clear hap
  go_wp2_with fail
  clear g0 g1 p0 p1 p2 p3
  refine HA.out.mono ?_
  obtain ⟨ra, hra⟩ : ∃ r, r = applyL j t ss := ⟨_, rfl⟩
  rw [← hra]
  obtain ⟨xa, na, ea⟩ := ra
  rintro e X2 ⟨A2, c2, rfl, hT2, hX2⟩
  simp only [] at hT2
  obtain ⟨Y2, hY2⟩ : ∃ Y2, Y2 = X2.alloc (.cells #[.int .i64 (Tr.id xa), .int .i64 (Tr.kind xa), .string (Tr.text xa), .slice A2 (Tr.kids xa).length c2] 24) := ⟨_, rfl⟩
  have hn2 : NBox xa A2 c2 X2.heap.size Y2 := by rw [hY2]; exact NBox.new hT2
  have hc2 : Chg [] U Y2 := by rw [hY2]; exact hX2.alloc _
  have H2 := Lib.hid (And.intro hY2 (And.intro hn2 (And.intro hc2 (And.intro (HU.out.1.kept hc2) (And.intro hra hX2.size)))))
  clear hT2 hX2 hY2 hn2 hc2 hra
  by_cases hz1 : z1 = 0
  case neg =>
    have e1 : (z1 != 0) = true := by simpa using hz1
    clear hz1
    go_wp2_with (first
      | (go_at_call 30; rw [← H2.out.1]; refine (wakes11 _).mono ?_; rintro e V2 ⟨rfl, hV2⟩; have HV2 := Lib.hid hV2; clear hV2)
      | (skip; fail))
    go_ret
    exact ⟨rfl, H2.out.2.2.2.1.chg.trans HV2.out⟩
  case pos =>
  subst hz1
  by_cases hea : ea = 0
  case neg =>
    have e1 : (ea != 0) = true := by simpa using hea
    clear hea
    go_wp2_with (first
      | (go_at_call 30; rw [← H2.out.1]; refine (wakes11 _).mono ?_; rintro e V2 ⟨rfl, hV2⟩; have HV2 := Lib.hid hV2; clear hV2)
      | (skip; fail))
    go_ret
    exact ⟨rfl, H2.out.2.2.2.1.chg.trans HV2.out⟩
  case pos =>
  subst hea
  have hsub : SubOk g t := (HU.out.2.1 rfl).2.2
  have hch : checkB ss = true := by
    have h := H2.out.2.2.2.2.1
    unfold applyL at h
    split at h
    · assumption
    · cases h
  have hbl := back_law HW.out.2.2.2.2.2 hsub hch (by rw [← H2.out.2.2.2.2.1])
  rw [← H2.out.2.2.2.2.1] at hbl
  simp only [] at hbl
  have hiv := cinvert_any t A c ss B d Y2 (HW.out.2.2.2.1.next H2.out.2.2.2.1.chg) (HW.out.2.2.2.2.1.next H2.out.2.2.2.1.chg) hl
  have HI := Lib.hid (And.intro hiv (And.intro hch hbl))
  obtain ⟨p0, p1, p2, p3⟩ := blk4 H2.out.2.2.2.1.t
  rw [H2.out.1] at p0 p1 p2 p3
  clear hsub hch hbl hiv
  go_wp2_with fail
  rw [← H2.out.1]
  clear p0 p1 p2 p3
  refine HI.out.1.mono ?_
  rintro e X3 ⟨hX3, hP⟩
  rw [if_pos HI.out.2.1, if_pos HI.out.2.2.1] at hP
  obtain ⟨v, rfl, hrow⟩ := hP
  obtain ⟨Lb, hLb⟩ : ∃ Lb, Lb = (invL t ss).reverse := ⟨_, rfl⟩
  rw [← hLb] at hrow
  have hlaw := HI.out.2.2.2
  rw [← hLb] at hlaw
  obtain ⟨hlen, S, hS0, hSn, hSt⟩ := hlaw
  obtain ⟨Ar, cr, rfl⟩ := hrow.slice
  rw [hlen] at hrow
  have hb0 : ((Lb.length : Int) != (ss.length : Int)) = false := by simp [hlen]
  have hbl : ss.length ≤ 70 := HSn.out.1
  have H3 := Lib.hid (And.intro hrow (And.intro (H2.out.2.2.2.1.kept hX3) (And.intro (H2.out.2.1.kept hX3) (And.intro hS0 (And.intro hSn (And.intro hSt hlen))))))
  clear hX3 hrow hLb hS0 hSn hSt
  rw [hlen] at hb0 ⊢
  clear hlen
  go_wp2_with (skip; fail)
  have hxb := lt_of_block H2.out.2.1.blk
  have hY3 := (H3.out.2.1.chg).size
  obtain ⟨xb, hxbe⟩ : ∃ xb, xb = X2.heap.size := ⟨_, rfl⟩
  have hn3 := H3.out.2.2.1
  have hxw : w.heap.size + 1 < xb := by have := lt_of_block HU.out.1.t; have := H2.out.2.2.2.2.2; omega
  rw [← hxbe] at hn3 hxb ⊢
  have HB := Lib.hid (And.intro hn3 (And.intro hxb hxw))
  clear hY3 hxbe hn3 hxb hxw hb0
  go_loopw [66] (fun i wr => ∃ (k : Nat) (Ax : Option Addr) (cx : Nat), k ≤ ss.length ∧ i = .int .i64 k ∧ Hid (NBox (S k) Ax cx xb wr ∧ Chg [xb] X3 wr)) (fun i _ => ss.length - (intOf i).toNat)
  case atStart => exact ⟨0, A2, c2, Nat.zero_le _, rfl, Lib.hid ⟨by rw [H3.out.2.2.2.1]; exact HB.out.1, Chg.refl _ _⟩⟩
  case round =>
    obtain ⟨k, Ax, cx, hk, rfl, H⟩ := hrel
    obtain ⟨U2, hU2⟩ : ∃ U2, U2 = wr := ⟨_, rfl⟩
    subst hU2
    have hBU : Box2 g Ag cg t A c w U2 := ⟨H.out.2.at H3.out.2.1.g (by have := HB.out.2.2; simp; omega), H.out.2.at H3.out.2.1.t (by have := HB.out.2.2; simp; omega), H3.out.2.1.chg.andThen H.out.2 (by have := HB.out.2.2; simp; omega)⟩
    by_cases hlt : k < ss.length
    case neg =>
      obtain rfl : k = ss.length := by omega
      have hnb := H.out.1
      rw [H3.out.2.2.2.2.1] at hnb
      obtain ⟨p0, p1, p2, p3⟩ := blk4 hnb.blk
      obtain ⟨q0, q1, q2, q3⟩ := blk4 hBU.t
      have hsm := same_any t t Ax cx A c U2 (hnb.ok.weak (fun _ _ _ => trivial)) ((HW.out.2.2.2.1.next hBU.chg).weak (fun _ _ _ => trivial))
      have HS := Lib.hid (And.intro hsm hBU.chg)
      clear hnb hBU hsm
      go_wp2_with fail
      refine HS.out.1.mono ?_
      rintro e U3 ⟨r, rfl, hr, hU3⟩
      obtain rfl : r = true := hr.2 rfl
      have HU3 := Lib.hid hU3
      clear hr hU3 p0 p1 p2 p3 q0 q1 q2 q3
      go_wp2_with (go_at_call 30; refine (wakes11 _).mono ?_; rintro e V2 ⟨rfl, hV2⟩; have HV2 := Lib.hid hV2; clear hV2)
      go_ret
      exact ⟨rfl, HS.out.2.trans (HU3.out.trans HV2.out)⟩
    case pos =>
    obtain ⟨s, hs, hap⟩ := H3.out.2.2.2.2.2.1 k hlt
    have hrow := (H3.out.1.kept H.out.2 (by have := HB.out.2.1; simp; omega)).toC
    obtain ⟨gs, os, cs0, rfl, _, hrs, As, cs, rfl, hss⟩ := hrow k s hs
    obtain ⟨x, hx⟩ : ∃ x, x = S k := ⟨_, rfl⟩
    obtain ⟨y, hy⟩ : ∃ y, y = S (k + 1) := ⟨_, rfl⟩
    have hnb := H.out.1
    rw [← hx] at hnb hap
    rw [← hy] at hap
    have hst : StpC (fun b => b < U2.heap.size) U2 s (#[.int .i8 (Stp.op s), .int .i64 (Stp.id s), .int .i64 (Stp.par s), .int .i64 (Stp.place s), .string (Stp.text s), .int .i64 (Stp.sub s).id, .int .i64 (Stp.sub s).kind, .string (Stp.sub s).text, .slice As (Stp.sub s).kids.length cs] : Array Value).toList := StpC.weak (ok := _) ⟨As, cs, rfl, hss⟩ (fun b hb _ => hb.2.2)
    have HK := Lib.hid (And.intro hBU (And.intro hnb (And.intro hrs (And.intro hst (And.intro hap hy)))))
    clear hBU hs hap hrow hrs hss hnb hst hx hy
    go_wp2_with (skip; fail)
    refine wp_region_M (fun W => W.rangeAt xb 0 [.int .i64 (Tr.id x), .int .i64 (Tr.kind x), .string (Tr.text x), .slice Ax (Tr.kids x).length cx] ∧ W.rangeAt gs (os + k * 9) (#[.int .i8 (Stp.op s), .int .i64 (Stp.id s), .int .i64 (Stp.par s), .int .i64 (Stp.place s), .string (Stp.text s), .int .i64 (Stp.sub s).id, .int .i64 (Stp.sub s).kind, .string (Stp.sub s).text, .slice As (Stp.sub s).kids.length cs] : Array Value).toList) (fun k => [5, 9, 10].contains k) (fun k => [10].contains k) (by kernel_rfl) ?_
    obtain ⟨Q, hQ⟩ : ∃ Q, Q = U2.drew := ⟨_, rfl⟩
    rw [← hQ]
    have hUQ : Chg [] U2 Q := by rw [hQ]; exact (Chg.refl _ _).drew
    clear hQ
    have hall : ∀ W', Chg [] U2 W' → W'.rangeAt xb 0 [.int .i64 (Tr.id x), .int .i64 (Tr.kind x), .string (Tr.text x), .slice Ax (Tr.kids x).length cx] ∧ W'.rangeAt gs (os + k * 9) (#[.int .i8 (Stp.op s), .int .i64 (Stp.id s), .int .i64 (Stp.par s), .int .i64 (Stp.place s), .string (Stp.text s), .int .i64 (Stp.sub s).id, .int .i64 (Stp.sub s).kind, .string (Stp.sub s).text, .slice As (Stp.sub s).kids.length cs] : Array Value).toList := fun W' hc => ⟨range_all (hc.at HK.out.2.1.blk (by simp)), hc.range HK.out.2.2.1 (by simp)⟩
    have hcall : ∀ W', Chg [] U2 W' → Calls Try.prog 33 #[.agg #[.int .i64 (Tr.id x), .int .i64 (Tr.kind x), .string (Tr.text x), .slice Ax (Tr.kids x).length cx], .agg #[.int .i8 (Stp.op s), .int .i64 (Stp.id s), .int .i64 (Stp.par s), .int .i64 (Stp.place s), .string (Stp.text s), .int .i64 (Stp.sub s).id, .int .i64 (Stp.sub s).kind, .string (Stp.sub s).text, .slice As (Stp.sub s).kids.length cs]] W' (ApplyC (.ok y) W') := fun W' hc => by rw [← HK.out.2.2.2.2.1]; exact apply09_any x Ax cx s As cs W' (HK.out.2.1.ok.next hc) (HK.out.2.2.2.1.next hc)
    have hS := hall Q hUQ
    have HQ := Lib.hid (And.intro hall (And.intro hUQ hcall))
    have wi0 : (0 : Int) ≤ (k : Int) := by omega
    have wi1 : (k : Int) < (ss.length : Int) := by omega
    clear hall hUQ hcall
    ((try dsimp only); (try simp only [Act.put, List.setIfInBounds_toArray, List.set_cons_zero, List.set_cons_succ]))
    refine M_semi (i := 0) rfl (by kernel_rfl) (by kernel_rfl) (by kernel_rfl) (by kernel_rfl) (fun _ _ _ h => h) (by rfl) hS (fun W hS => exec_load_mid 24 (.tmp 9) rfl xb 0 rfl _ _ hS.1 Try.underlying24 rfl szNode) ?_; ((try dsimp only); (try simp only [Act.put, List.setIfInBounds_toArray, List.set_cons_zero, List.set_cons_succ]))
    refine M_pure (i := 1) (v := ?_) rfl (by kernel_rfl) (by kernel_rfl) (by kernel_rfl) (fun _ _ _ h => h) (by rfl) ?hy ?_; (case hy => (intro w; go_simp; with_reducible rfl)); ((try dsimp only); (try simp only [Act.put, List.setIfInBounds_toArray, List.set_cons_zero, List.set_cons_succ]))
    refine M_pure (i := 2) (v := ?_) rfl (by kernel_rfl) (by kernel_rfl) (by kernel_rfl) (fun _ _ _ h => h) (by rfl) ?hy ?_; (case hy => (intro w; go_simp; with_reducible rfl)); ((try dsimp only); (try simp only [Act.put, List.setIfInBounds_toArray, List.set_cons_zero, List.set_cons_succ]))
    refine M_pure (i := 3) (v := ?_) rfl (by kernel_rfl) (by kernel_rfl) (by kernel_rfl) (fun _ _ _ h => h) (by rfl) ?hy ?_; (case hy => (intro w; go_simp; with_reducible rfl)); ((try dsimp only); (try simp only [Act.put, List.setIfInBounds_toArray, List.set_cons_zero, List.set_cons_succ]))
    refine M_semi (i := 4) rfl (by kernel_rfl) (by kernel_rfl) (by kernel_rfl) (by kernel_rfl) (fun _ _ _ h => h) (by rfl) hS (fun W hS => exec_load_mid 27 (.tmp 73) rfl gs (os + k * 9) rfl _ _ hS.2 Try.underlying27 rfl szST9) ?_; ((try dsimp only); (try simp only [Act.put, List.setIfInBounds_toArray, List.set_cons_zero, List.set_cons_succ]))
    refine M_two (i := 5) (j := 9) rfl rfl (by kernel_rfl) (by rfl) (by rfl) ?_ ?_
    case' refine_1 =>
      go_wp2_with fail
      refine (HQ.out.2.2 Q HQ.out.2.1).mono ?_
      rintro e X5 ⟨A5, c5, rfl, hT5, hX5⟩
      have HX5 := Lib.hid (And.intro (HQ.out.2.1.trans hX5) hT5)
      clear hT5 hX5 hS
      go_wp2_with fail
      refine ⟨HQ.out.1 X5 HX5.out.1, ?_⟩
      refine M_pure (i := 6) (v := ?_) rfl (by kernel_rfl) (by kernel_rfl) (by kernel_rfl) (fun _ _ _ h => h) (by rfl) ?hy ?_; (case hy => (intro w; go_simp; with_reducible rfl)); ((try dsimp only); (try simp only [Act.put, List.setIfInBounds_toArray, List.set_cons_zero, List.set_cons_succ]))
      refine M_pure (i := 7) (v := ?_) rfl (by kernel_rfl) (by kernel_rfl) (by kernel_rfl) (fun _ _ _ h => h) (by rfl) ?hy ?_; (case hy => (intro w; go_simp; with_reducible rfl)); ((try dsimp only); (try simp only [Act.put, List.setIfInBounds_toArray, List.set_cons_zero, List.set_cons_succ]))
      refine M_pure (i := 8) (v := ?_) rfl (by kernel_rfl) (by kernel_rfl) (by kernel_rfl) (fun _ _ _ h => h) (by rfl) ?hy ?_; (case hy => (intro w; go_simp; with_reducible rfl)); ((try dsimp only); (try simp only [Act.put, List.setIfInBounds_toArray, List.set_cons_zero, List.set_cons_succ]))
      refine M_eff (i := 9) rfl (by kernel_rfl) (by rfl) ?_
      go_wp2_with fail
      refine ⟨HQ.out.1 _ (HX5.out.1.alloc _), ?_⟩
      refine M_brk (i := 10) rfl (by kernel_rfl) (by rfl) (by rfl) ?_
      go_wp2_with fail
      ((try dsimp only [EffQ]); (try simp only [Act.put, List.setIfInBounds_toArray, List.set_cons_zero, List.set_cons_succ]))
      refine M_pure (i := 11) (v := ?_) rfl (by kernel_rfl) (by kernel_rfl) (by kernel_rfl) (fun _ _ _ h => h) (by rfl) ?hy ?_; (case hy => (intro w; go_simp; with_reducible rfl)); ((try dsimp only); (try simp only [Act.put, List.setIfInBounds_toArray, List.set_cons_zero, List.set_cons_succ]))
      refine M_done (by kernel_rfl) ?_ _
      obtain ⟨Z, hZ⟩ : ∃ Z, Z = X5.alloc (.cells #[.int .i64 (Tr.id y), .int .i64 (Tr.kind y), .string (Tr.text y), .slice A5 (Tr.kids y).length c5] 24) := ⟨_, rfl⟩
      rw [← hZ]
      obtain ⟨b15, hb15⟩ : ∃ b15, b15 = X5.heap.size := ⟨_, rfl⟩
      rw [← hb15]
      have hX5Z : Chg [] X5 Z := by rw [hZ]; exact (by with_reducible repeat (first | exact Chg.refl _ _ | apply Chg.alloc | apply Chg.drew | apply Chg.drewN | (refine Chg.setCell ?_ _ _ (by simp))))
      have hbZ : Z.heap[b15]? = some (.cells #[.int .i64 (Tr.id y), .int .i64 (Tr.kind y), .string (Tr.text y), .slice A5 (Tr.kids y).length c5] 24 (0, 0)) := by rw [hZ, hb15]; exact heap_new _ _ rfl
      have HZ := Lib.hid (And.intro (HX5.out.1.trans hX5Z) (And.intro ((HX5.out.2.kept hX5Z (by simp)).weak (ok' := fun b => b < Z.heap.size ∧ b ≠ xb) (fun b hb _ => ⟨by have := hX5Z.size; omega, by have := HQ.out.2.1.size; have := lt_of_block HK.out.2.1.blk; omega⟩)) hbZ))
      clear hZ hb15 hX5Z hbZ
    case' refine_2 =>
      go_wp2_with fail
      refine ⟨HQ.out.1 _ (HQ.out.2.1.alloc _), ?_⟩
      clear hS
      obtain ⟨Q1, hQ1⟩ : ∃ Q1, Q1 = Q.alloc (.cells #[.int .i64 0, .int .i64 0, .string ⟨#[]⟩, .slice none 0 0] 24) := ⟨_, rfl⟩
      rw [← hQ1]
      obtain ⟨b15, hb15⟩ : ∃ b15, b15 = Q.heap.size := ⟨_, rfl⟩
      rw [← hb15]
      have hUQ1 : Chg [] U2 Q1 := by rw [hQ1]; exact HQ.out.2.1.alloc _
      have hb11 : Q1.heap[b15]? = some (.cells #[.int .i64 0, .int .i64 0, .string ⟨#[]⟩, .slice none 0 0] 24 (0, 0)) := by rw [hQ1, hb15]; exact heap_new _ _ rfl
      have hbu : U2.heap.size ≤ b15 := by rw [hb15]; exact HQ.out.2.1.size
      have HQ1 := Lib.hid (And.intro hUQ1 (And.intro hb11 hbu))
      clear hQ1 hUQ1 hb11 hb15 hbu
      refine M_eff (i := 5) rfl (by kernel_rfl) (by rfl) ?_
      go_wp2_with fail
      refine (HQ.out.2.2 Q1 HQ1.out.1).mono ?_
      rintro e X5 ⟨A5, c5, rfl, hT5, hX5⟩
      have hb11 := hX5.at HQ1.out.2.1 (by simp)
      have HX5 := Lib.hid (And.intro (HQ1.out.1.trans hX5) (And.intro hb11 hT5))
      obtain ⟨r0, r1, r2, r3⟩ := blk4 hb11
      have f0 := blkF hb11 0
      have f1 := blkF hb11 1
      have f2 := blkF hb11 2
      have f3 := blkF hb11 3
      clear hX5 hb11 hT5
      go_wp2_with fail
      refine ⟨HQ.out.1 X5 HX5.out.1, ?_⟩
      refine M_pure (i := 6) (v := ?_) rfl (by kernel_rfl) (by kernel_rfl) (by kernel_rfl) (fun _ _ _ h => h) (by rfl) ?hy ?_; (case hy => (intro w; go_simp; with_reducible rfl)); ((try dsimp only); (try simp only [Act.put, List.setIfInBounds_toArray, List.set_cons_zero, List.set_cons_succ]))
      refine M_pure (i := 7) (v := ?_) rfl (by kernel_rfl) (by kernel_rfl) (by kernel_rfl) (fun _ _ _ h => h) (by rfl) ?hy ?_; (case hy => (intro w; go_simp; with_reducible rfl)); ((try dsimp only); (try simp only [Act.put, List.setIfInBounds_toArray, List.set_cons_zero, List.set_cons_succ]))
      refine M_pure (i := 8) (v := ?_) rfl (by kernel_rfl) (by kernel_rfl) (by kernel_rfl) (fun _ _ _ h => h) (by rfl) ?hy ?_; (case hy => (intro w; go_simp; with_reducible rfl)); ((try dsimp only); (try simp only [Act.put, List.setIfInBounds_toArray, List.set_cons_zero, List.set_cons_succ]))
      refine M_brk (i := 10) rfl (by kernel_rfl) (by rfl) (by rfl) ?_
      go_wp2_with fail
      ((try dsimp only [EffQ]); (try simp only [Act.put, List.setIfInBounds_toArray, List.set_cons_zero, List.set_cons_succ]))
      refine M_pure (i := 11) (v := ?_) rfl (by kernel_rfl) (by kernel_rfl) (by kernel_rfl) (fun _ _ _ h => h) (by rfl) ?hy ?_; (case hy => (intro w; go_simp; with_reducible rfl)); ((try dsimp only); (try simp only [Act.put, List.setIfInBounds_toArray, List.set_cons_zero, List.set_cons_succ]))
      refine M_done (by kernel_rfl) ?_ _
      clear r0 r1 r2 r3 f0 f1 f2 f3
      obtain ⟨Z, hZ⟩ : ∃ Z, Z = (((X5.setCell ⟨b15, 0, none⟩ (.int .i64 y.id)).setCell ⟨b15, 1, none⟩ (.int .i64 y.kind)).setCell ⟨b15, 2, none⟩ (.string y.text)).setCell ⟨b15, 3, none⟩ (.slice A5 y.kids.length c5) := ⟨_, rfl⟩
      rw [← hZ]
      have hX5Z : Chg [b15] X5 Z := by rw [hZ]; exact chg4 _ _ _ _ _ _
      have hbZ : Z.heap[b15]? = some (.cells #[.int .i64 (Tr.id y), .int .i64 (Tr.kind y), .string (Tr.text y), .slice A5 (Tr.kids y).length c5] 24 (0, 0)) := by rw [hZ]; exact set4 HX5.out.2.1
      have hb1 := lt_of_block HQ1.out.2.1
      have HZ := Lib.hid (And.intro (HX5.out.1.andThen hX5Z (by have := HQ1.out.2.2; simp; omega)) (And.intro ((HX5.out.2.2.kept hX5Z (by simp; omega)).weak (ok' := fun b => b < Z.heap.size ∧ b ≠ xb) (fun b hb _ => ⟨by have := hX5Z.size; omega, by have := HQ1.out.1.size; have := lt_of_block HK.out.2.1.blk; omega⟩)) hbZ))
      clear hZ hX5Z hbZ hb1
    all_goals
      have hxZ := HZ.out.1.at HK.out.2.1.blk (by simp)
      obtain ⟨p0, p1, p2, p3⟩ := blk4 HZ.out.2.2
      obtain ⟨r0, r1, r2, r3⟩ := blk4 hxZ
      have f0 := blkF hxZ 0
      have f1 := blkF hxZ 1
      have f2 := blkF hxZ 2
      have f3 := blkF hxZ 3
      have HXZ := Lib.hid hxZ
      clear hxZ wi0 wi1
      go_wp2_with (skip; fail)
      go_roundw
      case rel =>
        have hc4 := chg4 Z xb (.int .i64 y.id) (.int .i64 y.kind) (.string y.text) (.slice A5 y.kids.length c5)
        refine ⟨k + 1, A5, c5, by omega, by go_num, Lib.hid ⟨by rw [← HK.out.2.2.2.2.2]; exact ⟨set4 HXZ.out, (HZ.out.2.1.kept hc4 (fun b hb => by simpa using hb.2)).weak (fun b hb _ => Nat.lt_of_lt_of_le hb.1 hc4.size)⟩, (H.out.2.trans (HZ.out.1.mono (by simp))).trans hc4⟩⟩
      case measure => simp [intOf]; omega
end Go.Proofs.Ytofjocjljbkjgaa
