/- Parts of the proof of the law ChangesCut, number 5 of 5: laws over memory, contracts of functions, walks. No condition. -/
import Derived.Test.YtofjocjljbkjgaaQChangesCut4
set_option linter.unusedVariables false
set_option linter.unusedSimpArgs false
namespace Go.Proofs.Ytofjocjljbkjgaa
open Go.RowKit
def InvJ (w0 xb : Nat) (t : Tr) (ss : List Stp) (i : Nat) (x : Tr) (W : World) : Prop := ∃ L, RBox w0 xb L W ∧ L.length = i ∧ L ++ invL x (ss.drop i) = invL t ss
theorem RBox.kept {w0 xb : Nat} {L : List Stp} {W W' : World} {l : List Nat} (h : RBox w0 xb L W) (hc : Chg l W W') (h1 : xb ∉ l) (h2 : ∀ b ∈ l, b < w0) : RBox w0 xb L W' := by
  obtain ⟨v, hb, hr⟩ := h
  exact ⟨v, hc.at hb h1, hr.kept hc (fun b hb _ => h2 b hb)⟩
theorem sepR_kept {xb n : Nat} (hx : xb < n) : SepK n (SepR xb) := fun W W' b hn hs hc => ⟨hs.1, fun v hv => hs.2 v (by rw [← hc.block xb (by omega) (by simp; omega)]; exact hv)⟩
theorem invert_fold (xb : Nat) (t : Tr) (A : Option Addr) (c : Nat) (ss : List Stp) (B : Option Addr) (d : Nat) (O : Nat → Prop) (w : World) (hxb : w.heap[xb]? = some (.cells #[.slice none 0 0] 46 (0, 0))) (hl : ss.length ≤ 60)
    (hO : ∀ b, O b → b < w.heap.size ∧ b ≠ xb) (hT : TrC O w t [.int .i64 (Tr.id t), .int .i64 (Tr.kind t), .string (Tr.text t), .slice A (Tr.kids t).length c]) (hS : StpsC (fun b => b < w.heap.size ∧ b ≠ xb) w B ss) :
    Calls Try.prog 68 #[.agg #[.int .i64 (Tr.id t), .int .i64 (Tr.kind t), .string (Tr.text t), .slice A (Tr.kids t).length c], .slice B ss.length d, .func (.func 70) #[] #[.pointer (some ⟨xb, 0, none⟩)]] w (FoldPost w [xb] O (InvJ (w.heap.size + 2) xb t ss) (foldF applyT t ss 0)) := by
  have hxl := lt_of_block hxb
  refine fold_any 70 #[.pointer (some ⟨xb, 0, none⟩)] (enters_of Try.func70 (by kernel_rfl) rfl) applyT [xb] (SepR xb) O (InvJ (w.heap.size + 2) xb t ss) ss B d t A c w (by omega) (by simp; omega) (hS.weak (fun b hb _ => ⟨hb.1, by simpa using hb.2⟩)) (fun b hb => (hO b hb).1) (sepR_kept hxl) (fun b hb => SepR.of hxb (hO b hb).2 (by simp [Value.ownBlock])) hT ?_ ?_ ?_
  · rintro i x W W' ⟨L, h1, h2, h3⟩ hc
    exact ⟨L, h1.kept hc (by simp; omega) (by simp), h2, h3⟩
  · exact ⟨[], ⟨_, hxb, RowP9.nil _ _ _⟩, rfl, rfl⟩
  · rintro i x Ax cx s As cs W hcW hsW ⟨L, h1, h2, h3⟩ hs hTx hSx
    have hil := (List.getElem?_eq_some_iff.1 hs).1
    have hdr : ss.drop i = s :: ss.drop (i + 1) := by rw [List.drop_eq_getElem_cons hil, (List.getElem?_eq_some_iff.1 hs).2]
    refine (invert1_any (w.heap.size + 2) xb L x Ax cx s As cs W (by omega) hsW (by omega) h1 hTx (hSx.weak (fun b hb _ => ⟨by omega, by simpa using hb.2⟩))).mono fun e W' he => ?_
    unfold InvOne at he
    unfold FoldOne
    cases hr : applyT x s with
    | error n =>
      rw [hr] at he
      obtain ⟨A', c', rfl, hc⟩ := he
      exact ⟨_, rfl, applyT_ne hr, hc, ⟨x, A', c', rfl⟩, L, h1.kept hc (by simp) (by simp), h2, h3⟩
    | ok y =>
      rw [hr] at he
      obtain ⟨A', c', rfl, hT', hB', hK⟩ := he
      refine ⟨_, rfl, hK, ⟨A', c', rfl, hT'⟩, L ++ [invT x s], hB', by simp [h2], ?_⟩
      rw [hdr] at h3
      rw [← h3, List.append_assoc]
      simp only [invL, hr, List.singleton_append]
def InvPost (t : Tr) (ss : List Stp) (w : World) (e : Ending) (w' : World) : Prop :=
  Chg [] w w' ∧ if checkB ss then (if (foldF applyT t ss 0).2.2 = 0 then ∃ v, e = .returned (.tuple #[v, .int .i64 0]) ∧ RowP9 w' (fun _ => True) w.heap.size v (invL t ss).reverse else e = .returned (.tuple #[.slice none 0 0, .int .i64 (foldF applyT t ss 0).2.2])) else e = .returned (.tuple #[.slice none 0 0, .int .i64 3])
set_option maxHeartbeats 4000000 in
set_option maxRecDepth 100000 in
theorem cinvert_any (t : Tr) (A : Option Addr) (c : Nat) (ss : List Stp) (B : Option Addr) (d : Nat) (w : World) (hT : TrC (fun b => b < w.heap.size) w t [.int .i64 (Tr.id t), .int .i64 (Tr.kind t), .string (Tr.text t), .slice A (Tr.kids t).length c]) (hS : StpsC (fun b => b < w.heap.size) w B ss) (hl : ss.length ≤ 9223372036854775807) :
    Calls Try.prog 32 #[.agg #[.int .i64 (Tr.id t), .int .i64 (Tr.kind t), .string (Tr.text t), .slice A (Tr.kids t).length c], .slice B ss.length d] w (InvPost t ss w) := by
  obtain ⟨W, hW⟩ : ∃ W, W = w.alloc (.cells #[.int .i64 (Tr.id t), .int .i64 (Tr.kind t), .string (Tr.text t), .slice A (Tr.kids t).length c] 24) := ⟨_, rfl⟩
  have hcW : Chg [] w W := by rw [hW]; exact (by with_reducible repeat (first | exact Chg.refl _ _ | apply Chg.alloc | apply Chg.drew | apply Chg.drewN | (refine Chg.setCell ?_ _ _ (by simp))))
  have b0 : W.heap[w.heap.size]? = some (.cells #[.int .i64 (Tr.id t), .int .i64 (Tr.kind t), .string (Tr.text t), .slice A (Tr.kids t).length c] 24 (0, 0)) := by rw [hW]; exact heap_new _ _ rfl
  have hck := check_any ss B d W (hS.next hcW) hl
  have HW := Lib.hid (And.intro hW (And.intro hcW (And.intro b0 (And.intro hck (And.intro hT hS)))))
  clear hW hcW b0 hck hT hS
  go_enter Try.func32, Try.ntmps32
  go_wp2_with fail
  rw [← HW.out.1]
  refine HW.out.2.2.2.1.mono ?_
  rintro e X ⟨rfl, rfl⟩
  by_cases hch : checkB ss = true
  · have he : checkE ss = 0 := by unfold checkE; rw [hch]; rfl
    rw [he]
    have HC := Lib.hid hch
    obtain ⟨xb, hxb⟩ : ∃ xb, xb = W.heap.size := ⟨_, rfl⟩
    obtain ⟨V, hV⟩ : ∃ V, V = W.alloc (.cells #[.slice none 0 0] 46) := ⟨_, rfl⟩
    have hWV : Chg [] W V := by rw [hV]; exact (by with_reducible repeat (first | exact Chg.refl _ _ | apply Chg.alloc | apply Chg.drew | apply Chg.drewN | (refine Chg.setCell ?_ _ _ (by simp))))
    have bx : V.heap[xb]? = some (.cells #[.slice none 0 0] 46 (0, 0)) := by rw [hV, hxb]; exact heap_new _ _ rfl
    have hWs : W.heap.size = w.heap.size + 1 := by rw [HW.out.1]; simp
    have hcV := HW.out.2.1.trans hWV
    have hss : ss.length ≤ 60 := by unfold checkB at hch; simp at hch; exact hch.1
    have hfold := invert_fold xb t A c ss B d (fun b => b < w.heap.size) V bx hss (fun b hb => ⟨Nat.lt_of_lt_of_le hb hcV.size, by omega⟩) (HW.out.2.2.2.2.1.kept hcV (by simp)) ((HW.out.2.2.2.2.2.kept hcV (by simp)).weak (fun b hb _ => ⟨Nat.lt_of_lt_of_le hb hcV.size, by omega⟩))
    obtain ⟨p0, p1, p2, p3⟩ := blk4 (hWV.at HW.out.2.2.1 (by simp))
    have HV := Lib.hid (And.intro hV (And.intro hcV (And.intro hxb (And.intro hWs (And.intro hfold hss)))))
    rw [hV] at p0 p1 p2 p3
    clear hV hWV bx hWs hcV hfold hss hch he hxb
    go_wp2_with fail
    rw [← HV.out.1, ← HV.out.2.2.1]
    clear p0 p1 p2 p3
    refine HV.out.2.2.2.2.1.mono ?_
    rintro e Y ⟨Af, cf, rfl, _, ⟨L, hB, hLn, hL⟩, hcY⟩
    obtain ⟨r, hr⟩ : ∃ r, r = foldF applyT t ss 0 := ⟨_, rfl⟩
    rw [← hr] at hLn hL ⊢
    obtain ⟨xf, nf, ef⟩ := r
    have hwY : Chg [] w Y := HV.out.2.1.andThen hcY (by have := HV.out.2.2.1; have := HV.out.2.2.2.1; simp; omega)
    obtain ⟨vr, hbx, hrow⟩ := hB
    obtain ⟨Ar, cr, rfl⟩ := hrow.slice
    obtain ⟨Z, hZ⟩ : ∃ Z, Z = Y.alloc (.cells #[.int .i64 (Tr.id xf), .int .i64 (Tr.kind xf), .string (Tr.text xf), .slice Af (Tr.kids xf).length cf] 24) := ⟨_, rfl⟩
    have hYZ : Chg [] Y Z := by rw [hZ]; exact (by with_reducible repeat (first | exact Chg.refl _ _ | apply Chg.alloc | apply Chg.drew | apply Chg.drewN | (refine Chg.setCell ?_ _ _ (by simp))))
    have hbZ : RBox (V.heap.size + 2) xb L Z := ⟨_, hYZ.at hbx (by simp), hrow.kept hYZ (by simp)⟩
    have hr2 : (foldF applyT t ss 0).2.2 = ef := by rw [← hr]
    have hr1 : (foldF applyT t ss 0).2.1 = nf := by rw [← hr]
    by_cases hz : ef = 0
    · subst hz
      have hnf := foldF_len (f := applyT) (fun _ _ _ => applyT_ne) ss t 0 hr2
      have hLe : L = invL t ss := by
        have e : nf = ss.length := by rw [← hr1, hnf]; omega
        simp only [e, List.drop_length, invL, List.append_nil] at hL
        exact hL
      have m0 := cellOne (hYZ.at hbx (by simp))
      have hLl : L.length ≤ 60 := by have := HV.out.2.2.2.2.2; rw [hLn]; simp only []; rw [← hr1, hnf]; omega
      have HY := Lib.hid (And.intro hbZ (And.intro (hwY.trans hYZ) (And.intro hLe (And.intro hr2 hZ))))
      rw [hZ] at m0
      clear hr hr1 hr2 hL hwY hbx hrow hZ hYZ hbZ hnf hLe hLn hcY
      go_wp2_with (skip; fail)
      rw [← HY.out.2.2.2.2]
      clear m0
      have hq : ((L.length : Int) / 2) = ((L.length / 2 : Nat) : Int) := by omega
      go_loopw [10] (fun iv wr => ∃ (k : Nat) (cur : List Stp) (n : Int), k ≤ L.length / 2 ∧ n = (k : Int) - 1 ∧ iv = .int .i64 n ∧ Hid (RBox (V.heap.size + 2) xb cur wr ∧ Mir L cur k ∧ Chg [] w wr)) (fun iv _ => (intOf iv + 1).toNat)
      case atStart => exact ⟨L.length / 2, L, _, Nat.le_refl _, by omega, rfl, Lib.hid ⟨HY.out.1, Mir.start L, HY.out.2.1⟩⟩
      case round =>
        obtain ⟨k, cur, n, hk, hn, rfl, H⟩ := hrel
        obtain ⟨X, hX⟩ : ∃ X, X = wr := ⟨_, rfl⟩
        subst hX
        obtain ⟨vr, hbx, hrow⟩ := H.out.1
        obtain ⟨A', c', rfl⟩ := hrow.slice
        have hcl : cur.length = L.length := H.out.2.1.1
        rw [hcl] at hbx hrow
        have m0 := cellOne hbx
        rcases Nat.eq_zero_or_pos k with hk0 | hkp
        · subst hk0
          obtain rfl : n = -1 := by omega
          have hfin := H.out.2.1.done
          have HF := Lib.hid (And.intro hfin (And.intro hrow hcl))
          clear hfin hrow hcl hbx hn hk
          go_wp2_with (skip; fail)
          go_ret2
          unfold InvPost
          rw [if_pos HC.out, if_pos HY.out.2.2.2.1]
          refine ⟨H.out.2.2, _, rfl, ?_⟩
          rw [← HY.out.2.2.1, ← HF.out.1]
          exact HF.out.2.1.low (by have := HV.out.2.1.size; omega)
        · obtain ⟨i, rfl⟩ : ∃ i, k = i + 1 := ⟨k - 1, by omega⟩
          obtain rfl : n = (i : Int) := by omega
          clear hn
          have hiL : i < cur.length := by omega
          obtain ⟨r, hr⟩ : ∃ r, r = L.length - 1 - i := ⟨_, rfl⟩
          have hjL : r < cur.length := by omega
          obtain ⟨g, C, ci, cj, hA, hgb, hmm, hg, hsz, hni, hnj, h1i, h1j, hri, hrj, hsw⟩ := hrow.swap hiL hjL
          subst hA
          have hMn := H.out.2.1.next hk hr hiL hjL
          have HN := Lib.hid (And.intro hMn (And.intro hsw (And.intro hg (And.intro hsz (And.intro hbx hgb)))))
          have hci := Lib.hid hni
          have hcj := Lib.hid hnj
          have HL := Lib.hid (And.intro hri hrj)
          have HO1 := Lib.hid (And.intro h1i h1j)
          have hrl : r < L.length := by omega
          have hil : i < L.length := by omega
          have hrI : (r : Int) = (L.length : Int) - 1 - (i : Int) := by omega
          have HR := Lib.hid (And.intro hr (And.intro hrI (And.intro hmm hcl)))
          clear hMn hsw hg hsz hbx hgb hni hnj hri hrj h1i h1j hcl hrow hmm hr hrI
          go_wp2_with (skip; fail)
          have hS : X.drew.cell? ⟨xb, 0, none⟩ = some (.slice (some ⟨g, 0, none⟩) L.length c') := m0
          refine wp_region_M (fun W => W.cell? ⟨xb, 0, none⟩ = some (.slice (some ⟨g, 0, none⟩) L.length c')) (fun k => [21, 23].contains k) (fun k => [23].contains k) (by kernel_rfl) ?_
          obtain ⟨Q, hQ⟩ : ∃ Q, Q = X.drew := ⟨_, rfl⟩
          rw [← hQ] at hS ⊢
          have hQX : Chg [] X Q := by rw [hQ]; exact (Chg.refl _ _).drew
          have HQ := Lib.hid (And.intro hQX hQ)
          have HQ0 := hQX
          have hriQ := HQ0.range HL.out.1 (by simp)
          have hrjQ := HQ0.range HL.out.2 (by simp)
          have HLQ := Lib.hid (And.intro hriQ hrjQ)
          have wi0 : (0 : Int) ≤ (i : Int) := by omega
          have wi1 : (i : Int) < (L.length : Int) := by omega
          have wr0 : (0 : Int) ≤ (r : Int) := by omega
          have wr1 : (r : Int) < (L.length : Int) := by omega
          have ww1 : IntKind.i64.wrap ((L.length : Int) - 1) = (L.length : Int) - 1 := IntWalk.i64_in _ (by omega)
          have ww2 : IntKind.i64.wrap ((L.length : Int) - 1 - (i : Int)) = (r : Int) := by rw [← HR.out.2.1]; exact IntWalk.i64_in _ (by omega)
          have HK := Lib.hid (And.intro hk (And.intro hLl (And.intro hrl hil)))
          clear hQX hQ m0 hriQ hrjQ HQ0 hk hLl hq hkp hil hrl
          ((try dsimp only); (try simp only [Act.put, List.setIfInBounds_toArray, List.set_cons_zero, List.set_cons_succ]))
          refine M_take (i := 0) (v := ?_) rfl (by kernel_rfl) (by kernel_rfl) (by kernel_rfl) (by kernel_rfl) (fun _ _ _ h => h) (by rfl) ?hy ?_; (case hy => (go_simp; with_reducible rfl)); ((try dsimp only); (try simp only [Act.put, List.setIfInBounds_toArray, List.set_cons_zero, List.set_cons_succ]))
          refine M_pure (i := 1) (v := ?_) rfl (by kernel_rfl) (by kernel_rfl) (by kernel_rfl) (fun _ _ _ h => h) (by rfl) ?hy ?_; (case hy => (intro w; go_simp; with_reducible rfl)); ((try dsimp only); (try simp only [Act.put, List.setIfInBounds_toArray, List.set_cons_zero, List.set_cons_succ]))
          refine M_semi (i := 2) (v := ?_) rfl (by kernel_rfl) (by kernel_rfl) (by kernel_rfl) (by kernel_rfl) (fun _ _ _ h => h) (by rfl) hS ?hy ?_; (case hy => (intro w hS; go_simp; with_reducible rfl)); ((try dsimp only); (try simp only [Act.put, List.setIfInBounds_toArray, List.set_cons_zero, List.set_cons_succ]))
          refine M_semi (i := 3) (v := ?_) rfl (by kernel_rfl) (by kernel_rfl) (by kernel_rfl) (by kernel_rfl) (fun _ _ _ h => h) (by rfl) hS ?hy ?_; (case hy => (intro w hS; go_simp; with_reducible rfl)); ((try dsimp only); (try simp only [Act.put, List.setIfInBounds_toArray, List.set_cons_zero, List.set_cons_succ]))
          refine M_pure (i := 4) (v := ?_) rfl (by kernel_rfl) (by kernel_rfl) (by kernel_rfl) (fun _ _ _ h => h) (by rfl) ?hy ?_; (case hy => (intro w; go_simp; with_reducible rfl)); ((try dsimp only); (try simp only [Act.put, List.setIfInBounds_toArray, List.set_cons_zero, List.set_cons_succ]))
          refine M_pure (i := 5) (v := ?_) rfl (by kernel_rfl) (by kernel_rfl) (by kernel_rfl) (fun _ _ _ h => h) (by rfl) ?hy ?_; (case hy => (intro w; go_simp; with_reducible rfl)); ((try dsimp only); (try simp only [Act.put, List.setIfInBounds_toArray, List.set_cons_zero, List.set_cons_succ]))
          refine M_pure (i := 6) (v := ?_) rfl (by kernel_rfl) (by kernel_rfl) (by kernel_rfl) (fun _ _ _ h => h) (by rfl) ?hy ?_; (case hy => (intro w; go_simp; with_reducible rfl)); ((try dsimp only); (try simp only [Act.put, List.setIfInBounds_toArray, List.set_cons_zero, List.set_cons_succ]))
          refine M_pure (i := 7) (v := ?_) rfl (by kernel_rfl) (by kernel_rfl) (by kernel_rfl) (fun _ _ _ h => h) (by rfl) ?hy ?_; (case hy => (intro w; go_simp; with_reducible rfl)); ((try dsimp only); (try simp only [Act.put, List.setIfInBounds_toArray, List.set_cons_zero, List.set_cons_succ]))
          refine M_take (i := 8) (v := ?_) rfl (by kernel_rfl) (by kernel_rfl) (by kernel_rfl) (by kernel_rfl) (fun _ _ _ h => h) (by rfl) ?hy ?_; (case hy => (go_simp; with_reducible rfl)); ((try dsimp only); (try simp only [Act.put, List.setIfInBounds_toArray, List.set_cons_zero, List.set_cons_succ]))
          refine M_take (i := 9) (v := ?_) rfl (by kernel_rfl) (by kernel_rfl) (by kernel_rfl) (by kernel_rfl) (fun _ _ _ h => h) (by rfl) ?hy ?_; (case hy => (go_simp; with_reducible rfl)); ((try dsimp only); (try simp only [Act.put, List.setIfInBounds_toArray, List.set_cons_zero, List.set_cons_succ]))
          refine M_pure (i := 10) (v := ?_) rfl (by kernel_rfl) (by kernel_rfl) (by kernel_rfl) (fun _ _ _ h => h) (by rfl) ?hy ?_; (case hy => (intro w; go_simp; with_reducible rfl)); ((try dsimp only); (try simp only [Act.put, List.setIfInBounds_toArray, List.set_cons_zero, List.set_cons_succ]))
          refine M_pure (i := 11) (v := ?_) rfl (by kernel_rfl) (by kernel_rfl) (by kernel_rfl) (fun _ _ _ h => h) (by rfl) ?hy ?_; (case hy => (intro w; go_simp; with_reducible rfl)); ((try dsimp only); (try simp only [Act.put, List.setIfInBounds_toArray, List.set_cons_zero, List.set_cons_succ]))
          refine M_pure (i := 12) (v := ?_) rfl (by kernel_rfl) (by kernel_rfl) (by kernel_rfl) (fun _ _ _ h => h) (by rfl) ?hy ?_; (case hy => (intro w; go_simp; with_reducible rfl)); ((try dsimp only); (try simp only [Act.put, List.setIfInBounds_toArray, List.set_cons_zero, List.set_cons_succ]))
          refine M_pure (i := 13) (v := ?_) rfl (by kernel_rfl) (by kernel_rfl) (by kernel_rfl) (fun _ _ _ h => h) (by rfl) ?hy ?_; (case hy => (intro w; go_simp; with_reducible rfl)); ((try dsimp only); (try simp only [Act.put, List.setIfInBounds_toArray, List.set_cons_zero, List.set_cons_succ]))
          refine M_pure (i := 14) (v := ?_) rfl (by kernel_rfl) (by kernel_rfl) (by kernel_rfl) (fun _ _ _ h => h) (by rfl) ?hy ?_; (case hy => (intro w; go_simp; with_reducible rfl)); ((try dsimp only); (try simp only [Act.put, List.setIfInBounds_toArray, List.set_cons_zero, List.set_cons_succ]))
          refine M_take (i := 15) rfl (by kernel_rfl) (by kernel_rfl) (by kernel_rfl) (by kernel_rfl) (fun _ _ _ h => h) (by rfl) (exec_load_mid 27 (.tmp 47) rfl g (r * 9) rfl _ _ HLQ.out.2 Try.underlying27 rfl (by rw [hcj.out]; exact szST9)) ?_; ((try dsimp only); (try simp only [Act.put, List.setIfInBounds_toArray, List.set_cons_zero, List.set_cons_succ]))
          refine M_take (i := 16) (v := ?_) rfl (by kernel_rfl) (by kernel_rfl) (by kernel_rfl) (by kernel_rfl) (fun _ _ _ h => h) (by rfl) ?hy ?_; (case hy => (go_simp; with_reducible rfl)); ((try dsimp only); (try simp only [Act.put, List.setIfInBounds_toArray, List.set_cons_zero, List.set_cons_succ]))
          refine M_pure (i := 17) (v := ?_) rfl (by kernel_rfl) (by kernel_rfl) (by kernel_rfl) (fun _ _ _ h => h) (by rfl) ?hy ?_; (case hy => (intro w; go_simp; with_reducible rfl)); ((try dsimp only); (try simp only [Act.put, List.setIfInBounds_toArray, List.set_cons_zero, List.set_cons_succ]))
          refine M_pure (i := 18) (v := ?_) rfl (by kernel_rfl) (by kernel_rfl) (by kernel_rfl) (fun _ _ _ h => h) (by rfl) ?hy ?_; (case hy => (intro w; go_simp; with_reducible rfl)); ((try dsimp only); (try simp only [Act.put, List.setIfInBounds_toArray, List.set_cons_zero, List.set_cons_succ]))
          refine M_take (i := 19) rfl (by kernel_rfl) (by kernel_rfl) (by kernel_rfl) (by kernel_rfl) (fun _ _ _ h => h) (by rfl) (exec_load_mid 27 (.tmp 51) rfl g (i * 9) rfl _ _ HLQ.out.1 Try.underlying27 rfl (by rw [hci.out]; exact szST9)) ?_; ((try dsimp only); (try simp only [Act.put, List.setIfInBounds_toArray, List.set_cons_zero, List.set_cons_succ]))
          refine M_pure (i := 20) (v := ?_) rfl (by kernel_rfl) (by kernel_rfl) (by kernel_rfl) (fun _ _ _ h => h) (by rfl) ?hy ?_; (case hy => (intro w; go_simp; with_reducible rfl)); ((try dsimp only); (try simp only [Act.put, List.setIfInBounds_toArray, List.set_cons_zero, List.set_cons_succ]))
          have hgQ := HQ.out.1.at HN.out.2.2.1 (by simp)
          obtain ⟨Q1, hQ1⟩ : ∃ Q1, Q1 = Q.setRow g (putAt C i cj) := ⟨_, rfl⟩
          have hc1 : Chg [g] Q Q1 := by rw [hQ1]; exact setRow_chg _ _ _
          have hg1 : Q1.heap[g]? = some (.cells (putAt C i cj) 27 (0, 0)) := by rw [hQ1]; exact setRow_heap _ _ _ _ _ _ hgQ
          have hxg : xb ≠ g := by have := HN.out.2.2.2.2.2; have := HV.out.2.2.1; have := HV.out.2.1.size; have := HV.out.2.2.2.1; omega
          have hS1 : Q1.cell? ⟨xb, 0, none⟩ = some (.slice (some ⟨g, 0, none⟩) L.length c') := hc1.cell hS (by simp [hxg])
          have H1 := Lib.hid (And.intro hQ1 (And.intro hc1 (And.intro hg1 (And.intro hgQ hxg))))
          clear hQ1 hc1 hg1 hgQ hxg
          refine M_eff (i := 21) rfl (by kernel_rfl) (by rfl) ?_
          go_wp2_with (first
            | (refine wpList_put_step rfl (.tmp 53) (.tmp 48) rfl g i rfl cj rfl C H1.out.2.2.2.1 hcj.out (HN.out.2.2.2.1 i hiL) HO1.out.2 ?_)
            | fail)
          rw [← H1.out.1]
          refine ⟨hS1, ?_⟩
          clear hS
          ((try dsimp only); (try simp only [Act.put, List.setIfInBounds_toArray, List.set_cons_zero, List.set_cons_succ]))
          refine M_pure (i := 22) (v := ?_) rfl (by kernel_rfl) (by kernel_rfl) (by kernel_rfl) (fun _ _ _ h => h) (by rfl) ?hy ?_; (case hy => (intro w; go_simp; with_reducible rfl)); ((try dsimp only); (try simp only [Act.put, List.setIfInBounds_toArray, List.set_cons_zero, List.set_cons_succ]))
          have hfit : r * 9 + 9 ≤ (putAt C i cj).size := by rw [putAt_size hcj.out (HN.out.2.2.2.1 i hiL)]; exact HN.out.2.2.2.1 r hjL
          have HFit := Lib.hid hfit
          clear hfit
          refine M_brk (i := 23) rfl (by kernel_rfl) (by rfl) (by rfl) ?_
          go_wp2_with (first
            | (refine wpList_put_step rfl (.tmp 54) (.tmp 52) rfl g r rfl ci rfl (putAt C i cj) H1.out.2.2.1 hci.out HFit.out HO1.out.1 ?_)
            | fail)
          ((try dsimp only [EffQ]); (try simp only [Act.put, List.setIfInBounds_toArray, List.set_cons_zero, List.set_cons_succ]))
          refine M_done (by kernel_rfl) ?_ _
          obtain ⟨Q2, hQ2⟩ : ∃ Q2, Q2 = Q1.setRow g (putAt (putAt C i cj) r ci) := ⟨_, rfl⟩
          rw [← hQ2]
          have hX2 : Chg [] ((X.setRow g (putAt C i cj)).setRow g (putAt (putAt C i cj) r ci)) Q2 := by rw [hQ2, H1.out.1, HQ.out.2]; exact ⟨rfl, rfl, rfl, Nat.le_refl _, fun _ _ _ => rfl⟩
          have hrow2 := HN.out.2.1.kept hX2 (by simp)
          have hc2 : Chg [g] X Q2 := (HQ.out.1.mono (by simp)).trans (H1.out.2.1.trans (by rw [hQ2]; exact setRow_chg _ _ _))
          have hb2 := hc2.at HN.out.2.2.2.2.1 (by simpa using H1.out.2.2.2.2)
          have H2 := Lib.hid (And.intro hrow2 (And.intro hc2 hb2))
          have wi2 : (i : Int) ≤ 60 := by have := HK.out.1; have := HK.out.2.1; omega
          clear hQ2 hX2 hrow2 hc2 hb2 hS1 ww1 ww2
          go_wp2_with (skip; fail)
          go_roundw
          case rel =>
            refine ⟨i, _, _, by have := HK.out.1; omega, rfl, rfl, Lib.hid ⟨⟨_, H2.out.2.2, H2.out.1⟩, HN.out.1, H.out.2.2.andThen H2.out.2.1 (by have := HN.out.2.2.2.2.2; have := HV.out.2.1.size; simp; omega)⟩⟩
          case measure => simp [intOf] <;> omega
    · have e0 : (ef == 0) = false := by simpa using hz
      have e0' : (ef != 0) = true := by simpa using hz
      have HY := Lib.hid (And.intro hbZ (And.intro (hwY.trans hYZ) (And.intro hr2 (And.intro hz hZ))))
      clear hr hr1 hr2 hL hwY hbx hrow hZ hYZ hbZ hz
      go_wp2_with (skip; fail)
      rw [← HY.out.2.2.2.2]
      go_ret2
      unfold InvPost
      rw [if_pos HC.out, HY.out.2.2.1, if_neg HY.out.2.2.2.1]
      exact ⟨HY.out.2.1, rfl⟩
  · have he : checkE ss = 3 := by unfold checkE; rw [if_neg hch]
    rw [he]
    have HC := Lib.hid hch
    clear hch he
    go_wp2_with (skip; fail)
    go_ret2
    unfold InvPost
    rw [if_neg HC.out]
    exact ⟨HW.out.2.1, rfl⟩
end Go.Proofs.Ytofjocjljbkjgaa
namespace Go.Proofs.Ytofjocjljbkjgaa
open Go.RowKit
theorem RowP9.toC {w : World} {ok : Nat → Prop} {base : Nat} {A : Option Addr} {n c : Nat} {ss : List Stp} (h : RowP9 w ok base (.slice A n c) ss) : StpsC (fun b => ok b ∧ base ≤ b ∧ b < w.heap.size) w A ss := fun i s hi => by
  obtain ⟨css, h1, h2, h0, h3⟩ := h.ex
  have hlt := (List.getElem?_eq_some_iff.1 hi).1
  have hc : css[i]? = some (css[i]'(by omega)) := List.getElem?_eq_getElem (by omega)
  obtain ⟨g, c', C, e, hb, hg, _, _, _, _, hr⟩ := h1.block (by omega)
  injection e with e1 e2 e3
  subst e1
  exact ⟨g, 0, _, rfl, ⟨h0 g rfl, hb, lt_of_block hg⟩, by rw [Nat.zero_add]; exact hr i (by omega), (h3 i s _ hi hc).weak (fun b hb2 _ => ⟨hb2.1, hb2.2.1, hb2.2.2.1⟩)⟩
end Go.Proofs.Ytofjocjljbkjgaa
namespace Go.Proofs.Ytofjocjljbkjgaa
open Go.RowKit
def wg : Gr := ⟨[⟨⟨#[108, 105, 115, 116]⟩, false, [⟨[1], 0, 3⟩]⟩, ⟨⟨#[97]⟩, true, []⟩], 0⟩
def wt : Tr := ⟨1, 0, ⟨#[]⟩, [⟨2, 1, ⟨#[]⟩, []⟩]⟩
def wt' : Tr := ⟨1, 0, ⟨#[]⟩, []⟩
def ws1 : Stp := ⟨2, 2, 0, 0, ⟨#[]⟩, zeroT⟩
def ws2 : Stp := ⟨4, 2, 0, 0, ⟨#[]⟩, zeroT⟩
theorem wg_ok : wg.Ok := by
  refine ⟨by decide, fun i j a b hij ha hb => ?_, fun k hk => ?_⟩
  · match i, j, hij, ha, hb with
    | 0, 1, _, ha, hb => simp [wg] at ha hb; subst ha hb; decide +kernel
    | 0, j + 2, _, ha, hb => simp [wg] at hb
    | i + 1, j, hij, ha, hb => rw [List.getElem?_eq_none (by simp [wg]; omega)] at hb; cases hb
  · simp [wg] at hk
    rcases hk with rfl | rfl
    · refine ⟨by decide, by decide, by decide, fun s hs => ?_⟩
      simp at hs; subst hs
      exact ⟨⟨fun i hi => by simp at hi; subst hi; exact ⟨by decide, by decide, by decide⟩, by decide, by decide⟩, by decide, by decide, by decide⟩
    · exact ⟨by decide, by decide, by decide, fun s hs => by simp at hs⟩
theorem wd1 : applyT wt ws1 = .ok wt' := by rfl
theorem wd2 : applyT wt' ws2 = .error 4 := by rfl
theorem wfit : SubOk wg wt' := by
  refine ⟨by decide, fun j y hj hy => ?_⟩
  have e : wt'.walk 1 = [(wt', 1)] := rfl
  rw [e] at hj hy
  obtain rfl : j = 0 := by simp at hj; omega
  simp at hy; subst hy
  refine ⟨⟨by decide, by decide, by decide, ⟨wg_ok, _, rfl, .inl rfl⟩, wg_ok, by decide, _, rfl, ?_⟩, fun k z hk => by omega⟩
  exact ⟨0, _, rfl, rfl, 0, rfl, by decide, by decide, fun j hj => by omega⟩
theorem wapply {j : GJ} (hj : j.Of wg) : applyL j wt [ws1, ws2] = (wt, 1, 4) := by
  have h1 : doJ j wt ws1 = .ok wt' := by
    unfold doJ
    rw [wd1]
    simp only [hj.ok.2 wg_ok, (hj.fit wt').2 ⟨rfl, wfit⟩, if_true]
  have h2 : doJ j wt' ws2 = .error 4 := by unfold doJ; rw [wd2]
  unfold applyL
  rw [show checkB [ws1, ws2] = true from by decide +kernel, if_pos rfl]
  have hf : foldF (doJ j) wt [ws1, ws2] 0 = (wt', 1, 4) := by simp only [foldF, h1, h2]
  rw [hf]; rfl
def ws3 : Stp := ⟨4, 2, 0, 0, ⟨#[97]⟩, zeroT⟩
theorem winv : (foldF applyT wt [ws3] 0).2.2 = 0 ∧ (invL wt [ws3]).reverse = [⟨4, 2, 0, 0, ⟨#[]⟩, zeroT⟩] ∧ checkB [ws3] = true := by
  refine ⟨rfl, rfl, by decide +kernel⟩
structure Wk11 (w W : World) : Prop where
  g : GrC W (some ⟨w.heap.size + 1 + 1, 0, none⟩) 2 wg.kinds
  t : TrC (fun b => b < W.heap.size) W wt [.int .i64 1, .int .i64 0, .string ⟨#[]⟩, .slice (some ⟨w.heap.size + 1 + 1 + 1 + 1, 0, none⟩) 1 1]
  bg : W.heap[w.heap.size + 1 + 1 + 1]? = some (.cells #[.slice (some ⟨w.heap.size + 1 + 1, 0, none⟩) 2 2, .int .i64 0] 43 (0, 0))
  bt : W.heap[w.heap.size + 1 + 1 + 1 + 1 + 1]? = some (.cells #[.int .i64 1, .int .i64 0, .string ⟨#[]⟩, .slice (some ⟨w.heap.size + 1 + 1 + 1 + 1, 0, none⟩) 1 1] 24 (0, 0))
  chg : Chg [] w W
theorem Wk11.kept {w W W' : World} (h : Wk11 w W) (hc : Chg [] W W') : Wk11 w W' := ⟨h.g.kept hc, h.t.next hc, hc.at h.bg (by simp), hc.at h.bt (by simp), h.chg.trans hc⟩
theorem Wk11.new (w : World) : Wk11 w ((((((w.alloc (.cells #[.int .i64 1] 3)).alloc (.cells #[.slice (some ⟨w.heap.size, 0, none⟩) 1 1, .int .i64 0, .int .i64 3] 111)).alloc (.cells #[.string ⟨#[108, 105, 115, 116]⟩, .bool false, .slice (some ⟨w.heap.size + 1, 0, none⟩) 1 1, .string ⟨#[97]⟩, .bool true, .slice none 0 0] 108)).alloc (.cells #[.slice (some ⟨w.heap.size + 1 + 1, 0, none⟩) 2 2, .int .i64 0] 43)).alloc (.cells #[.int .i64 2, .int .i64 1, .string ⟨#[]⟩, .slice none 0 0] 24)).alloc (.cells #[.int .i64 1, .int .i64 0, .string ⟨#[]⟩, .slice (some ⟨w.heap.size + 1 + 1 + 1 + 1, 0, none⟩) 1 1] 24)) := by
  obtain ⟨W, hW⟩ : ∃ W, W = ((((((w.alloc (.cells #[.int .i64 1] 3)).alloc (.cells #[.slice (some ⟨w.heap.size, 0, none⟩) 1 1, .int .i64 0, .int .i64 3] 111)).alloc (.cells #[.string ⟨#[108, 105, 115, 116]⟩, .bool false, .slice (some ⟨w.heap.size + 1, 0, none⟩) 1 1, .string ⟨#[97]⟩, .bool true, .slice none 0 0] 108)).alloc (.cells #[.slice (some ⟨w.heap.size + 1 + 1, 0, none⟩) 2 2, .int .i64 0] 43)).alloc (.cells #[.int .i64 2, .int .i64 1, .string ⟨#[]⟩, .slice none 0 0] 24)).alloc (.cells #[.int .i64 1, .int .i64 0, .string ⟨#[]⟩, .slice (some ⟨w.heap.size + 1 + 1 + 1 + 1, 0, none⟩) 1 1] 24)) := ⟨_, rfl⟩
  rw [← hW]
  have k0 : W.heap[w.heap.size]? = some (.cells #[.int .i64 1] 3 (0, 0)) := by rw [hW]; exact heap_old (heap_old (heap_old (heap_old (heap_old (heap_new _ _ rfl) _) _) _) _) _
  have k1 : W.heap[w.heap.size + 1]? = some (.cells #[.slice (some ⟨w.heap.size, 0, none⟩) 1 1, .int .i64 0, .int .i64 3] 111 (0, 0)) := by rw [hW]; exact heap_old (heap_old (heap_old (heap_old (heap_new _ _ (by simp)) _) _) _) _
  have k2 : W.heap[w.heap.size + 1 + 1]? = some (.cells #[.string ⟨#[108, 105, 115, 116]⟩, .bool false, .slice (some ⟨w.heap.size + 1, 0, none⟩) 1 1, .string ⟨#[97]⟩, .bool true, .slice none 0 0] 108 (0, 0)) := by rw [hW]; exact heap_old (heap_old (heap_old (heap_new _ _ (by simp)) _) _) _
  have k3 : W.heap[w.heap.size + 1 + 1 + 1]? = some (.cells #[.slice (some ⟨w.heap.size + 1 + 1, 0, none⟩) 2 2, .int .i64 0] 43 (0, 0)) := by rw [hW]; exact heap_old (heap_old (heap_new _ _ (by simp)) _) _
  have k4 : W.heap[w.heap.size + 1 + 1 + 1 + 1]? = some (.cells #[.int .i64 2, .int .i64 1, .string ⟨#[]⟩, .slice none 0 0] 24 (0, 0)) := by rw [hW]; exact heap_old (heap_new _ _ (by simp)) _
  have k5 : W.heap[w.heap.size + 1 + 1 + 1 + 1 + 1]? = some (.cells #[.int .i64 1, .int .i64 0, .string ⟨#[]⟩, .slice (some ⟨w.heap.size + 1 + 1 + 1 + 1, 0, none⟩) 1 1] 24 (0, 0)) := by rw [hW]; exact heap_new _ _ (by simp)
  have l0 := lt_of_block k0
  have l1 := lt_of_block k1
  have l2 := lt_of_block k2
  have l4 := lt_of_block k4
  refine ⟨⟨by decide, by omega, fun i x hx => ?_⟩, ?_, k3, k5, by rw [hW]; exact (by with_reducible repeat (first | exact Chg.refl _ _ | apply Chg.alloc | apply Chg.drew | apply Chg.drewN | (refine Chg.setCell ?_ _ _ (by simp))))⟩
  · match i, hx with
    | 0, hx =>
      simp [wg] at hx; subst hx
      refine ⟨_, 0, rfl, l2, ⟨some ⟨w.heap.size + 1, 0, none⟩, 1, range_of_block (cs := (#[.string ⟨#[108, 105, 115, 116]⟩, .bool false, .slice (some ⟨w.heap.size + 1, 0, none⟩) 1 1, .string ⟨#[97]⟩, .bool true, .slice none 0 0] : Array Value).toList) k2 0 3, by decide, by decide, by omega, fun j y hy => ?_⟩⟩
      match j, hy with
      | 0, hy =>
        simp at hy; subst hy
        refine ⟨_, 0, rfl, l1, ⟨some ⟨w.heap.size, 0, none⟩, 1, range_of_block (cs := (#[.slice (some ⟨w.heap.size, 0, none⟩) 1 1, .int .i64 0, .int .i64 3] : Array Value).toList) k1 0 3, by decide, by omega, fun m z hz => ?_⟩⟩
        match m, hz with
        | 0, hz => simp at hz; subst hz; exact ⟨_, 0, rfl, l0, cellOne k0⟩
        | m + 1, hz => simp at hz
      | j + 1, hy => simp at hy
    | 1, hx =>
      simp [wg] at hx; subst hx
      exact ⟨_, 0, rfl, l2, ⟨none, 0, range_of_block (cs := (#[.string ⟨#[108, 105, 115, 116]⟩, .bool false, .slice (some ⟨w.heap.size + 1, 0, none⟩) 1 1, .string ⟨#[97]⟩, .bool true, .slice none 0 0] : Array Value).toList) k2 3 3, by decide, by decide, by omega, fun j y hy => by simp at hy⟩⟩
    | i + 2, hx => simp [wg] at hx
  · refine TrC.mk wt (A := some ⟨w.heap.size + 1 + 1 + 1 + 1, 0, none⟩) (c := 1) (by simp [wt]) (by omega) sz0 (fun i k hk => ?_)
    match i, hk with
    | 0, hk =>
      simp [wt] at hk; subst hk
      exact ⟨_, 0, _, rfl, l4, range_of_block (cs := (#[.int .i64 2, .int .i64 1, .string ⟨#[]⟩, .slice none 0 0] : Array Value).toList) k4 0 4, TrC.none ⟨2, 1, ⟨#[]⟩, []⟩ none 0 rfl (by omega) sz0⟩
    | i + 1, hk => simp [wt] at hk
set_option maxHeartbeats 4000000 in
set_option maxRecDepth 100000 in
theorem wakes11 (w : World) : Calls Try.prog 30 #[] w fun e w' => e = .returned (.bool true) ∧ Chg [] w w' := by
  go_enter Try.func30, Try.ntmps30
  go_wp2_with fail
  obtain ⟨V, hV⟩ : ∃ V, V = ((((((w.alloc (.cells #[.int .i64 1] 3)).alloc (.cells #[.slice (some ⟨w.heap.size, 0, none⟩) 1 1, .int .i64 0, .int .i64 3] 111)).alloc (.cells #[.string ⟨#[108, 105, 115, 116]⟩, .bool false, .slice (some ⟨w.heap.size + 1, 0, none⟩) 1 1, .string ⟨#[97]⟩, .bool true, .slice none 0 0] 108)).alloc (.cells #[.slice (some ⟨w.heap.size + 1 + 1, 0, none⟩) 2 2, .int .i64 0] 43)).alloc (.cells #[.int .i64 2, .int .i64 1, .string ⟨#[]⟩, .slice none 0 0] 24)).alloc (.cells #[.int .i64 1, .int .i64 0, .string ⟨#[]⟩, .slice (some ⟨w.heap.size + 1 + 1 + 1 + 1, 0, none⟩) 1 1] 24)) := ⟨_, rfl⟩
  rw [← hV]
  have hVs : V.heap.size = w.heap.size + 1 + 1 + 1 + 1 + 1 + 1 := by rw [hV]; simp
  have hk : Wk11 w V := by rw [hV]; exact Wk11.new w
  obtain ⟨W, hW⟩ : ∃ W, W = V.alloc (.cells #[.int .i8 2, .int .i64 2, .int .i64 0, .int .i64 0, .string ⟨#[]⟩, .int .i64 0, .int .i64 0, .string ⟨#[]⟩, .slice none 0 0, .int .i8 4, .int .i64 2, .int .i64 0, .int .i64 0, .string ⟨#[]⟩, .int .i64 0, .int .i64 0, .string ⟨#[]⟩, .slice none 0 0] 27) := ⟨_, rfl⟩
  rw [← hW]
  have hVW : Chg [] V W := by rw [hW]; exact (by with_reducible repeat (first | exact Chg.refl _ _ | apply Chg.alloc | apply Chg.drew | apply Chg.drewN | (refine Chg.setCell ?_ _ _ (by simp))))
  have hbs : W.heap[w.heap.size + 1 + 1 + 1 + 1 + 1 + 1]? = some (.cells #[.int .i8 2, .int .i64 2, .int .i64 0, .int .i64 0, .string ⟨#[]⟩, .int .i64 0, .int .i64 0, .string ⟨#[]⟩, .slice none 0 0, .int .i8 4, .int .i64 2, .int .i64 0, .int .i64 0, .string ⟨#[]⟩, .int .i64 0, .int .i64 0, .string ⟨#[]⟩, .slice none 0 0] 27 (0, 0)) := by rw [hW]; exact heap_new _ _ hVs.symm
  have hls := lt_of_block hbs
  obtain ⟨j, hj⟩ := GJ.ex wg
  have hS : StpsC (fun b => b < W.heap.size) W (some ⟨w.heap.size + 1 + 1 + 1 + 1 + 1 + 1, 0, none⟩) [ws1, ws2] := by
    intro i s hi
    match i, hi with
    | 0, hi =>
      simp at hi; subst hi
      exact ⟨_, 0, _, rfl, hls, range_of_block (cs := (#[.int .i8 2, .int .i64 2, .int .i64 0, .int .i64 0, .string ⟨#[]⟩, .int .i64 0, .int .i64 0, .string ⟨#[]⟩, .slice none 0 0, .int .i8 4, .int .i64 2, .int .i64 0, .int .i64 0, .string ⟨#[]⟩, .int .i64 0, .int .i64 0, .string ⟨#[]⟩, .slice none 0 0] : Array Value).toList) hbs 0 9, none, 0, rfl, zeroC _ _, by decide, by decide, by decide⟩
    | 1, hi =>
      simp at hi; subst hi
      exact ⟨_, 0, _, rfl, hls, range_of_block (cs := (#[.int .i8 2, .int .i64 2, .int .i64 0, .int .i64 0, .string ⟨#[]⟩, .int .i64 0, .int .i64 0, .string ⟨#[]⟩, .slice none 0 0, .int .i8 4, .int .i64 2, .int .i64 0, .int .i64 0, .string ⟨#[]⟩, .int .i64 0, .int .i64 0, .string ⟨#[]⟩, .slice none 0 0] : Array Value).toList) hbs 9 9, none, 0, rfl, zeroC _ _, by decide, by decide, by decide⟩
    | i + 2, hi => simp at hi
  have hcap := capply_any wg j hj (some ⟨w.heap.size + 1 + 1, 0, none⟩) 2 wt (some ⟨w.heap.size + 1 + 1 + 1 + 1, 0, none⟩) 1 [ws1, ws2] (some ⟨w.heap.size + 1 + 1 + 1 + 1 + 1 + 1, 0, none⟩) 2 W (hk.kept hVW).g (hk.kept hVW).t hS (by decide) (by decide)
  rw [wapply hj] at hcap
  have HK := Lib.hid (hk.kept hVW)
  clear hV hVs hk hW hVW hbs hls hS hj
  refine hcap.mono ?_
  clear hcap
  rintro e X ⟨A1, c1, he, _, hX⟩
  have he : e = .returned (.tuple #[.agg #[.int .i64 1, .int .i64 0, .string ⟨#[]⟩, .slice A1 1 c1], .int .i64 1, .int .i64 4]) := he
  subst he
  obtain ⟨Y, hY⟩ : ∃ Y, Y = X.alloc (.cells #[.int .i64 1, .int .i64 0, .string ⟨#[]⟩, .slice A1 1 c1] 24) := ⟨_, rfl⟩
  have hXY : Chg [] X Y := by rw [hY]; exact (by with_reducible repeat (first | exact Chg.refl _ _ | apply Chg.alloc | apply Chg.drew | apply Chg.drewN | (refine Chg.setCell ?_ _ _ (by simp))))
  have hbY : Y.heap[X.heap.size]? = some (.cells #[.int .i64 1, .int .i64 0, .string ⟨#[]⟩, .slice A1 1 c1] 24 (0, 0)) := by rw [hY]; exact heap_new _ _ rfl
  obtain ⟨p0, p1, p2, p3⟩ := blk4 ((HK.out.kept (hX.trans hXY)).bt)
  have HY := Lib.hid (And.intro (HK.out.kept (hX.trans hXY)) (And.intro hbY hY))
  rw [hY] at p0 p1 p2 p3
  clear hX hY hXY hbY
  go_wp2_with fail
  rw [← HY.out.2.2]
  clear p0 p1 p2 p3
  have hXY : Y.heap.size = X.heap.size + 1 := by rw [HY.out.2.2]; simp
  obtain ⟨Z, hZ⟩ : ∃ Z, Z = Y.alloc (.cells #[.int .i8 4, .int .i64 2, .int .i64 0, .int .i64 0, .string ⟨#[97]⟩, .int .i64 0, .int .i64 0, .string ⟨#[]⟩, .slice none 0 0] 27) := ⟨_, rfl⟩
  rw [← hZ]
  have hYZ : Chg [] Y Z := by rw [hZ]; exact (by with_reducible repeat (first | exact Chg.refl _ _ | apply Chg.alloc | apply Chg.drew | apply Chg.drewN | (refine Chg.setCell ?_ _ _ (by simp))))
  have hbs : Z.heap[X.heap.size + 1]? = some (.cells #[.int .i8 4, .int .i64 2, .int .i64 0, .int .i64 0, .string ⟨#[97]⟩, .int .i64 0, .int .i64 0, .string ⟨#[]⟩, .slice none 0 0] 27 (0, 0)) := by rw [hZ]; exact heap_new _ _ hXY.symm
  have hls := lt_of_block hbs
  have hS : StpsC (fun b => b < Z.heap.size) Z (some ⟨X.heap.size + 1, 0, none⟩) [ws3] := by
    intro i s hi
    match i, hi with
    | 0, hi =>
      simp at hi; subst hi
      exact ⟨_, 0, _, rfl, hls, range_of_block (cs := (#[.int .i8 4, .int .i64 2, .int .i64 0, .int .i64 0, .string ⟨#[97]⟩, .int .i64 0, .int .i64 0, .string ⟨#[]⟩, .slice none 0 0] : Array Value).toList) hbs 0 9, none, 0, rfl, zeroC _ _, by decide, by decide, by decide⟩
    | i + 1, hi => simp at hi
  have hiv := cinvert_any wt (some ⟨w.heap.size + 1 + 1 + 1 + 1, 0, none⟩) 1 [ws3] (some ⟨X.heap.size + 1, 0, none⟩) 1 Z (HY.out.1.kept hYZ).t hS (by decide)
  have HZ := Lib.hid (And.intro (HY.out.1.kept hYZ) (hYZ.at HY.out.2.1 (by simp)))
  clear hZ hYZ hbs hls hS hXY
  refine hiv.mono ?_
  clear hiv
  rintro e U ⟨hU, hP⟩
  rw [if_pos winv.2.2, if_pos winv.1, winv.2.1] at hP
  obtain ⟨v, rfl, hrow⟩ := hP
  obtain ⟨Ar, cr, rfl⟩ := hrow.slice
  obtain ⟨g, o, A2, c2, hA, _, hr, _⟩ := hrow.toC.at (i := 0) (by decide)
  subst hA
  have r0 := hr 0 _ rfl
  have r4 := hr 4 _ rfl
  simp only [List.getElem_cons_zero, Nat.zero_mul, Nat.add_zero] at r0 r4
  obtain ⟨p0, p1, p2, p3⟩ := blk4 (hU.at HZ.out.2 (by simp))
  have HU := Lib.hid (HZ.out.1.kept hU).chg
  clear hU hrow hr
  go_wp2_with (skip; fail)
  go_ret
  exact ⟨rfl, HU.out⟩
end Go.Proofs.Ytofjocjljbkjgaa
namespace Go.Proofs.Ytofjocjljbkjgaa
open Go.RowKit
structure Box2 (g : Gr) (Ag : Option Addr) (cg : Nat) (t : Tr) (A : Option Addr) (c : Nat) (w W : World) : Prop where
  g : W.heap[w.heap.size]? = some (.cells #[.slice Ag g.kinds.length cg, .int .i64 g.root] 43 (0, 0))
  t : W.heap[w.heap.size + 1]? = some (.cells #[.int .i64 (Tr.id t), .int .i64 (Tr.kind t), .string (Tr.text t), .slice A (Tr.kids t).length c] 24 (0, 0))
  chg : Chg [] w W
theorem Box2.kept {g : Gr} {Ag : Option Addr} {cg : Nat} {t : Tr} {A : Option Addr} {c : Nat} {w W W' : World} (h : Box2 g Ag cg t A c w W) (hc : Chg [] W W') : Box2 g Ag cg t A c w W' :=
  ⟨hc.at h.g (by simp), hc.at h.t (by simp), h.chg.trans hc⟩
theorem Box2.new (g : Gr) (Ag : Option Addr) (cg : Nat) (t : Tr) (A : Option Addr) (c : Nat) (w : World) : Box2 g Ag cg t A c w ((w.alloc (.cells #[.slice Ag g.kinds.length cg, .int .i64 g.root] 43)).alloc (.cells #[.int .i64 (Tr.id t), .int .i64 (Tr.kind t), .string (Tr.text t), .slice A (Tr.kids t).length c] 24)) :=
  ⟨heap_old (heap_new _ _ rfl) _, heap_new _ _ (by simp), (by with_reducible repeat (first | exact Chg.refl _ _ | apply Chg.alloc | apply Chg.drew | apply Chg.drewN | (refine Chg.setCell ?_ _ _ (by simp))))⟩
structure NBox (x : Tr) (A : Option Addr) (c b : Nat) (W : World) : Prop where
  blk : W.heap[b]? = some (.cells #[.int .i64 (Tr.id x), .int .i64 (Tr.kind x), .string (Tr.text x), .slice A (Tr.kids x).length c] 24 (0, 0))
  ok : TrC (fun g => g < W.heap.size) W x [.int .i64 (Tr.id x), .int .i64 (Tr.kind x), .string (Tr.text x), .slice A (Tr.kids x).length c]
theorem NBox.kept {x : Tr} {A : Option Addr} {c b : Nat} {W W' : World} (h : NBox x A c b W) (hc : Chg [] W W') : NBox x A c b W' := ⟨hc.at h.blk (by simp), h.ok.next hc⟩
end Go.Proofs.Ytofjocjljbkjgaa
namespace Go.Proofs.Ytofjocjljbkjgaa
open Go.RowKit
attribute [local go_sem] Oper.semAt_some
theorem RowN.toB {w : World} {ok : Nat → Prop} {base : Nat} {A : Option Addr} {n c : Nat} {ks : List Tr} (h : RowN w ok base (.slice A n c) ks) (ho : ∀ b, ok b → base ≤ b) : n = ks.length ∧ KidsC (fun b => base ≤ b ∧ b < w.heap.size) w A ks := by
  obtain ⟨h1, h2, h3, h4⟩ := h.toC
  refine ⟨h1, ?_⟩
  obtain ⟨css, r1, r2, r3⟩ := h.ex
  rcases Nat.eq_zero_or_pos ks.length with h0 | hp
  · rw [List.length_eq_zero_iff.1 h0]; exact KidsC.nil _ _ _
  · obtain ⟨g, c', C, e, hb, hg, _, _, _, _, hr⟩ := r1.block (by omega)
    injection e with e1 e2 e3
    subst e1
    intro i k hk
    have hlt := (List.getElem?_eq_some_iff.1 hk).1
    have hlt' : i < css.length := by omega
    exact ⟨g, 0, _, rfl, ⟨hb, lt_of_block hg⟩, by rw [Nat.zero_add]; exact hr i hlt', (r3 i k _ hk (List.getElem?_eq_getElem hlt')).weak (fun b hb _ => ⟨ho b hb.1, hb.2.1⟩)⟩
theorem cut_ret0 {w W : World} (hc : Chg [] w W) (a : Act) (hd : a.defers = []) (h8 : a.tmps.getD 8 undef = .bool true) : bodyPostM W0 0 Try.prog Try.f9 (fun e w' => e = .returned (.bool true) ∧ Chg [] w w') .ret a W := by
  have h8' : a.tmps[8]?.getD undef = .bool true := by simpa using h8
  refine bodyM_ret0 hd (v := .bool true) ?_ ⟨rfl, hc⟩
  simp [results, Try.results9, go_sem, h8']
theorem cut_ret {w W : World} {D : Nat} (hc : Chg [] w W) (hD : w.heap.size ≤ D) (hK : W.heap[D]? = some (.deferred (some []))) (a : Act) (hd : a.defers = [{ target := .collected D, args := #[] }]) (h8 : a.tmps.getD 8 undef = .bool true) :
    bodyPostM W0 0 Try.prog Try.f9 (fun e w' => e = .returned (.bool true) ∧ Chg [] w w') .ret a W := by
  have hP : Chg [D] W (W.putObj D (.deferred none)) := ⟨rfl, rfl, rfl, by simp, fun j _ hj => World.putObj_heap_other (by simpa using hj)⟩
  have h8' : a.tmps[8]?.getD undef = .bool true := by simpa using h8
  refine bodyM_ret hd hK (v := .bool true) ?_ ⟨rfl, hc.andThen hP (by simp; omega)⟩
  simp [results, Try.results9, go_sem, h8']
set_option maxHeartbeats 8000000 in
set_option maxRecDepth 100000 in
theorem cutL_any (g : Gr) (Ag : Option Addr) (cg : Nat) (t : Tr) (A : Option Addr) (c : Nat) (ss : List Stp) (B : Option Addr) (d : Nat) (n : Int) (w : World) (hG : GrC w Ag cg g.kinds) (hT : TrC (fun b => b < w.heap.size) w t [.int .i64 (Tr.id t), .int .i64 (Tr.kind t), .string (Tr.text t), .slice A (Tr.kids t).length c]) (hS : StpsC (fun b => b < w.heap.size) w B ss) (hl : ss.length ≤ d ∧ d ≤ 9223372036854775807) :
    Calls Try.prog 9 #[.agg #[.slice Ag g.kinds.length cg, .int .i64 g.root], .agg #[.int .i64 (Tr.id t), .int .i64 (Tr.kind t), .string (Tr.text t), .slice A (Tr.kids t).length c], .slice B ss.length d, .int .i64 n] w (fun e w' => e = .returned (.bool true) ∧ Chg [] w w') := by
  obtain ⟨j, hj⟩ := GJ.ex g
  obtain ⟨W, hW⟩ : ∃ W, W = (w.alloc (.cells #[.slice Ag g.kinds.length cg, .int .i64 g.root] 43)).alloc (.cells #[.int .i64 (Tr.id t), .int .i64 (Tr.kind t), .string (Tr.text t), .slice A (Tr.kids t).length c] 24) := ⟨_, rfl⟩
  have hB : Box2 g Ag cg t A c w W := by rw [hW]; exact Box2.new _ _ _ _ _ _ _
  obtain ⟨g0, g1⟩ := cell2 hB.g
  have HW := Lib.hid (And.intro hW (And.intro hB (And.intro hG (And.intro hT (And.intro hS hj)))))
  have HL := Lib.hid hl
  have hq1 : ss.length ≤ 9223372036854775807 := by omega
  rw [hW] at g0 g1
  clear hW hB hG hT hS hj hl
  refine callsIn_wide.1 (callsIn_of_wp_marks (n := 0) Try.func9 rfl trivial (wpIn_wide.2 ?_))
  simp only [Try.ntmps9, List.size_toArray, List.length_cons, List.length_nil, Nat.reduceAdd, Nat.reduceSub, Array.replicate_succ, Array.replicate_zero, List.push_toArray, List.append_toArray, List.nil_append, List.cons_append]
  go_wp2_with fail
  rw [← HW.out.1]
  clear g0 g1
  refine (great5_any g Ag cg W (HW.out.2.2.1.kept HW.out.2.1.chg)).mono ?_
  rintro e X ⟨b5, rfl, hsm, hX⟩
  clear hsm
  have HX := Lib.hid (HW.out.2.1.kept hX)
  clear hX
  cases b5 with
  | true =>
    go_wp2_with (go_at_call 30; refine (wakes11 _).mono ?_; rintro e V ⟨rfl, hV⟩; have HV := Lib.hid hV; clear hV)
    exact cut_ret0 (HX.out.chg.trans HV.out) _ rfl rfl
  | false =>
  obtain ⟨p0, p1, p2, p3⟩ := blk4 HX.out.t
  go_wp2_with fail
  clear p0 p1 p2 p3
  refine (great_t t A c X (HW.out.2.2.2.1.next HX.out.chg)).mono ?_
  rintro e Y ⟨bt, rfl, hbt, hY⟩
  have HY := Lib.hid (And.intro (HX.out.kept hY) hbt)
  clear hY hbt
  cases bt with
  | true =>
    go_wp2_with (go_at_call 30; refine (wakes11 _).mono ?_; rintro e V ⟨rfl, hV⟩; have HV := Lib.hid hV; clear hV)
    exact cut_ret0 (HY.out.1.chg.trans HV.out) _ rfl rfl
  | false =>
  have HTn := Lib.hid (HY.out.2 rfl)
  go_wp2_with fail
  refine (greatS_any ss B d Y (HW.out.2.2.2.2.1.next HY.out.1.chg) hq1).mono ?_
  rintro e V ⟨bs, rfl, hbs, hV⟩
  have HV := Lib.hid (And.intro (HY.out.1.kept hV) hbs)
  clear hV hbs
  cases bs with
  | true =>
    go_wp2_with (go_at_call 30; refine (wakes11 _).mono ?_; rintro e V2 ⟨rfl, hV2⟩; have HV2 := Lib.hid hV2; clear hV2)
    exact cut_ret0 (HV.out.1.chg.trans HV2.out) _ rfl rfl
  | false =>
  have HSn := Lib.hid (HV.out.2 rfl)
  have hap := capply_any g j HW.out.2.2.2.2.2 Ag cg t A c ss B d V (HW.out.2.2.1.kept HV.out.1.chg) (HW.out.2.2.2.1.next HV.out.1.chg) (HW.out.2.2.2.2.1.next HV.out.1.chg) hq1 (by have := HTn.out; omega)
  have HA := Lib.hid hap
  obtain ⟨g0, g1⟩ := cell2 HV.out.1.g
  obtain ⟨p0, p1, p2, p3⟩ := blk4 HV.out.1.t
  clear hap
  go_wp2_with fail
  clear g0 g1 p0 p1 p2 p3
  refine HA.out.mono ?_
  have hlaw := fun h => cut_law j t (ss := ss) h (by have := HTn.out; omega)
  obtain ⟨ra, hra⟩ : ∃ r, r = applyL j t ss := ⟨_, rfl⟩
  rw [← hra] at hlaw ⊢
  obtain ⟨xa, na, ea⟩ := ra
  simp only [] at hlaw
  rintro e X2 ⟨A2, c2, rfl, hT2, hX2⟩
  obtain ⟨Y2, hY2⟩ : ∃ Y2, Y2 = X2.alloc (.cells #[.int .i64 (Tr.id xa), .int .i64 (Tr.kind xa), .string (Tr.text xa), .slice A2 (Tr.kids xa).length c2] 24) := ⟨_, rfl⟩
  have hc2 : Chg [] V Y2 := by rw [hY2]; exact hX2.alloc _
  have H2 := Lib.hid (And.intro hY2 (And.intro (HV.out.1.kept hc2) hlaw))
  clear hra hlaw hT2 hX2 hY2 hc2
  by_cases hea : ea = 0
  case neg =>
    have e0 : (ea == 0) = false := by simpa using hea
    have e0' : (ea != 0) = true := by simpa using hea
    clear hea
    go_wp2_with (go_at_call 30; rw [← H2.out.1]; refine (wakes11 _).mono ?_; rintro e V2 ⟨rfl, hV2⟩; have HV2 := Lib.hid hV2; clear hV2)
    exact cut_ret0 (H2.out.2.1.chg.trans HV2.out) _ rfl rfl
  case pos =>
  subst hea
  obtain ⟨hcB, hlen, hlk, hnod⟩ := H2.out.2.2 rfl
  have HK0 := Lib.hid (And.intro hcB (And.intro hlen (And.intro hlk hnod)))
  clear hcB hlen hlk hnod
  obtain ⟨b9, hb9⟩ : ∃ b, b = X2.heap.size := ⟨_, rfl⟩
  have Hb9 := Lib.hid (And.intro hb9 (show Y2.heap.size = b9 + 1 by rw [H2.out.1, hb9]; simp))
  have hbw : w.heap.size + 2 ≤ b9 + 1 := by have := lt_of_block H2.out.2.1.t; have := Hb9.out.2; omega
  clear hb9
  go_wp2_with fail
  case' inl.inr hn0 =>
    rw [← H2.out.1, ← Hb9.out.1]
    obtain ⟨k, hkl, Z, hZ, hkb⟩ : ∃ k : Nat, k ≤ ss.length ∧ ∃ Z, Z = Y2.alloc (.cells #[.int .i64 0] 3) ∧ Z.heap[b9 + 1]? = some (.cells #[.int .i64 (k : Int)] 3 (0, 0)) := ⟨0, Nat.zero_le _, _, rfl, by rw [← Hb9.out.2]; exact heap_new _ _ rfl⟩
    have hYZ : Chg [] Y2 Z := by rw [hZ]; exact (by with_reducible repeat (first | exact Chg.refl _ _ | apply Chg.alloc | apply Chg.drew | apply Chg.drewN | (refine Chg.setCell ?_ _ _ (by simp))))
    rw [← hZ]
    clear hZ
  case' inr.inl hn0 =>
    rw [← H2.out.1, ← Hb9.out.1]
    obtain ⟨k, hkl, Z, hZ, hkb⟩ : ∃ k : Nat, k ≤ ss.length ∧ ∃ Z, Z = Y2.alloc (.cells #[.int .i64 (ss.length : Int)] 3) ∧ Z.heap[b9 + 1]? = some (.cells #[.int .i64 (k : Int)] 3 (0, 0)) := ⟨ss.length, Nat.le_refl _, _, rfl, by rw [← Hb9.out.2]; exact heap_new _ _ rfl⟩
    have hYZ : Chg [] Y2 Z := by rw [hZ]; exact (by with_reducible repeat (first | exact Chg.refl _ _ | apply Chg.alloc | apply Chg.drew | apply Chg.drewN | (refine Chg.setCell ?_ _ _ (by simp))))
    rw [← hZ]
    clear hZ
  case' inr.inr hn0 =>
    rw [← H2.out.1, ← Hb9.out.1]
    obtain ⟨k, hkl, Z, hZ, hkb⟩ : ∃ k : Nat, k ≤ ss.length ∧ ∃ Z, Z = Y2.alloc (.cells #[.int .i64 n] 3) ∧ Z.heap[b9 + 1]? = some (.cells #[.int .i64 (k : Int)] 3 (0, 0)) := by
      obtain ⟨k, rfl⟩ := Int.eq_ofNat_of_zero_le hn0
      exact ⟨k, by omega, _, rfl, by rw [← Hb9.out.2]; exact heap_new _ _ rfl⟩
    have hYZ : Chg [] Y2 Z := by rw [hZ]; exact (by with_reducible repeat (first | exact Chg.refl _ _ | apply Chg.alloc | apply Chg.drew | apply Chg.drewN | (refine Chg.setCell ?_ _ _ (by simp))))
    rw [← hZ]
    clear hZ
  all_goals
    have hBZ := H2.out.2.1.kept hYZ
    have hlc := HL.out
    have hkd : k ≤ d := by omega
    have HZ := Lib.hid (And.intro hBZ (And.intro hkb hkl))
    clear hBZ hkb hYZ hlc
    refine wp_noPanic ?_
    refine wp_region_M (fun W' => W'.rangeAt w.heap.size 0 (#[.slice Ag g.kinds.length cg, .int .i64 g.root] : Array Value).toList ∧ W'.rangeAt (w.heap.size + 1) 0 [.int .i64 (Tr.id t), .int .i64 (Tr.kind t), .string (Tr.text t), .slice A (Tr.kids t).length c] ∧ W'.cell? ⟨b9 + 1, 0, none⟩ = some (.int .i64 (k : Int))) (fun k => [5, 10, 11].contains k) (fun k => [11].contains k) (by kernel_rfl) ?_
    obtain ⟨Q, hQ⟩ : ∃ Q, Q = Z.drew := ⟨_, rfl⟩
    rw [← hQ]
    have hZQ : Chg [] Z Q := by rw [hQ]; exact (Chg.refl _ _).drew
    clear hQ
    have hall : ∀ W', Chg [] Z W' → W'.rangeAt w.heap.size 0 (#[.slice Ag g.kinds.length cg, .int .i64 g.root] : Array Value).toList ∧ W'.rangeAt (w.heap.size + 1) 0 [.int .i64 (Tr.id t), .int .i64 (Tr.kind t), .string (Tr.text t), .slice A (Tr.kids t).length c] ∧ W'.cell? ⟨b9 + 1, 0, none⟩ = some (.int .i64 (k : Int)) := fun W' hc => ⟨range_all (hc.at HZ.out.1.g (by simp)), range_all (hc.at HZ.out.1.t (by simp)), cellOne (hc.at HZ.out.2.1 (by simp))⟩
    have hcall : ∀ W', Chg [] Z W' → Calls Try.prog 31 #[.agg #[.slice Ag g.kinds.length cg, .int .i64 g.root], .agg #[.int .i64 (Tr.id t), .int .i64 (Tr.kind t), .string (Tr.text t), .slice A (Tr.kids t).length c], .slice B k d] W' (ApplyN (applyL j t (ss.take k)) W') := fun W' hc => by
      have h := capply_new g j HW.out.2.2.2.2.2 Ag cg t A c (ss.take k) B d W' (HW.out.2.2.1.kept (HZ.out.1.chg.trans hc)) (HW.out.2.2.2.1.next (HZ.out.1.chg.trans hc)) ((HW.out.2.2.2.2.1.take k).next (HZ.out.1.chg.trans hc)) (by rw [List.length_take]; omega) (by have := HTn.out; omega)
      rw [List.length_take, Nat.min_eq_left HZ.out.2.2] at h
      exact h
    have hS := hall Q hZQ
    have HQ := Lib.hid (And.intro hall (And.intro hZQ hcall))
    have wi0 : (0 : Int) ≤ (k : Int) := by omega
    have wi1 : (k : Int) ≤ (d : Int) := by omega
    clear hall hZQ hcall
    ((try dsimp only); (try simp only [Act.put, List.setIfInBounds_toArray, List.set_cons_zero, List.set_cons_succ]))
    refine M_semi (i := 0) rfl (by kernel_rfl) (by kernel_rfl) (by kernel_rfl) (by kernel_rfl) (fun _ _ _ h => h) (by rfl) hS (fun W hS => exec_load_mid 43 (.tmp 4) rfl w.heap.size 0 rfl _ _ hS.1 Try.underlying43 rfl (by kernel_rfl)) ?_; ((try dsimp only); (try simp only [Act.put, List.setIfInBounds_toArray, List.set_cons_zero, List.set_cons_succ]))
    refine M_semi (i := 1) rfl (by kernel_rfl) (by kernel_rfl) (by kernel_rfl) (by kernel_rfl) (fun _ _ _ h => h) (by rfl) hS (fun W hS => exec_load_mid 24 (.tmp 5) rfl (w.heap.size + 1) 0 rfl _ _ hS.2.1 Try.underlying24 rfl szNode) ?_; ((try dsimp only); (try simp only [Act.put, List.setIfInBounds_toArray, List.set_cons_zero, List.set_cons_succ]))
    refine M_pure (i := 2) (v := ?_) rfl (by kernel_rfl) (by kernel_rfl) (by kernel_rfl) (fun _ _ _ h => h) (by rfl) ?hy ?_; (case hy => (intro w; go_simp; with_reducible rfl)); ((try dsimp only); (try simp only [Act.put, List.setIfInBounds_toArray, List.set_cons_zero, List.set_cons_succ]))
    refine M_semi (i := 3) (v := ?_) rfl (by kernel_rfl) (by kernel_rfl) (by kernel_rfl) (by kernel_rfl) (fun _ _ _ h => h) (by rfl) hS ?hy ?_; (case hy => (intro w hS; go_simp; with_reducible rfl)); ((try dsimp only); (try simp only [Act.put, List.setIfInBounds_toArray, List.set_cons_zero, List.set_cons_succ]))
    refine M_pure (i := 4) (v := ?_) rfl (by kernel_rfl) (by kernel_rfl) (by kernel_rfl) (fun _ _ _ h => h) (by rfl) ?hy ?_; (case hy => (intro w; go_simp; with_reducible rfl)); ((try dsimp only); (try simp only [Act.put, List.setIfInBounds_toArray, List.set_cons_zero, List.set_cons_succ]))
    obtain ⟨z, hz, hzk⟩ := HK0.out.2.2.1 k hkl
    have hcal := HQ.out.2.2
    rw [hzk] at hcal
    have HC := Lib.hid (And.intro hcal hz)
    clear hcal hz hzk
    refine M_two (i := 5) (j := 10) rfl rfl (by kernel_rfl) (by rfl) (by rfl) ?_ ?_
    case' refine_1 =>
      go_wp2_with fail
      refine (HC.out.1 Q HQ.out.2.1).mono ?_
      rintro e X5 ⟨A5, c5, rfl, hT5, hX5⟩
      simp only [] at hT5
      have HX5 := Lib.hid (And.intro (HQ.out.2.1.trans hX5) hT5)
      clear hX5 hT5 hS
      go_wp2_with fail
      refine ⟨HQ.out.1 X5 HX5.out.1, ?_⟩
      ((try dsimp only); (try simp only [Act.put, List.setIfInBounds_toArray, List.set_cons_zero, List.set_cons_succ]))
      refine M_pure (i := 6) (v := ?_) rfl (by kernel_rfl) (by kernel_rfl) (by kernel_rfl) (fun _ _ _ h => h) (by rfl) ?hy ?_; (case hy => (intro w; go_simp; with_reducible rfl)); ((try dsimp only); (try simp only [Act.put, List.setIfInBounds_toArray, List.set_cons_zero, List.set_cons_succ]))
      refine M_pure (i := 7) (v := ?_) rfl (by kernel_rfl) (by kernel_rfl) (by kernel_rfl) (fun _ _ _ h => h) (by rfl) ?hy ?_; (case hy => (intro w; go_simp; with_reducible rfl)); ((try dsimp only); (try simp only [Act.put, List.setIfInBounds_toArray, List.set_cons_zero, List.set_cons_succ]))
      refine M_pure (i := 8) (v := ?_) rfl (by kernel_rfl) (by kernel_rfl) (by kernel_rfl) (fun _ _ _ h => h) (by rfl) ?hy ?_; (case hy => (intro w; go_simp; with_reducible rfl)); ((try dsimp only); (try simp only [Act.put, List.setIfInBounds_toArray, List.set_cons_zero, List.set_cons_succ]))
      refine M_pure (i := 9) (v := ?_) rfl (by kernel_rfl) (by kernel_rfl) (by kernel_rfl) (fun _ _ _ h => h) (by rfl) ?hy ?_; (case hy => (intro w; go_simp; with_reducible rfl)); ((try dsimp only); (try simp only [Act.put, List.setIfInBounds_toArray, List.set_cons_zero, List.set_cons_succ]))
      refine M_eff (i := 10) rfl (by kernel_rfl) (by rfl) ?_
      go_wp2_with fail
      refine ⟨HQ.out.1 _ (HX5.out.1.alloc _), ?_⟩
      refine M_brk (i := 11) rfl (by kernel_rfl) (by rfl) (by rfl) ?_
      go_wp2_with fail
      ((try dsimp only [EffQ]); (try simp only [Act.put, List.setIfInBounds_toArray, List.set_cons_zero, List.set_cons_succ]))
      refine M_pure (i := 12) (v := ?_) rfl (by kernel_rfl) (by kernel_rfl) (by kernel_rfl) (fun _ _ _ h => h) (by rfl) ?hy ?_; (case hy => (intro w; go_simp; with_reducible rfl)); ((try dsimp only); (try simp only [Act.put, List.setIfInBounds_toArray, List.set_cons_zero, List.set_cons_succ]))
      refine M_pure (i := 13) (v := ?_) rfl (by kernel_rfl) (by kernel_rfl) (by kernel_rfl) (fun _ _ _ h => h) (by rfl) ?hy ?_; (case hy => (intro w; go_simp; with_reducible rfl)); ((try dsimp only); (try simp only [Act.put, List.setIfInBounds_toArray, List.set_cons_zero, List.set_cons_succ]))
      refine M_done (by kernel_rfl) (NoPanic.normal ?_) _
      obtain ⟨U, hU⟩ : ∃ U, U = X5.alloc (.cells #[.int .i64 (Tr.id z), .int .i64 (Tr.kind z), .string (Tr.text z), .slice A5 (Tr.kids z).length c5] 24) := ⟨_, rfl⟩
      rw [← hU]
      obtain ⟨b13, hb13⟩ : ∃ b, b = X5.heap.size := ⟨_, rfl⟩
      rw [← hb13]
      have hXU : Chg [] X5 U := by rw [hU]; exact (by with_reducible repeat (first | exact Chg.refl _ _ | apply Chg.alloc | apply Chg.drew | apply Chg.drewN | (refine Chg.setCell ?_ _ _ (by simp))))
      have hbU : U.heap[b13]? = some (.cells #[.int .i64 (Tr.id z), .int .i64 (Tr.kind z), .string (Tr.text z), .slice A5 (Tr.kids z).length c5] 24 (0, 0)) := by rw [hU, hb13]; exact heap_new _ _ rfl
      have HU := Lib.hid (And.intro (HX5.out.1.trans hXU) (And.intro ((HX5.out.2.weak (ok' := fun b => b < X5.heap.size) (fun b hb _ => hb.2)).next hXU) hbU))
      clear hU hb13 hXU hbU
    case' refine_2 =>
      go_wp2_with fail
      refine ⟨HQ.out.1 _ (HQ.out.2.1.alloc _), ?_⟩
      clear hS
      obtain ⟨Q1, hQ1⟩ : ∃ Q1, Q1 = Q.alloc (.cells #[.int .i64 0, .int .i64 0, .string ⟨#[]⟩, .slice none 0 0] 24) := ⟨_, rfl⟩
      rw [← hQ1]
      obtain ⟨b13, hb13⟩ : ∃ b, b = Q.heap.size := ⟨_, rfl⟩
      rw [← hb13]
      have hZQ1 : Chg [] Z Q1 := by rw [hQ1]; exact HQ.out.2.1.alloc _
      have hb1 : Q1.heap[b13]? = some (.cells #[.int .i64 0, .int .i64 0, .string ⟨#[]⟩, .slice none 0 0] 24 (0, 0)) := by rw [hQ1, hb13]; exact heap_new _ _ rfl
      have hbz : Z.heap.size ≤ b13 := by rw [hb13]; exact HQ.out.2.1.size
      have HQ1 := Lib.hid (And.intro hZQ1 (And.intro hb1 hbz))
      clear hQ1 hZQ1 hb1 hb13 hbz
      ((try dsimp only); (try simp only [Act.put, List.setIfInBounds_toArray, List.set_cons_zero, List.set_cons_succ]))
      refine M_eff (i := 5) rfl (by kernel_rfl) (by rfl) ?_
      go_wp2_with fail
      refine (HC.out.1 Q1 HQ1.out.1).mono ?_
      rintro e X5 ⟨A5, c5, rfl, hT5, hX5⟩
      simp only [] at hT5
      have hb1 := hX5.at HQ1.out.2.1 (by simp)
      have HX5 := Lib.hid (And.intro (HQ1.out.1.trans hX5) (And.intro hb1 hT5))
      obtain ⟨r0, r1, r2, r3⟩ := blk4 hb1
      have f0 := blkF hb1 0
      have f1 := blkF hb1 1
      have f2 := blkF hb1 2
      have f3 := blkF hb1 3
      clear hX5 hb1 hT5
      go_wp2_with fail
      refine ⟨HQ.out.1 X5 HX5.out.1, ?_⟩
      ((try dsimp only); (try simp only [Act.put, List.setIfInBounds_toArray, List.set_cons_zero, List.set_cons_succ]))
      refine M_pure (i := 6) (v := ?_) rfl (by kernel_rfl) (by kernel_rfl) (by kernel_rfl) (fun _ _ _ h => h) (by rfl) ?hy ?_; (case hy => (intro w; go_simp; with_reducible rfl)); ((try dsimp only); (try simp only [Act.put, List.setIfInBounds_toArray, List.set_cons_zero, List.set_cons_succ]))
      refine M_pure (i := 7) (v := ?_) rfl (by kernel_rfl) (by kernel_rfl) (by kernel_rfl) (fun _ _ _ h => h) (by rfl) ?hy ?_; (case hy => (intro w; go_simp; with_reducible rfl)); ((try dsimp only); (try simp only [Act.put, List.setIfInBounds_toArray, List.set_cons_zero, List.set_cons_succ]))
      refine M_pure (i := 8) (v := ?_) rfl (by kernel_rfl) (by kernel_rfl) (by kernel_rfl) (fun _ _ _ h => h) (by rfl) ?hy ?_; (case hy => (intro w; go_simp; with_reducible rfl)); ((try dsimp only); (try simp only [Act.put, List.setIfInBounds_toArray, List.set_cons_zero, List.set_cons_succ]))
      refine M_pure (i := 9) (v := ?_) rfl (by kernel_rfl) (by kernel_rfl) (by kernel_rfl) (fun _ _ _ h => h) (by rfl) ?hy ?_; (case hy => (intro w; go_simp; with_reducible rfl)); ((try dsimp only); (try simp only [Act.put, List.setIfInBounds_toArray, List.set_cons_zero, List.set_cons_succ]))
      refine M_brk (i := 11) rfl (by kernel_rfl) (by rfl) (by rfl) ?_
      go_wp2_with fail
      ((try dsimp only [EffQ]); (try simp only [Act.put, List.setIfInBounds_toArray, List.set_cons_zero, List.set_cons_succ]))
      refine M_pure (i := 12) (v := ?_) rfl (by kernel_rfl) (by kernel_rfl) (by kernel_rfl) (fun _ _ _ h => h) (by rfl) ?hy ?_; (case hy => (intro w; go_simp; with_reducible rfl)); ((try dsimp only); (try simp only [Act.put, List.setIfInBounds_toArray, List.set_cons_zero, List.set_cons_succ]))
      refine M_pure (i := 13) (v := ?_) rfl (by kernel_rfl) (by kernel_rfl) (by kernel_rfl) (fun _ _ _ h => h) (by rfl) ?hy ?_; (case hy => (intro w; go_simp; with_reducible rfl)); ((try dsimp only); (try simp only [Act.put, List.setIfInBounds_toArray, List.set_cons_zero, List.set_cons_succ]))
      refine M_done (by kernel_rfl) (NoPanic.normal ?_) _
      clear r0 r1 r2 r3 f0 f1 f2 f3
      obtain ⟨U, hU⟩ : ∃ U, U = (((X5.setCell ⟨b13, 0, none⟩ (.int .i64 z.id)).setCell ⟨b13, 1, none⟩ (.int .i64 z.kind)).setCell ⟨b13, 2, none⟩ (.string z.text)).setCell ⟨b13, 3, none⟩ (.slice A5 z.kids.length c5) := ⟨_, rfl⟩
      rw [← hU]
      have hXU : Chg [b13] X5 U := by rw [hU]; exact chg4 _ _ _ _ _ _
      have hbU : U.heap[b13]? = some (.cells #[.int .i64 (Tr.id z), .int .i64 (Tr.kind z), .string (Tr.text z), .slice A5 (Tr.kids z).length c5] 24 (0, 0)) := by rw [hU]; exact set4 HX5.out.2.1
      have HU := Lib.hid (And.intro (HX5.out.1.andThen hXU (by have := HQ1.out.2.2; simp; omega)) (And.intro ((HX5.out.2.2.kept hXU (fun b hb => by have := lt_of_block HQ1.out.2.1; have := hb.1; simp; omega)).weak (ok' := fun b => b < U.heap.size) (fun b hb _ => Nat.lt_of_lt_of_le hb.2 hXU.size)) hbU))
      clear hU hXU hbU
    all_goals
      have hBU := HZ.out.1.kept HU.out.1
      have hkU := HU.out.1.at HZ.out.2.1 (by simp)
      have k0 := cellOne hkU
      obtain ⟨p0, p1, p2, p3⟩ := blk4 hBU.t
      obtain ⟨g0, g1⟩ := cell2 hBU.g
      have kk : ((k : Int) == (k : Int)) = true := by simp
      have hl1 := lt_of_block hBU.t
      have hl0 := lt_of_block hBU.g
      have hl9 := lt_of_block hkU
      obtain ⟨U1, hU1⟩ : ∃ U1, U1 = (U.alloc (.cells #[.int .i64 (Tr.id t), .int .i64 (Tr.kind t), .string (Tr.text t), .slice A (Tr.kids t).length c] 24)).alloc (.cells #[.int .i64 0] 3) := ⟨_, rfl⟩
      have hUU1 : Chg [] U U1 := by rw [hU1]; exact (by with_reducible repeat (first | exact Chg.refl _ _ | apply Chg.alloc | apply Chg.drew | apply Chg.drewN | (refine Chg.setCell ?_ _ _ (by simp))))
      obtain ⟨b16, hb16⟩ : ∃ b, b = U.heap.size := ⟨_, rfl⟩
      have h16 : U1.heap[b16]? = some (.cells #[.int .i64 (Tr.id t), .int .i64 (Tr.kind t), .string (Tr.text t), .slice A (Tr.kids t).length c] 24 (0, 0)) := by rw [hU1, hb16]; exact heap_old (heap_new _ _ rfl) _
      have h17 : U1.heap[b16 + 1]? = some (.cells #[.int .i64 0] 3 (0, 0)) := by rw [hU1, hb16]; exact heap_new _ _ (by simp)
      have hs1 : U1.heap.size = b16 + 2 := by rw [hU1, hb16]; simp
      have hea := ceach_any g j HW.out.2.2.2.2.2 Ag cg t A c ss B d U1 (HW.out.2.2.1.kept (hBU.kept hUU1).chg) (HW.out.2.2.2.1.next (hBU.kept hUU1).chg) (HW.out.2.2.2.2.1.next (hBU.kept hUU1).chg) hq1
      have hz1 : U1.heap[b13]? = some (.cells #[.int .i64 (Tr.id z), .int .i64 (Tr.kind z), .string (Tr.text z), .slice A5 (Tr.kids z).length c5] 24 (0, 0)) ∧ TrC (fun b => b < b16) U1 z [.int .i64 (Tr.id z), .int .i64 (Tr.kind z), .string (Tr.text z), .slice A5 (Tr.kids z).length c5] := ⟨hUU1.at HU.out.2.2 (by simp), (HU.out.2.1.kept hUU1 (by simp)).weak (fun b hb _ => by omega)⟩
      have hl13 := lt_of_block HU.out.2.2
      have hls : b9 + 1 < b16 ∧ b13 < b16 ∧ w.heap.size ≤ b16 := ⟨by omega, by omega, by omega⟩
      have H1 := Lib.hid (And.intro hU1 (And.intro hb16 (And.intro (hBU.kept hUU1) (And.intro (hUU1.at hkU (by simp)) (And.intro h16 (And.intro h17 (And.intro hs1 (And.intro (And.intro hz1 hls) hea))))))))
      clear hBU hkU wi0 wi1 hU1 hUU1 hb16 h16 h17 hs1 hea hz1 hl13 hls
      go_wp2_with fail
      rw [← H1.out.1, ← H1.out.2.1]
      clear k0 p0 p1 p2 p3 g0 g1 kk hl1 hl0 hl9
      refine H1.out.2.2.2.2.2.2.2.2.mono ?_
      rintro e X ⟨ab, rfl, habU, hrow, hX⟩
      obtain ⟨v, hvb, hrow⟩ := hrow
      have heT : eachT j t ss = treesF (doJ j) t ss := by unfold eachT; rw [if_pos HK0.out.1]
      rw [heT] at hrow
      obtain ⟨Av, cv, rfl⟩ := hrow.slice
      have hit := each2_iter U1.heap.size X.heap.size X ab Av cv (treesF (doJ j) t ss) habU (lt_of_block hvb) hvb (hrow.toB (fun b hb => hb)).2 (by rw [HK0.out.2.1]; have := HSn.out.1; omega) HK0.out.2.2.2
      have hI0 : CutI w X k b9 b13 b16 z A5 c5 (t :: treesF (doJ j) t ss) 0 X := by
        have hB1 := H1.out.2.2.1.kept hX
        refine ⟨hX.at H1.out.2.2.2.1 (by simp), hX.at H1.out.2.2.2.2.2.2.2.1.1.1 (by simp), H1.out.2.2.2.2.2.2.2.1.1.2.kept hX (by simp), ⟨t, A, c, rfl, hX.at H1.out.2.2.2.2.1 (by simp), (HW.out.2.2.2.1.kept hB1.chg (by simp)).weak (fun b hb hb2 => ⟨.inl (Nat.lt_of_lt_of_le hb H1.out.2.2.2.2.2.2.2.1.2.2.2), hb2⟩)⟩, hX.at H1.out.2.2.2.2.2.1 (by simp), fun _ _ _ => rfl, hB1.chg, Nat.le_refl _⟩
      have hX16 : b16 + 2 ≤ X.heap.size := by have := hX.size; have := H1.out.2.2.2.2.2.2.1; omega
      have hwX : w.heap.size ≤ X.heap.size := by have := H1.out.2.2.2.2.2.2.2.1.2.2.2; omega
      have hit2 : IterK Try.prog 77 #[.pointer (some ⟨ab, 0, none⟩)] RepE (treesF (doJ j) t ss) (StE X (b16 + 2) X.heap.size) := by
        rw [← H1.out.2.2.2.2.2.2.1]; exact hit
      have hfn : ∀ w, (binOp .eql 65 (.func (.func 77) #[] #[.pointer (some ⟨ab, 0, none⟩)]) .nilFunc).run Try.prog w = .ok (.bool false) w := fun w => by kernel_rfl
      have HX := Lib.hid (And.intro hit2 (And.intro hI0 (And.intro hX16 hwX)))
      clear habU hvb hrow hX heT hit hI0 hX16 hwX hit2
      go_wp2_with fail
      clear hfn
      have hX16 := HX.out.2.2.1
      have hwX := HX.out.2.2.2
      refine wpIn_wide.1 (wp_rangeK (gf := 77) (lb := #[.pointer (some ⟨ab, 0, none⟩)]) rfl (enters_of Try.func77 (by kernel_rfl) rfl) HX.out.1
        (fun l i x args W h => by obtain ⟨A', c', b', rfl, _⟩ := h; rfl)
        (fun i W' => CutI w X k b9 b13 b16 z A5 c5 (t :: treesF (doJ j) t ss) i W' ∧ i ≤ k) (fun cd W' => cd = .exit 0 ∧ CutI w X k b9 b13 b16 z A5 c5 (t :: treesF (doJ j) t ss) k W')
        (fun i W' h => h.1.st) (fun i W1 W2 h hq => ⟨h.1.quiet hq (Nat.le_refl _) hwX, h.2⟩) (fun cd W1 W2 h hq => ⟨h.1, h.2.quiet hq (Nat.le_refl _) hwX⟩) ⟨HX.out.2.1, Nat.zero_le _⟩ ?round ?done ?stop)
      case round =>
        rintro l i x args W' ⟨hS, hik⟩ hx ⟨A', c', base, rfl, hlb, hTx⟩ hr hlB
        have hsW := hS.size
        have H5 := Lib.hid (And.intro hS (And.intro hik (And.intro hx hTx)))
        clear hS hik hx hTx hr
        gi_wp2
        refine ⟨Above.of_chg0 (by with_reducible repeat (first | exact Chg.refl _ _ | apply Chg.alloc | apply Chg.drew | apply Chg.drewN | (refine Chg.setCell ?_ _ _ (by simp)))), fun W2 hc2 hq2 => ?_⟩
        have hcA : Chg [] W' (W'.alloc (.cells #[.int .i64 (Tr.id x), .int .i64 (Tr.kind x), .string (Tr.text x), .slice A' (Tr.kids x).length c'] 24)) := (by with_reducible repeat (first | exact Chg.refl _ _ | apply Chg.alloc | apply Chg.drew | apply Chg.drewN | (refine Chg.setCell ?_ _ _ (by simp))))
        have hS2 := (H5.out.1.quiet (.of_chg hcA) (Nat.le_refl _) hwX).quiet hq2 (Nat.le_refl _) hwX
        have hbx : W2.heap[W'.heap.size]? = some (.cells #[.int .i64 (Tr.id x), .int .i64 (Tr.kind x), .string (Tr.text x), .slice A' (Tr.kids x).length c'] 24 (0, 0)) := hq2.at (heap_new _ _ rfl) rfl
        have hs2 : W'.heap.size ≤ W2.heap.size := Nat.le_trans hcA.size hc2.size
        have hT2 : TrC (fun b => b16 + 2 ≤ b ∧ b < W2.heap.size) W2 x [.int .i64 (Tr.id x), .int .i64 (Tr.kind x), .string (Tr.text x), .slice A' (Tr.kids x).length c'] := ((H5.out.2.2.2.kept hcA (by simp)).quiet hq2).weak (fun b hb _ => ⟨by omega, by omega⟩)
        obtain ⟨p0, p1, p2, p3⟩ := blk4 hbx
        have n0 := cellOne hS2.nb
        have k0 := cellOne hS2.kb
        by_cases hikk : i = k
        · subst hikk
          have H6 := Lib.hid hS2
          clear hS2 hbx hs2 hT2 hcA
          gi_wp2
          exact ⟨Above.refl _ _, rfl, H6.out⟩
        · have e0 : ((i : Int) == (k : Int)) = false := by simp; omega
          obtain ⟨y0, A0, c0, _, hb0, _⟩ := hS2.last
          obtain ⟨q0, q1, q2, q3⟩ := blk4 hb0
          have f0 := blkF hb0 0
          have f1 := blkF hb0 1
          have f2 := blkF hb0 2
          have f3 := blkF hb0 3
          have m0 := blkF hS2.nb 0
          obtain ⟨hS3, hc3⟩ := hS2.step H1.out.2.2.2.2.2.2.2.1.2.1 H1.out.2.2.2.2.2.2.2.1.2.2.1 H1.out.2.2.2.2.2.2.2.1.2.2.2 (by rw [List.getElem?_cons_succ]; exact H5.out.2.2.1) hT2
          have hw1 : IntKind.i64.wrap ((i : Int) + 1) = (i : Int) + 1 := IntWalk.i64_in _ (by have := H5.out.2.1; have := HZ.out.2.2; have := HSn.out.1; omega)
          have H6 := Lib.hid (And.intro hS3 (And.intro hc3 (show i + 1 ≤ k by have := H5.out.2.1; omega)))
          clear hS2 hbx hs2 hT2 hcA hb0 hS3 hc3 hikk
          gi_wp2
          exact ⟨Above.of_chg H6.out.2.1 (by simp; omega), H6.out.1, H6.out.2.2⟩
      case done =>
          rintro D W' hD ⟨hS, hik⟩ hK
          obtain hk9 : (treesF (doJ j) t ss).length = k := by have := HK0.out.2.1; have := HZ.out.2.2; omega
          rw [hk9] at hS
          clear hk9 hik
          obtain ⟨y, A8, c8, hy, hb, hTy⟩ := hS.last
          rw [HC.out.2] at hy
          injection hy with hy
          subst hy
          have n0 := cellOne hS.nb
          have k0 := cellOne hS.kb
          obtain ⟨p0, p1, p2, p3⟩ := blk4 hS.zb
          obtain ⟨q0, q1, q2, q3⟩ := blk4 hb
          have hsm := same_any z z A5 c5 A8 c8 W' (hS.zok.weak (fun _ _ _ => trivial)) (hTy.weak (fun _ _ _ => trivial))
          have H9 := Lib.hid (And.intro hS.chg (And.intro hsm hK))
          clear hS hb hTy hsm hK
          go_wp2_with fail
          refine H9.out.2.1.mono ?_
          rintro e U2 ⟨r, rfl, hr, hU2⟩
          obtain rfl : r = true := hr.2 rfl
          have HU2 := Lib.hid hU2
          clear hr hU2 n0 k0 p0 p1 p2 p3 q0 q1 q2 q3
          go_wp2_with (go_at_call 30; refine (wakes11 _).mono ?_; rintro e V2 ⟨rfl, hV2⟩; have HV2 := Lib.hid hV2; clear hV2)
          exact cut_ret (H9.out.1.trans (HU2.out.trans HV2.out)) (by have := HX.out.2.2.2; omega) ((HU2.out.trans HV2.out).at H9.out.2.2 (by simp)) _ rfl rfl
      case stop =>
          rintro D cd W' hD ⟨rfl, hS⟩ hK
          refine wpIn_wide.2 ?_
          obtain ⟨y, A8, c8, hy, hb, hTy⟩ := hS.last
          rw [HC.out.2] at hy
          injection hy with hy
          subst hy
          have n0 := cellOne hS.nb
          have k0 := cellOne hS.kb
          obtain ⟨p0, p1, p2, p3⟩ := blk4 hS.zb
          obtain ⟨q0, q1, q2, q3⟩ := blk4 hb
          have hsm := same_any z z A5 c5 A8 c8 W' (hS.zok.weak (fun _ _ _ => trivial)) (hTy.weak (fun _ _ _ => trivial))
          have H9 := Lib.hid (And.intro hS.chg (And.intro hsm hK))
          clear hS hb hTy hsm hK
          go_wp2_with fail
          refine H9.out.2.1.mono ?_
          rintro e U2 ⟨r, rfl, hr, hU2⟩
          obtain rfl : r = true := hr.2 rfl
          have HU2 := Lib.hid hU2
          clear hr hU2 n0 k0 p0 p1 p2 p3 q0 q1 q2 q3
          go_wp2_with (go_at_call 30; refine (wakes11 _).mono ?_; rintro e V2 ⟨rfl, hV2⟩; have HV2 := Lib.hid hV2; clear hV2)
          exact cut_ret (H9.out.1.trans (HU2.out.trans HV2.out)) (by have := HX.out.2.2.2; omega) ((HU2.out.trans HV2.out).at H9.out.2.2 (by simp)) _ rfl rfl
end Go.Proofs.Ytofjocjljbkjgaa
