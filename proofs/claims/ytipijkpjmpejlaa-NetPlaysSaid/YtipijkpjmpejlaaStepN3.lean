import Derived.Test.YtipijkpjmpejlaaStepN2
/- The law's step, whole. -/
set_option linter.unusedVariables false
set_option linter.unusedSimpArgs false
namespace Go.Proofs.Ytipijkpjmpejlaa
open Go.RowKit
theorem RNetV.msgs {w : World} {r : Nat} {l : List (Msg × Bool)} {M : Nat → Prop} (h : RNetV w r l M) : ∃ Al cl, w.cell? ⟨r, 0, none⟩ = some (.slice Al l.length cl) ∧ MsgsL w l Al cl := by
  obtain ⟨vL, vH, css, h⟩ := h
  obtain ⟨Al, cl, rfl⟩ := h.sliceL
  exact ⟨Al, cl, (cells2 h.box).1, css, h.row, h.len, fun i x cs a b => (h.has i x cs a b).weak (fun g hg hlt => hlt)⟩
set_option maxHeartbeats 4000000 in
set_option maxRecDepth 100000 in
theorem step8_any (w0 w : World) (g r : Nat) (l : List (Msg × Bool)) (dv kv : Int) (m : Msg) (A : Option Addr) (c : Nat) (B : Option Addr) (d : Nat) (hd : ¬ (0 ≤ dv ∧ dv ≤ 7)) (hN : Nets w0 w g r l) (hM : MsgC (fun b => b < w0.heap.size) w m A c B d) (hF : m.Fit) :
    Calls Try.prog 53 #[.pointer (some ⟨g, 0, none⟩), .pointer (some ⟨r, 0, none⟩), .agg #[.int .i64 dv, .int .i64 kv, .int .i8 (Msg.kind m), .int .i64 (Msg.frm m), .int .i64 (Msg.to m), .int .i64 (Msg.boot m), .int .i64 (Msg.server m), .int .i64 (Msg.number m), .int .i64 (Msg.node m), .int .i64 (Msg.lease m), .int .i64 (Msg.epoch m), .int .i64 (Msg.version m), .int .i64 (Msg.e m), .slice B (Msg.steps m).length d, .int .i64 (Msg.tree m).id, .int .i64 (Msg.tree m).kind, .string (Msg.tree m).text, .slice A (Msg.tree m).kids.length c]] w (StepPost w0 g r) := by
  obtain ⟨M, hI⟩ := stp_in (dv := dv) (kv := kv) hN hM hF
  obtain ⟨X, hX⟩ : ∃ X, X = w.alloc (.cells #[.int .i64 dv, .int .i64 kv, .int .i8 (Msg.kind m), .int .i64 (Msg.frm m), .int .i64 (Msg.to m), .int .i64 (Msg.boot m), .int .i64 (Msg.server m), .int .i64 (Msg.number m), .int .i64 (Msg.node m), .int .i64 (Msg.lease m), .int .i64 (Msg.epoch m), .int .i64 (Msg.version m), .int .i64 (Msg.e m), .slice B (Msg.steps m).length d, .int .i64 (Msg.tree m).id, .int .i64 (Msg.tree m).kind, .string (Msg.tree m).text, .slice A (Msg.tree m).kids.length c] 87) := ⟨_, rfl⟩
  rw [← hX] at hI
  obtain ⟨N, hn, -⟩ := hI.nets.act1
  obtain ⟨hR, -⟩ := hI.nets.act2
  obtain ⟨Al, cl, c0, hL⟩ := hR.msgs
  have k0 : X.cell? ⟨w.heap.size, 1, none⟩ = some (.int .i64 kv) := range_all hI.box 1 _ rfl
  have ht := told_any X.drew g l N Al cl kv (hn.kept (Chg.refl [] X).drew (by simp)) (hL.kept (Chg.refl [] X).drew)
  have HI := Lib.hid (And.intro hI (And.intro (Eq.symm hX) ht))
  have e0 : (dv == 0) = false := beq_eq_false_iff_ne.2 (by omega)
  have e1 : (dv == 1) = false := beq_eq_false_iff_ne.2 (by omega)
  have e2 : (dv == 2) = false := beq_eq_false_iff_ne.2 (by omega)
  have e3 : (dv == 3) = false := beq_eq_false_iff_ne.2 (by omega)
  have e4 : (dv == 4) = false := beq_eq_false_iff_ne.2 (by omega)
  have e5 : (dv == 5) = false := beq_eq_false_iff_ne.2 (by omega)
  have e6 : (dv == 6) = false := beq_eq_false_iff_ne.2 (by omega)
  have e7 : (dv == 7) = false := beq_eq_false_iff_ne.2 (by omega)
  clear hI hX hN hM hF hn hR hL ht hd
  go_enter Try.func53, Try.ntmps53
  go_wp2_with fail
  rw [HI.out.2.1]
  refine wp_region_M (fun _ => True) (fun k => [7].contains k) (fun k => [7].contains k) (by kernel_rfl) ?_
  ((try dsimp only); (try simp only [Act.put, List.setIfInBounds_toArray, List.set_cons_zero, List.set_cons_succ]))
  refine M_pure (i := 0) (v := ?_) rfl (by kernel_rfl) (by kernel_rfl) (by kernel_rfl) (fun _ _ _ h => h) (by rfl) ?hy ?_; (case hy => (intro w; go_simp; with_reducible rfl)); ((try dsimp only); (try simp only [Act.put, List.setIfInBounds_toArray, List.set_cons_zero, List.set_cons_succ]))
  refine M_pure (i := 1) (v := ?_) rfl (by kernel_rfl) (by kernel_rfl) (by kernel_rfl) (fun _ _ _ h => h) (by rfl) ?hy ?_; (case hy => (intro w; go_simp; with_reducible rfl)); ((try dsimp only); (try simp only [Act.put, List.setIfInBounds_toArray, List.set_cons_zero, List.set_cons_succ]))
  refine M_pure (i := 2) (v := ?_) rfl (by kernel_rfl) (by kernel_rfl) (by kernel_rfl) (fun _ _ _ h => h) (by rfl) ?hy ?_; (case hy => (intro w; go_simp; with_reducible rfl)); ((try dsimp only); (try simp only [Act.put, List.setIfInBounds_toArray, List.set_cons_zero, List.set_cons_succ]))
  refine M_pure (i := 3) (v := ?_) rfl (by kernel_rfl) (by kernel_rfl) (by kernel_rfl) (fun _ _ _ h => h) (by rfl) ?hy ?_; (case hy => (intro w; go_simp; with_reducible rfl)); ((try dsimp only); (try simp only [Act.put, List.setIfInBounds_toArray, List.set_cons_zero, List.set_cons_succ]))
  refine M_take (i := 4) (v := ?_) rfl (by kernel_rfl) (by kernel_rfl) (by kernel_rfl) (by kernel_rfl) (fun _ _ _ h => h) (by rfl) ?hy ?_; (case hy => (go_simp; with_reducible rfl)); ((try dsimp only); (try simp only [Act.put, List.setIfInBounds_toArray, List.set_cons_zero, List.set_cons_succ]))
  refine M_pure (i := 5) (v := ?_) rfl (by kernel_rfl) (by kernel_rfl) (by kernel_rfl) (fun _ _ _ h => h) (by rfl) ?hy ?_; (case hy => (intro w; go_simp; with_reducible rfl)); ((try dsimp only); (try simp only [Act.put, List.setIfInBounds_toArray, List.set_cons_zero, List.set_cons_succ]))
  refine M_take (i := 6) (v := ?_) rfl (by kernel_rfl) (by kernel_rfl) (by kernel_rfl) (by kernel_rfl) (fun _ _ _ h => h) (by rfl) ?hy ?_; (case hy => (go_simp; with_reducible rfl)); ((try dsimp only); (try simp only [Act.put, List.setIfInBounds_toArray, List.set_cons_zero, List.set_cons_succ]))
  refine M_brk (i := 7) rfl (by kernel_rfl) (by rfl) (by rfl) ?_
  go_wp2_with (go_at_call 54; refine HI.out.2.2.mono ?_; rintro e Y ⟨rfl, hY⟩; have HY := Lib.hid (HI.out.1.nets.step ((Chg.refl [] X).drew.trans hY)).bare; clear hY)
  ((try dsimp only [EffQ]); (try simp only [Act.put, List.setIfInBounds_toArray, List.set_cons_zero, List.set_cons_succ]))
  refine M_pure (i := 8) (v := ?_) rfl (by kernel_rfl) (by kernel_rfl) (by kernel_rfl) (fun _ _ _ h => h) (by rfl) ?hy ?_; (case hy => (intro w; go_simp; with_reducible rfl)); ((try dsimp only); (try simp only [Act.put, List.setIfInBounds_toArray, List.set_cons_zero, List.set_cons_succ]))
  refine M_done (by kernel_rfl) ?_ _
  go_wp2_with fail
  go_ret
  exact ⟨rfl, _, HY.out⟩
theorem step_any (w0 w : World) (g r : Nat) (l : List (Msg × Bool)) (dv kv : Int) (m : Msg) (A : Option Addr) (c : Nat) (B : Option Addr) (d : Nat) (hN : Nets w0 w g r l) (hM : MsgC (fun b => b < w0.heap.size) w m A c B d) (hF : m.Fit) :
    Calls Try.prog 53 #[.pointer (some ⟨g, 0, none⟩), .pointer (some ⟨r, 0, none⟩), .agg #[.int .i64 dv, .int .i64 kv, .int .i8 (Msg.kind m), .int .i64 (Msg.frm m), .int .i64 (Msg.to m), .int .i64 (Msg.boot m), .int .i64 (Msg.server m), .int .i64 (Msg.number m), .int .i64 (Msg.node m), .int .i64 (Msg.lease m), .int .i64 (Msg.epoch m), .int .i64 (Msg.version m), .int .i64 (Msg.e m), .slice B (Msg.steps m).length d, .int .i64 (Msg.tree m).id, .int .i64 (Msg.tree m).kind, .string (Msg.tree m).text, .slice A (Msg.tree m).kids.length c]] w (StepPost w0 g r) := by
  by_cases h : 0 ≤ dv ∧ dv ≤ 7
  · have : dv = 0 ∨ dv = 1 ∨ dv = 2 ∨ dv = 3 ∨ dv = 4 ∨ dv = 5 ∨ dv = 6 ∨ dv = 7 := by omega
    rcases this with rfl | rfl | rfl | rfl | rfl | rfl | rfl | rfl
    · exact step0_any w0 w g r l kv m A c B d hN hM hF
    · exact step1_any w0 w g r l kv m A c B d hN hM hF
    · exact step2_any w0 w g r l kv m A c B d hN hM hF
    · exact step3_any w0 w g r l kv m A c B d hN hM hF
    · exact step4_any w0 w g r l kv m A c B d hN hM hF
    · exact step5_any w0 w g r l kv m A c B d hN hM hF
    · exact step6_any w0 w g r l kv m A c B d hN hM hF
    · exact step7_any w0 w g r l kv m A c B d hN hM hF
  · exact step8_any w0 w g r l dv kv m A c B d h hN hM hF
end Go.Proofs.Ytipijkpjmpejlaa
