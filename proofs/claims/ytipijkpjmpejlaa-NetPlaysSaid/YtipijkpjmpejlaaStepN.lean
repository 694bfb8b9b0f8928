import Derived.Test.YtipijkpjmpejlaaNetY
/- The contract of the law's step: both nets do as the act says, and answer the same. -/
set_option linter.unusedVariables false
set_option linter.unusedSimpArgs false
namespace Go.Proofs.Ytipijkpjmpejlaa
open Go.RowKit
def StepPost (w0 : World) (g r : Nat) (e : Ending) (w' : World) : Prop := e = .returned (.bool true) ∧ ∃ l, Nets w0 w' g r l
def holdCode (l : List (Msg × Bool)) (k : Int) : Int := if 0 ≤ k ∧ k < l.length then 0 else 4
theorem hold_c (w : World) (g : Nat) (l : List (Msg × Bool)) (N : Nat → Prop) (h : NetV w g l N) (k : Int) : Calls Try.prog 48 #[.pointer (some ⟨g, 0, none⟩), .int .i64 k] w fun e w' => e = .returned (.int .i64 (holdCode l k)) ∧ NetPost g (holdL l k) N w w' := hold_any w g l N h k
theorem rhold_c (w : World) (r : Nat) (l : List (Msg × Bool)) (M : Nat → Prop) (h : RNetV w r l M) (k : Int) : Calls Try.prog 90 #[.pointer (some ⟨r, 0, none⟩), .int .i64 k] w fun e w' => e = .returned (.int .i64 (holdCode l k)) ∧ RNetPost r (holdL l k) M w w' := rhold_any w r l M h k
/-- The facts that each branch begins with. -/
structure StpIn (w0 w W : World) (g r : Nat) (l : List (Msg × Bool)) (M : Nat → Prop) (dv kv : Int) (m : Msg) (A : Option Addr) (c : Nat) (B : Option Addr) (d : Nat) : Prop where
  nets : NetsM w0 W g r l l [w.heap.size] M
  box : W.heap[w.heap.size]? = some (.cells #[.int .i64 dv, .int .i64 kv, .int .i8 (Msg.kind m), .int .i64 (Msg.frm m), .int .i64 (Msg.to m), .int .i64 (Msg.boot m), .int .i64 (Msg.server m), .int .i64 (Msg.number m), .int .i64 (Msg.node m), .int .i64 (Msg.lease m), .int .i64 (Msg.epoch m), .int .i64 (Msg.version m), .int .i64 (Msg.e m), .slice B (Msg.steps m).length d, .int .i64 (Msg.tree m).id, .int .i64 (Msg.tree m).kind, .string (Msg.tree m).text, .slice A (Msg.tree m).kids.length c] 87 (0, 0))
  msg : MsgC (fun b => b < w0.heap.size) W m A c B d
  fit : m.Fit
theorem stp_in {w0 w : World} {g r : Nat} {l : List (Msg × Bool)} {dv kv : Int} {m : Msg} {A : Option Addr} {c : Nat} {B : Option Addr} {d : Nat} (hN : Nets w0 w g r l) (hM : MsgC (fun b => b < w0.heap.size) w m A c B d) (hF : m.Fit) :
    ∃ M, StpIn w0 w (w.alloc (.cells #[.int .i64 dv, .int .i64 kv, .int .i8 (Msg.kind m), .int .i64 (Msg.frm m), .int .i64 (Msg.to m), .int .i64 (Msg.boot m), .int .i64 (Msg.server m), .int .i64 (Msg.number m), .int .i64 (Msg.node m), .int .i64 (Msg.lease m), .int .i64 (Msg.epoch m), .int .i64 (Msg.version m), .int .i64 (Msg.e m), .slice B (Msg.steps m).length d, .int .i64 (Msg.tree m).id, .int .i64 (Msg.tree m).kind, .string (Msg.tree m).text, .slice A (Msg.tree m).kids.length c] 87)) g r l M dv kv m A c B d := by
  obtain ⟨M, h⟩ := hN
  exact ⟨M, h.more ((Chg.refl [] w).alloc _) (Nat.le_refl _) (by simp), heap_new _ _ rfl, hM.kept ((Chg.refl [] w).alloc _) (by simp), hF⟩
set_option maxHeartbeats 4000000 in
set_option maxRecDepth 100000 in
theorem step0_any (w0 w : World) (g r : Nat) (l : List (Msg × Bool)) (kv : Int) (m : Msg) (A : Option Addr) (c : Nat) (B : Option Addr) (d : Nat) (hN : Nets w0 w g r l) (hM : MsgC (fun b => b < w0.heap.size) w m A c B d) (hF : m.Fit) :
    Calls Try.prog 53 #[.pointer (some ⟨g, 0, none⟩), .pointer (some ⟨r, 0, none⟩), .agg #[.int .i64 0, .int .i64 kv, .int .i8 (Msg.kind m), .int .i64 (Msg.frm m), .int .i64 (Msg.to m), .int .i64 (Msg.boot m), .int .i64 (Msg.server m), .int .i64 (Msg.number m), .int .i64 (Msg.node m), .int .i64 (Msg.lease m), .int .i64 (Msg.epoch m), .int .i64 (Msg.version m), .int .i64 (Msg.e m), .slice B (Msg.steps m).length d, .int .i64 (Msg.tree m).id, .int .i64 (Msg.tree m).kind, .string (Msg.tree m).text, .slice A (Msg.tree m).kids.length c]] w (StepPost w0 g r) := by
  obtain ⟨M, hI⟩ := stp_in (dv := 0) (kv := kv) hN hM hF
  obtain ⟨X, hX⟩ : ∃ X, X = w.alloc (.cells #[.int .i64 0, .int .i64 kv, .int .i8 (Msg.kind m), .int .i64 (Msg.frm m), .int .i64 (Msg.to m), .int .i64 (Msg.boot m), .int .i64 (Msg.server m), .int .i64 (Msg.number m), .int .i64 (Msg.node m), .int .i64 (Msg.lease m), .int .i64 (Msg.epoch m), .int .i64 (Msg.version m), .int .i64 (Msg.e m), .slice B (Msg.steps m).length d, .int .i64 (Msg.tree m).id, .int .i64 (Msg.tree m).kind, .string (Msg.tree m).text, .slice A (Msg.tree m).kids.length c] 87) := ⟨_, rfl⟩
  rw [← hX] at hI
  have hw0 : w0.heap.size ≤ X.heap.size := hI.nets.chg.size
  have HI := Lib.hid (And.intro hI (And.intro (Eq.symm hX) hw0))
  clear hI hX hN hM hF hw0
  go_enter Try.func53, Try.ntmps53
  go_wp2_with fail
  rw [HI.out.2.1]
  obtain ⟨N, hN, hact⟩ := (HI.out.1.nets.step (Chg.refl [] X).drew).act1
  have hs := send_any X.drew g l N hN m A c B d ((HI.out.1.msg.kept (Chg.refl [] X).drew (by simp)).weak (fun b hb _ => by have := HI.out.2.2; simp; omega)) HI.out.1.fit
  have hr0 : X.drew.rangeAt w.heap.size 2 (#[.int .i8 (Msg.kind m), .int .i64 (Msg.frm m), .int .i64 (Msg.to m), .int .i64 (Msg.boot m), .int .i64 (Msg.server m), .int .i64 (Msg.number m), .int .i64 (Msg.node m), .int .i64 (Msg.lease m), .int .i64 (Msg.epoch m), .int .i64 (Msg.version m), .int .i64 (Msg.e m), .slice B (Msg.steps m).length d, .int .i64 (Msg.tree m).id, .int .i64 (Msg.tree m).kind, .string (Msg.tree m).text, .slice A (Msg.tree m).kids.length c] : Array Value).toList := range_of_block (cs := (#[.int .i64 0, .int .i64 kv, .int .i8 (Msg.kind m), .int .i64 (Msg.frm m), .int .i64 (Msg.to m), .int .i64 (Msg.boot m), .int .i64 (Msg.server m), .int .i64 (Msg.number m), .int .i64 (Msg.node m), .int .i64 (Msg.lease m), .int .i64 (Msg.epoch m), .int .i64 (Msg.version m), .int .i64 (Msg.e m), .slice B (Msg.steps m).length d, .int .i64 (Msg.tree m).id, .int .i64 (Msg.tree m).kind, .string (Msg.tree m).text, .slice A (Msg.tree m).kids.length c] : Array Value).toList) HI.out.1.box 2 16
  have HS := Lib.hid (And.intro hs (And.intro hact hr0))
  clear hs hact hN
  refine wp_region_M (fun W => W.rangeAt w.heap.size 2 (#[.int .i8 (Msg.kind m), .int .i64 (Msg.frm m), .int .i64 (Msg.to m), .int .i64 (Msg.boot m), .int .i64 (Msg.server m), .int .i64 (Msg.number m), .int .i64 (Msg.node m), .int .i64 (Msg.lease m), .int .i64 (Msg.epoch m), .int .i64 (Msg.version m), .int .i64 (Msg.e m), .slice B (Msg.steps m).length d, .int .i64 (Msg.tree m).id, .int .i64 (Msg.tree m).kind, .string (Msg.tree m).text, .slice A (Msg.tree m).kids.length c] : Array Value).toList) (fun k => [3, 7].contains k) (fun k => [7].contains k) (by kernel_rfl) ?_
  ((try dsimp only); (try simp only [Act.put, List.setIfInBounds_toArray, List.set_cons_zero, List.set_cons_succ]))
  refine M_pure (i := 0) (v := ?_) rfl (by kernel_rfl) (by kernel_rfl) (by kernel_rfl) (fun _ _ _ h => h) (by rfl) ?hy ?_; (case hy => (intro w; go_simp; with_reducible rfl)); ((try dsimp only); (try simp only [Act.put, List.setIfInBounds_toArray, List.set_cons_zero, List.set_cons_succ]))
  refine M_pure (i := 1) (v := ?_) rfl (by kernel_rfl) (by kernel_rfl) (by kernel_rfl) (fun _ _ _ h => h) (by rfl) ?hy ?_; (case hy => (intro w; go_simp; with_reducible rfl)); ((try dsimp only); (try simp only [Act.put, List.setIfInBounds_toArray, List.set_cons_zero, List.set_cons_succ]))
  refine M_take (i := 2) rfl (by kernel_rfl) (by kernel_rfl) (by kernel_rfl) (by kernel_rfl) (fun _ _ _ h => h) (by rfl) (exec_load_mid 39 (.tmp 26) rfl w.heap.size 2 rfl _ _ (w := X.drew) HS.out.2.2 Try.underlying39 rfl infoMsg) ?_; ((try dsimp only); (try simp only [Act.put, List.setIfInBounds_toArray, List.set_cons_zero, List.set_cons_succ]))
  refine M_pure (i := 4) (v := ?_) rfl (by kernel_rfl) (by kernel_rfl) (by kernel_rfl) (fun _ _ _ h => h) (by rfl) ?hy ?_; (case hy => (intro w; go_simp; with_reducible rfl)); ((try dsimp only); (try simp only [Act.put, List.setIfInBounds_toArray, List.set_cons_zero, List.set_cons_succ]))
  refine M_pure (i := 5) (v := ?_) rfl (by kernel_rfl) (by kernel_rfl) (by kernel_rfl) (fun _ _ _ h => h) (by rfl) ?hy ?_; (case hy => (intro w; go_simp; with_reducible rfl)); ((try dsimp only); (try simp only [Act.put, List.setIfInBounds_toArray, List.set_cons_zero, List.set_cons_succ]))
  refine M_semi (i := 6) rfl (by kernel_rfl) (by kernel_rfl) (by kernel_rfl) (by kernel_rfl) (fun _ _ _ h => h) (by rfl) hr0 (fun W hS => exec_load_mid 39 (.tmp 30) rfl w.heap.size 2 rfl _ _ hS Try.underlying39 rfl infoMsg) ?_; ((try dsimp only); (try simp only [Act.put, List.setIfInBounds_toArray, List.set_cons_zero, List.set_cons_succ]))
  refine M_eff (i := 3) rfl (by kernel_rfl) (by rfl) ?_
  go_wp2_with fail
  refine HS.out.1.mono ?_
  rintro e Y ⟨rfl, hP⟩
  obtain ⟨hNY, hA⟩ := HS.out.2.1 _ _ hP
  have hbY := hA.at (show X.drew.heap[w.heap.size]? = _ from HI.out.1.box) (.inl (by simp))
  have hmY := hA.msg (HI.out.1.msg.kept (Chg.refl [] X).drew (by simp)) (fun b hb => .inl hb)
  obtain ⟨hR, hact2⟩ := hNY.act2
  have hs2 := rsend_any Y r l M hR m A c B d (hmY.weak (fun b hb _ => by have := HI.out.2.2; have := hA.size; simp at this; omega)) HI.out.1.fit
  have hrY : Y.rangeAt w.heap.size 2 (#[.int .i8 (Msg.kind m), .int .i64 (Msg.frm m), .int .i64 (Msg.to m), .int .i64 (Msg.boot m), .int .i64 (Msg.server m), .int .i64 (Msg.number m), .int .i64 (Msg.node m), .int .i64 (Msg.lease m), .int .i64 (Msg.epoch m), .int .i64 (Msg.version m), .int .i64 (Msg.e m), .slice B (Msg.steps m).length d, .int .i64 (Msg.tree m).id, .int .i64 (Msg.tree m).kind, .string (Msg.tree m).text, .slice A (Msg.tree m).kids.length c] : Array Value).toList := range_of_block (cs := (#[.int .i64 0, .int .i64 kv, .int .i8 (Msg.kind m), .int .i64 (Msg.frm m), .int .i64 (Msg.to m), .int .i64 (Msg.boot m), .int .i64 (Msg.server m), .int .i64 (Msg.number m), .int .i64 (Msg.node m), .int .i64 (Msg.lease m), .int .i64 (Msg.epoch m), .int .i64 (Msg.version m), .int .i64 (Msg.e m), .slice B (Msg.steps m).length d, .int .i64 (Msg.tree m).id, .int .i64 (Msg.tree m).kind, .string (Msg.tree m).text, .slice A (Msg.tree m).kids.length c] : Array Value).toList) hbY 2 16
  have HY := Lib.hid (And.intro hs2 hact2)
  clear hP hNY hA hbY hmY hR hact2 hs2 hr0
  go_wp2_with fail
  refine ⟨hrY, ?_⟩
  clear hrY
  ((try dsimp only); (try simp only [Act.put, List.setIfInBounds_toArray, List.set_cons_zero, List.set_cons_succ]))
  refine M_brk (i := 7) rfl (by kernel_rfl) (by rfl) (by rfl) ?_
  go_wp2_with (go_at_call 86; refine HY.out.1.mono ?_; rintro e Z ⟨rfl, hP⟩; obtain ⟨⟨M', hNZ⟩, -⟩ := HY.out.2 _ _ hP; have HZ := Lib.hid hNZ.bare; clear hP hNZ)
  ((try dsimp only [EffQ]); (try simp only [Act.put, List.setIfInBounds_toArray, List.set_cons_zero, List.set_cons_succ]))
  refine M_pure (i := 8) (v := ?_) rfl (by kernel_rfl) (by kernel_rfl) (by kernel_rfl) (fun _ _ _ h => h) (by rfl) ?hy ?_; (case hy => (intro w; go_simp; with_reducible rfl)); ((try dsimp only); (try simp only [Act.put, List.setIfInBounds_toArray, List.set_cons_zero, List.set_cons_succ]))
  refine M_pure (i := 9) (v := ?_) rfl (by kernel_rfl) (by kernel_rfl) (by kernel_rfl) (fun _ _ _ h => h) (by rfl) ?hy ?_; (case hy => (intro w; go_simp; with_reducible rfl)); ((try dsimp only); (try simp only [Act.put, List.setIfInBounds_toArray, List.set_cons_zero, List.set_cons_succ]))
  refine M_done (by kernel_rfl) ?_ _
  go_wp2_with fail
  go_ret
  exact ⟨rfl, _, HZ.out⟩
set_option maxHeartbeats 4000000 in
set_option maxRecDepth 100000 in
theorem step2_any (w0 w : World) (g r : Nat) (l : List (Msg × Bool)) (kv : Int) (m : Msg) (A : Option Addr) (c : Nat) (B : Option Addr) (d : Nat) (hN : Nets w0 w g r l) (hM : MsgC (fun b => b < w0.heap.size) w m A c B d) (hF : m.Fit) :
    Calls Try.prog 53 #[.pointer (some ⟨g, 0, none⟩), .pointer (some ⟨r, 0, none⟩), .agg #[.int .i64 2, .int .i64 kv, .int .i8 (Msg.kind m), .int .i64 (Msg.frm m), .int .i64 (Msg.to m), .int .i64 (Msg.boot m), .int .i64 (Msg.server m), .int .i64 (Msg.number m), .int .i64 (Msg.node m), .int .i64 (Msg.lease m), .int .i64 (Msg.epoch m), .int .i64 (Msg.version m), .int .i64 (Msg.e m), .slice B (Msg.steps m).length d, .int .i64 (Msg.tree m).id, .int .i64 (Msg.tree m).kind, .string (Msg.tree m).text, .slice A (Msg.tree m).kids.length c]] w (StepPost w0 g r) := by
  obtain ⟨M, hI⟩ := stp_in (dv := 2) (kv := kv) hN hM hF
  obtain ⟨X, hX⟩ : ∃ X, X = w.alloc (.cells #[.int .i64 2, .int .i64 kv, .int .i8 (Msg.kind m), .int .i64 (Msg.frm m), .int .i64 (Msg.to m), .int .i64 (Msg.boot m), .int .i64 (Msg.server m), .int .i64 (Msg.number m), .int .i64 (Msg.node m), .int .i64 (Msg.lease m), .int .i64 (Msg.epoch m), .int .i64 (Msg.version m), .int .i64 (Msg.e m), .slice B (Msg.steps m).length d, .int .i64 (Msg.tree m).id, .int .i64 (Msg.tree m).kind, .string (Msg.tree m).text, .slice A (Msg.tree m).kids.length c] 87) := ⟨_, rfl⟩
  rw [← hX] at hI
  have HI := Lib.hid (And.intro hI (Eq.symm hX))
  clear hI hX hN hM hF
  go_enter Try.func53, Try.ntmps53
  go_wp2_with fail
  rw [HI.out.2]
  obtain ⟨N, hN, hact⟩ := (HI.out.1.nets.step (Chg.refl [] X).drew).act1
  have hs := double_any X.drew g l N hN kv
  have k0 : X.cell? ⟨w.heap.size, 1, none⟩ = some (.int .i64 kv) := range_all HI.out.1.box 1 _ rfl
  have HS := Lib.hid (And.intro hs hact)
  clear hs hact hN
  refine wp_region_M (fun W => W.cell? ⟨w.heap.size, 1, none⟩ = some (.int .i64 kv)) (fun k => [3, 7].contains k) (fun k => [7].contains k) (by kernel_rfl) ?_
  ((try dsimp only); (try simp only [Act.put, List.setIfInBounds_toArray, List.set_cons_zero, List.set_cons_succ]))
  refine M_pure (i := 0) (v := ?_) rfl (by kernel_rfl) (by kernel_rfl) (by kernel_rfl) (fun _ _ _ h => h) (by rfl) ?hy ?_; (case hy => (intro w; go_simp; with_reducible rfl)); ((try dsimp only); (try simp only [Act.put, List.setIfInBounds_toArray, List.set_cons_zero, List.set_cons_succ]))
  refine M_pure (i := 1) (v := ?_) rfl (by kernel_rfl) (by kernel_rfl) (by kernel_rfl) (fun _ _ _ h => h) (by rfl) ?hy ?_; (case hy => (intro w; go_simp; with_reducible rfl)); ((try dsimp only); (try simp only [Act.put, List.setIfInBounds_toArray, List.set_cons_zero, List.set_cons_succ]))
  refine M_take (i := 2) (v := ?_) rfl (by kernel_rfl) (by kernel_rfl) (by kernel_rfl) (by kernel_rfl) (fun _ _ _ h => h) (by rfl) ?hy ?_; (case hy => (go_simp; with_reducible rfl)); ((try dsimp only); (try simp only [Act.put, List.setIfInBounds_toArray, List.set_cons_zero, List.set_cons_succ]))
  refine M_pure (i := 4) (v := ?_) rfl (by kernel_rfl) (by kernel_rfl) (by kernel_rfl) (fun _ _ _ h => h) (by rfl) ?hy ?_; (case hy => (intro w; go_simp; with_reducible rfl)); ((try dsimp only); (try simp only [Act.put, List.setIfInBounds_toArray, List.set_cons_zero, List.set_cons_succ]))
  refine M_pure (i := 5) (v := ?_) rfl (by kernel_rfl) (by kernel_rfl) (by kernel_rfl) (fun _ _ _ h => h) (by rfl) ?hy ?_; (case hy => (intro w; go_simp; with_reducible rfl)); ((try dsimp only); (try simp only [Act.put, List.setIfInBounds_toArray, List.set_cons_zero, List.set_cons_succ]))
  refine M_semi (i := 6) (v := ?_) rfl (by kernel_rfl) (by kernel_rfl) (by kernel_rfl) (by kernel_rfl) (fun _ _ _ h => h) (by rfl) k0 ?hy ?_; (case hy => (intro w hS; go_simp; with_reducible rfl)); ((try dsimp only); (try simp only [Act.put, List.setIfInBounds_toArray, List.set_cons_zero, List.set_cons_succ]))
  refine M_eff (i := 3) rfl (by kernel_rfl) (by rfl) ?_
  go_wp2_with fail
  refine HS.out.1.mono ?_
  rintro e Y ⟨rfl, hP⟩
  obtain ⟨hNY, hA⟩ := HS.out.2 _ _ hP
  have hbY := hA.at (show X.drew.heap[w.heap.size]? = _ from HI.out.1.box) (.inl (by simp))
  obtain ⟨hR, hact2⟩ := hNY.act2
  have hs2 := rdouble_any Y r l M hR kv
  have kY : Y.cell? ⟨w.heap.size, 1, none⟩ = some (.int .i64 kv) := range_all hbY 1 _ rfl
  have HY := Lib.hid (And.intro hs2 hact2)
  clear hP hNY hA hbY hR hact2 hs2 k0
  go_wp2_with fail
  refine ⟨kY, ?_⟩
  clear kY
  ((try dsimp only); (try simp only [Act.put, List.setIfInBounds_toArray, List.set_cons_zero, List.set_cons_succ]))
  refine M_brk (i := 7) rfl (by kernel_rfl) (by rfl) (by rfl) ?_
  go_wp2_with (go_at_call 89; refine HY.out.1.mono ?_; rintro e Z ⟨rfl, hP⟩; obtain ⟨⟨M', hNZ⟩, -⟩ := HY.out.2 _ _ hP; have HZ := Lib.hid hNZ.bare; clear hP hNZ)
  ((try dsimp only [EffQ]); (try simp only [Act.put, List.setIfInBounds_toArray, List.set_cons_zero, List.set_cons_succ]))
  refine M_pure (i := 8) (v := ?_) rfl (by kernel_rfl) (by kernel_rfl) (by kernel_rfl) (fun _ _ _ h => h) (by rfl) ?hy ?_; (case hy => (intro w; go_simp; with_reducible rfl)); ((try dsimp only); (try simp only [Act.put, List.setIfInBounds_toArray, List.set_cons_zero, List.set_cons_succ]))
  refine M_pure (i := 9) (v := ?_) rfl (by kernel_rfl) (by kernel_rfl) (by kernel_rfl) (fun _ _ _ h => h) (by rfl) ?hy ?_; (case hy => (intro w; go_simp; with_reducible rfl)); ((try dsimp only); (try simp only [Act.put, List.setIfInBounds_toArray, List.set_cons_zero, List.set_cons_succ]))
  refine M_done (by kernel_rfl) ?_ _
  go_wp2_with fail
  go_ret
  exact ⟨rfl, _, HZ.out⟩
set_option maxHeartbeats 4000000 in
set_option maxRecDepth 100000 in
theorem step3_any (w0 w : World) (g r : Nat) (l : List (Msg × Bool)) (kv : Int) (m : Msg) (A : Option Addr) (c : Nat) (B : Option Addr) (d : Nat) (hN : Nets w0 w g r l) (hM : MsgC (fun b => b < w0.heap.size) w m A c B d) (hF : m.Fit) :
    Calls Try.prog 53 #[.pointer (some ⟨g, 0, none⟩), .pointer (some ⟨r, 0, none⟩), .agg #[.int .i64 3, .int .i64 kv, .int .i8 (Msg.kind m), .int .i64 (Msg.frm m), .int .i64 (Msg.to m), .int .i64 (Msg.boot m), .int .i64 (Msg.server m), .int .i64 (Msg.number m), .int .i64 (Msg.node m), .int .i64 (Msg.lease m), .int .i64 (Msg.epoch m), .int .i64 (Msg.version m), .int .i64 (Msg.e m), .slice B (Msg.steps m).length d, .int .i64 (Msg.tree m).id, .int .i64 (Msg.tree m).kind, .string (Msg.tree m).text, .slice A (Msg.tree m).kids.length c]] w (StepPost w0 g r) := by
  obtain ⟨M, hI⟩ := stp_in (dv := 3) (kv := kv) hN hM hF
  obtain ⟨X, hX⟩ : ∃ X, X = w.alloc (.cells #[.int .i64 3, .int .i64 kv, .int .i8 (Msg.kind m), .int .i64 (Msg.frm m), .int .i64 (Msg.to m), .int .i64 (Msg.boot m), .int .i64 (Msg.server m), .int .i64 (Msg.number m), .int .i64 (Msg.node m), .int .i64 (Msg.lease m), .int .i64 (Msg.epoch m), .int .i64 (Msg.version m), .int .i64 (Msg.e m), .slice B (Msg.steps m).length d, .int .i64 (Msg.tree m).id, .int .i64 (Msg.tree m).kind, .string (Msg.tree m).text, .slice A (Msg.tree m).kids.length c] 87) := ⟨_, rfl⟩
  rw [← hX] at hI
  have HI := Lib.hid (And.intro hI (Eq.symm hX))
  clear hI hX hN hM hF
  go_enter Try.func53, Try.ntmps53
  go_wp2_with fail
  rw [HI.out.2]
  obtain ⟨N, hN, hact⟩ := (HI.out.1.nets.step (Chg.refl [] X).drew).act1
  have hs := hold_c X.drew g l N hN kv
  have k0 : X.cell? ⟨w.heap.size, 1, none⟩ = some (.int .i64 kv) := range_all HI.out.1.box 1 _ rfl
  have HS := Lib.hid (And.intro hs hact)
  clear hs hact hN
  refine wp_region_M (fun W => W.cell? ⟨w.heap.size, 1, none⟩ = some (.int .i64 kv)) (fun k => [3, 7].contains k) (fun k => [7].contains k) (by kernel_rfl) ?_
  ((try dsimp only); (try simp only [Act.put, List.setIfInBounds_toArray, List.set_cons_zero, List.set_cons_succ]))
  refine M_pure (i := 0) (v := ?_) rfl (by kernel_rfl) (by kernel_rfl) (by kernel_rfl) (fun _ _ _ h => h) (by rfl) ?hy ?_; (case hy => (intro w; go_simp; with_reducible rfl)); ((try dsimp only); (try simp only [Act.put, List.setIfInBounds_toArray, List.set_cons_zero, List.set_cons_succ]))
  refine M_pure (i := 1) (v := ?_) rfl (by kernel_rfl) (by kernel_rfl) (by kernel_rfl) (fun _ _ _ h => h) (by rfl) ?hy ?_; (case hy => (intro w; go_simp; with_reducible rfl)); ((try dsimp only); (try simp only [Act.put, List.setIfInBounds_toArray, List.set_cons_zero, List.set_cons_succ]))
  refine M_take (i := 2) (v := ?_) rfl (by kernel_rfl) (by kernel_rfl) (by kernel_rfl) (by kernel_rfl) (fun _ _ _ h => h) (by rfl) ?hy ?_; (case hy => (go_simp; with_reducible rfl)); ((try dsimp only); (try simp only [Act.put, List.setIfInBounds_toArray, List.set_cons_zero, List.set_cons_succ]))
  refine M_pure (i := 4) (v := ?_) rfl (by kernel_rfl) (by kernel_rfl) (by kernel_rfl) (fun _ _ _ h => h) (by rfl) ?hy ?_; (case hy => (intro w; go_simp; with_reducible rfl)); ((try dsimp only); (try simp only [Act.put, List.setIfInBounds_toArray, List.set_cons_zero, List.set_cons_succ]))
  refine M_pure (i := 5) (v := ?_) rfl (by kernel_rfl) (by kernel_rfl) (by kernel_rfl) (fun _ _ _ h => h) (by rfl) ?hy ?_; (case hy => (intro w; go_simp; with_reducible rfl)); ((try dsimp only); (try simp only [Act.put, List.setIfInBounds_toArray, List.set_cons_zero, List.set_cons_succ]))
  refine M_semi (i := 6) (v := ?_) rfl (by kernel_rfl) (by kernel_rfl) (by kernel_rfl) (by kernel_rfl) (fun _ _ _ h => h) (by rfl) k0 ?hy ?_; (case hy => (intro w hS; go_simp; with_reducible rfl)); ((try dsimp only); (try simp only [Act.put, List.setIfInBounds_toArray, List.set_cons_zero, List.set_cons_succ]))
  refine M_eff (i := 3) rfl (by kernel_rfl) (by rfl) ?_
  go_wp2_with fail
  refine HS.out.1.mono ?_
  rintro e Y ⟨rfl, hP⟩
  obtain ⟨hNY, hA⟩ := HS.out.2 _ _ hP
  have hbY := hA.at (show X.drew.heap[w.heap.size]? = _ from HI.out.1.box) (.inl (by simp))
  obtain ⟨hR, hact2⟩ := hNY.act2
  have hs2 := rhold_c Y r l M hR kv
  have kY : Y.cell? ⟨w.heap.size, 1, none⟩ = some (.int .i64 kv) := range_all hbY 1 _ rfl
  have HY := Lib.hid (And.intro hs2 hact2)
  clear hP hNY hA hbY hR hact2 hs2 k0
  go_wp2_with fail
  refine ⟨kY, ?_⟩
  clear kY
  ((try dsimp only); (try simp only [Act.put, List.setIfInBounds_toArray, List.set_cons_zero, List.set_cons_succ]))
  refine M_brk (i := 7) rfl (by kernel_rfl) (by rfl) (by rfl) ?_
  go_wp2_with (go_at_call 90; refine HY.out.1.mono ?_; rintro e Z ⟨rfl, hP⟩; obtain ⟨⟨M', hNZ⟩, -⟩ := HY.out.2 _ _ hP; have HZ := Lib.hid hNZ.bare; clear hP hNZ)
  ((try dsimp only [EffQ]); (try simp only [Act.put, List.setIfInBounds_toArray, List.set_cons_zero, List.set_cons_succ]))
  refine M_pure (i := 8) (v := ?_) rfl (by kernel_rfl) (by kernel_rfl) (by kernel_rfl) (fun _ _ _ h => h) (by rfl) ?hy ?_; (case hy => (intro w; go_simp; with_reducible rfl)); ((try dsimp only); (try simp only [Act.put, List.setIfInBounds_toArray, List.set_cons_zero, List.set_cons_succ]))
  refine M_pure (i := 9) (v := ?_) rfl (by kernel_rfl) (by kernel_rfl) (by kernel_rfl) (fun _ _ _ h => h) (by rfl) ?hy ?_; (case hy => (intro w; go_simp; with_reducible rfl)); ((try dsimp only); (try simp only [Act.put, List.setIfInBounds_toArray, List.set_cons_zero, List.set_cons_succ]))
  refine M_done (by kernel_rfl) ?_ _
  go_wp2_with fail
  go_ret
  exact ⟨rfl, _, HZ.out⟩
set_option maxHeartbeats 4000000 in
set_option maxRecDepth 100000 in
theorem step7_any (w0 w : World) (g r : Nat) (l : List (Msg × Bool)) (kv : Int) (m : Msg) (A : Option Addr) (c : Nat) (B : Option Addr) (d : Nat) (hN : Nets w0 w g r l) (hM : MsgC (fun b => b < w0.heap.size) w m A c B d) (hF : m.Fit) :
    Calls Try.prog 53 #[.pointer (some ⟨g, 0, none⟩), .pointer (some ⟨r, 0, none⟩), .agg #[.int .i64 7, .int .i64 kv, .int .i8 (Msg.kind m), .int .i64 (Msg.frm m), .int .i64 (Msg.to m), .int .i64 (Msg.boot m), .int .i64 (Msg.server m), .int .i64 (Msg.number m), .int .i64 (Msg.node m), .int .i64 (Msg.lease m), .int .i64 (Msg.epoch m), .int .i64 (Msg.version m), .int .i64 (Msg.e m), .slice B (Msg.steps m).length d, .int .i64 (Msg.tree m).id, .int .i64 (Msg.tree m).kind, .string (Msg.tree m).text, .slice A (Msg.tree m).kids.length c]] w (StepPost w0 g r) := by
  obtain ⟨M, hI⟩ := stp_in (dv := 7) (kv := kv) hN hM hF
  obtain ⟨X, hX⟩ : ∃ X, X = w.alloc (.cells #[.int .i64 7, .int .i64 kv, .int .i8 (Msg.kind m), .int .i64 (Msg.frm m), .int .i64 (Msg.to m), .int .i64 (Msg.boot m), .int .i64 (Msg.server m), .int .i64 (Msg.number m), .int .i64 (Msg.node m), .int .i64 (Msg.lease m), .int .i64 (Msg.epoch m), .int .i64 (Msg.version m), .int .i64 (Msg.e m), .slice B (Msg.steps m).length d, .int .i64 (Msg.tree m).id, .int .i64 (Msg.tree m).kind, .string (Msg.tree m).text, .slice A (Msg.tree m).kids.length c] 87) := ⟨_, rfl⟩
  rw [← hX] at hI
  have HI := Lib.hid (And.intro hI (Eq.symm hX))
  clear hI hX hN hM hF
  go_enter Try.func53, Try.ntmps53
  go_wp2_with fail
  rw [HI.out.2]
  obtain ⟨N, hN, hact⟩ := (HI.out.1.nets.step (Chg.refl [] X).drew).act1
  have hs := clear_any X.drew g l N hN kv
  have k0 : X.cell? ⟨w.heap.size, 1, none⟩ = some (.int .i64 kv) := range_all HI.out.1.box 1 _ rfl
  have HS := Lib.hid (And.intro hs hact)
  clear hs hact hN
  refine wp_region_M (fun W => W.cell? ⟨w.heap.size, 1, none⟩ = some (.int .i64 kv)) (fun k => [3, 7].contains k) (fun k => [7].contains k) (by kernel_rfl) ?_
  ((try dsimp only); (try simp only [Act.put, List.setIfInBounds_toArray, List.set_cons_zero, List.set_cons_succ]))
  refine M_pure (i := 0) (v := ?_) rfl (by kernel_rfl) (by kernel_rfl) (by kernel_rfl) (fun _ _ _ h => h) (by rfl) ?hy ?_; (case hy => (intro w; go_simp; with_reducible rfl)); ((try dsimp only); (try simp only [Act.put, List.setIfInBounds_toArray, List.set_cons_zero, List.set_cons_succ]))
  refine M_pure (i := 1) (v := ?_) rfl (by kernel_rfl) (by kernel_rfl) (by kernel_rfl) (fun _ _ _ h => h) (by rfl) ?hy ?_; (case hy => (intro w; go_simp; with_reducible rfl)); ((try dsimp only); (try simp only [Act.put, List.setIfInBounds_toArray, List.set_cons_zero, List.set_cons_succ]))
  refine M_take (i := 2) (v := ?_) rfl (by kernel_rfl) (by kernel_rfl) (by kernel_rfl) (by kernel_rfl) (fun _ _ _ h => h) (by rfl) ?hy ?_; (case hy => (go_simp; with_reducible rfl)); ((try dsimp only); (try simp only [Act.put, List.setIfInBounds_toArray, List.set_cons_zero, List.set_cons_succ]))
  refine M_pure (i := 4) (v := ?_) rfl (by kernel_rfl) (by kernel_rfl) (by kernel_rfl) (fun _ _ _ h => h) (by rfl) ?hy ?_; (case hy => (intro w; go_simp; with_reducible rfl)); ((try dsimp only); (try simp only [Act.put, List.setIfInBounds_toArray, List.set_cons_zero, List.set_cons_succ]))
  refine M_pure (i := 5) (v := ?_) rfl (by kernel_rfl) (by kernel_rfl) (by kernel_rfl) (fun _ _ _ h => h) (by rfl) ?hy ?_; (case hy => (intro w; go_simp; with_reducible rfl)); ((try dsimp only); (try simp only [Act.put, List.setIfInBounds_toArray, List.set_cons_zero, List.set_cons_succ]))
  refine M_semi (i := 6) (v := ?_) rfl (by kernel_rfl) (by kernel_rfl) (by kernel_rfl) (by kernel_rfl) (fun _ _ _ h => h) (by rfl) k0 ?hy ?_; (case hy => (intro w hS; go_simp; with_reducible rfl)); ((try dsimp only); (try simp only [Act.put, List.setIfInBounds_toArray, List.set_cons_zero, List.set_cons_succ]))
  refine M_eff (i := 3) rfl (by kernel_rfl) (by rfl) ?_
  go_wp2_with fail
  refine HS.out.1.mono ?_
  rintro e Y ⟨rfl, hP⟩
  obtain ⟨hNY, hA⟩ := HS.out.2 _ _ hP
  have hbY := hA.at (show X.drew.heap[w.heap.size]? = _ from HI.out.1.box) (.inl (by simp))
  obtain ⟨hR, hact2⟩ := hNY.act2
  have hs2 := rclear_any Y r l M hR kv
  have kY : Y.cell? ⟨w.heap.size, 1, none⟩ = some (.int .i64 kv) := range_all hbY 1 _ rfl
  have HY := Lib.hid (And.intro hs2 hact2)
  clear hP hNY hA hbY hR hact2 hs2 k0
  go_wp2_with fail
  refine ⟨kY, ?_⟩
  clear kY
  ((try dsimp only); (try simp only [Act.put, List.setIfInBounds_toArray, List.set_cons_zero, List.set_cons_succ]))
  refine M_brk (i := 7) rfl (by kernel_rfl) (by rfl) (by rfl) ?_
  go_wp2_with (go_at_call 94; refine HY.out.1.mono ?_; rintro e Z ⟨rfl, hP⟩; obtain ⟨⟨M', hNZ⟩, -⟩ := HY.out.2 _ _ hP; have HZ := Lib.hid hNZ.bare; clear hP hNZ)
  ((try dsimp only [EffQ]); (try simp only [Act.put, List.setIfInBounds_toArray, List.set_cons_zero, List.set_cons_succ]))
  refine M_pure (i := 8) (v := ?_) rfl (by kernel_rfl) (by kernel_rfl) (by kernel_rfl) (fun _ _ _ h => h) (by rfl) ?hy ?_; (case hy => (intro w; go_simp; with_reducible rfl)); ((try dsimp only); (try simp only [Act.put, List.setIfInBounds_toArray, List.set_cons_zero, List.set_cons_succ]))
  refine M_pure (i := 9) (v := ?_) rfl (by kernel_rfl) (by kernel_rfl) (by kernel_rfl) (fun _ _ _ h => h) (by rfl) ?hy ?_; (case hy => (intro w; go_simp; with_reducible rfl)); ((try dsimp only); (try simp only [Act.put, List.setIfInBounds_toArray, List.set_cons_zero, List.set_cons_succ]))
  refine M_done (by kernel_rfl) ?_ _
  go_wp2_with fail
  go_ret
  exact ⟨rfl, _, HZ.out⟩
theorem eq_self_bool (b : Bool) : (b == b) = true := by cases b <;> rfl
set_option maxHeartbeats 4000000 in
set_option maxRecDepth 100000 in
theorem step5_any (w0 w : World) (g r : Nat) (l : List (Msg × Bool)) (kv : Int) (m : Msg) (A : Option Addr) (c : Nat) (B : Option Addr) (d : Nat) (hN : Nets w0 w g r l) (hM : MsgC (fun b => b < w0.heap.size) w m A c B d) (hF : m.Fit) :
    Calls Try.prog 53 #[.pointer (some ⟨g, 0, none⟩), .pointer (some ⟨r, 0, none⟩), .agg #[.int .i64 5, .int .i64 kv, .int .i8 (Msg.kind m), .int .i64 (Msg.frm m), .int .i64 (Msg.to m), .int .i64 (Msg.boot m), .int .i64 (Msg.server m), .int .i64 (Msg.number m), .int .i64 (Msg.node m), .int .i64 (Msg.lease m), .int .i64 (Msg.epoch m), .int .i64 (Msg.version m), .int .i64 (Msg.e m), .slice B (Msg.steps m).length d, .int .i64 (Msg.tree m).id, .int .i64 (Msg.tree m).kind, .string (Msg.tree m).text, .slice A (Msg.tree m).kids.length c]] w (StepPost w0 g r) := by
  obtain ⟨M, hI⟩ := stp_in (dv := 5) (kv := kv) hN hM hF
  obtain ⟨X, hX⟩ : ∃ X, X = w.alloc (.cells #[.int .i64 5, .int .i64 kv, .int .i8 (Msg.kind m), .int .i64 (Msg.frm m), .int .i64 (Msg.to m), .int .i64 (Msg.boot m), .int .i64 (Msg.server m), .int .i64 (Msg.number m), .int .i64 (Msg.node m), .int .i64 (Msg.lease m), .int .i64 (Msg.epoch m), .int .i64 (Msg.version m), .int .i64 (Msg.e m), .slice B (Msg.steps m).length d, .int .i64 (Msg.tree m).id, .int .i64 (Msg.tree m).kind, .string (Msg.tree m).text, .slice A (Msg.tree m).kids.length c] 87) := ⟨_, rfl⟩
  rw [← hX] at hI
  have HI := Lib.hid (And.intro hI (Eq.symm hX))
  clear hI hX hN hM hF
  go_enter Try.func53, Try.ntmps53
  go_wp2_with fail
  rw [HI.out.2]
  obtain ⟨N, hN, hact⟩ := HI.out.1.nets.act1
  refine (free_any X g l N hN).mono ?_
  rintro e Y ⟨rfl, hP⟩
  obtain ⟨hNY, -⟩ := hact _ _ hP
  obtain ⟨hR, hact2⟩ := hNY.act2
  have HY := Lib.hid (And.intro (rfree_any Y r l M hR) hact2)
  clear hP hNY hR hact2 hN hact
  go_wp2_with fail
  refine HY.out.1.mono ?_
  rintro e Z ⟨rfl, hP⟩
  obtain ⟨⟨M', hNZ⟩, -⟩ := HY.out.2 _ _ hP
  have HZ := Lib.hid hNZ.bare
  clear hP hNZ
  go_wp2
  go_ret
  exact ⟨rfl, _, HZ.out⟩
set_option maxHeartbeats 4000000 in
set_option maxRecDepth 100000 in
theorem step6_any (w0 w : World) (g r : Nat) (l : List (Msg × Bool)) (kv : Int) (m : Msg) (A : Option Addr) (c : Nat) (B : Option Addr) (d : Nat) (hN : Nets w0 w g r l) (hM : MsgC (fun b => b < w0.heap.size) w m A c B d) (hF : m.Fit) :
    Calls Try.prog 53 #[.pointer (some ⟨g, 0, none⟩), .pointer (some ⟨r, 0, none⟩), .agg #[.int .i64 6, .int .i64 kv, .int .i8 (Msg.kind m), .int .i64 (Msg.frm m), .int .i64 (Msg.to m), .int .i64 (Msg.boot m), .int .i64 (Msg.server m), .int .i64 (Msg.number m), .int .i64 (Msg.node m), .int .i64 (Msg.lease m), .int .i64 (Msg.epoch m), .int .i64 (Msg.version m), .int .i64 (Msg.e m), .slice B (Msg.steps m).length d, .int .i64 (Msg.tree m).id, .int .i64 (Msg.tree m).kind, .string (Msg.tree m).text, .slice A (Msg.tree m).kids.length c]] w (StepPost w0 g r) := by
  obtain ⟨M, hI⟩ := stp_in (dv := 6) (kv := kv) hN hM hF
  obtain ⟨X, hX⟩ : ∃ X, X = w.alloc (.cells #[.int .i64 6, .int .i64 kv, .int .i8 (Msg.kind m), .int .i64 (Msg.frm m), .int .i64 (Msg.to m), .int .i64 (Msg.boot m), .int .i64 (Msg.server m), .int .i64 (Msg.number m), .int .i64 (Msg.node m), .int .i64 (Msg.lease m), .int .i64 (Msg.epoch m), .int .i64 (Msg.version m), .int .i64 (Msg.e m), .slice B (Msg.steps m).length d, .int .i64 (Msg.tree m).id, .int .i64 (Msg.tree m).kind, .string (Msg.tree m).text, .slice A (Msg.tree m).kids.length c] 87) := ⟨_, rfl⟩
  rw [← hX] at hI
  have HI := Lib.hid (And.intro hI (Eq.symm hX))
  clear hI hX hN hM hF
  go_enter Try.func53, Try.ntmps53
  go_wp2_with fail
  rw [HI.out.2]
  obtain ⟨N, hN, hact⟩ := HI.out.1.nets.act1
  refine (first_any X g l N hN).mono ?_
  rintro e Y ⟨rfl, hc⟩
  have hNY := HI.out.1.nets.step hc
  obtain ⟨hR, hact2⟩ := hNY.act2
  have HY := Lib.hid (And.intro (rfirst_any Y r l M hR) hNY)
  clear hc hNY hR hact2 hN hact
  generalize (firstAt l 0).1 = fi at *
  cases hfb : (firstAt l 0).2
  all_goals
    rw [hfb] at HY
    go_wp2_with fail
    refine HY.out.1.mono ?_
    rintro e Z ⟨rfl, rfl⟩
    clear hfb
    go_wp2
    go_ret
    exact ⟨rfl, _, HY.out.2.bare⟩
end Go.Proofs.Ytipijkpjmpejlaa
