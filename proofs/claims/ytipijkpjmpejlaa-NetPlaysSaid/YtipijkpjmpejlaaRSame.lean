import Derived.Test.YtipijkpjmpejlaaRNetF
import Derived.Test.YtipijkpjmpejlaaTreeR
/- Same of equal steps, rows of steps, messages. -/
set_option linter.unusedVariables false
set_option linter.unusedSimpArgs false
namespace Go.Proofs.Ytipijkpjmpejlaa
open Go.RowKit
set_option maxHeartbeats 4000000 in
set_option maxRecDepth 100000 in
theorem sameStep_any (s : Stp) (A : Option Addr) (c : Nat) (B : Option Addr) (d : Nat) (w : World) (h1 : TrC (fun _ => True) w s.sub (#[.int .i64 (Tr.id s.sub), .int .i64 (Tr.kind s.sub), .string (Tr.text s.sub), .slice A (Tr.kids s.sub).length c] : Array Value).toList) (h2 : TrC (fun _ => True) w s.sub (#[.int .i64 (Tr.id s.sub), .int .i64 (Tr.kind s.sub), .string (Tr.text s.sub), .slice B (Tr.kids s.sub).length d] : Array Value).toList) :
    Calls Try.prog 125 #[.agg #[.int .i8 (Stp.op s), .int .i64 (Stp.id s), .int .i64 (Stp.par s), .int .i64 (Stp.place s), .string (Stp.text s), .int .i64 (Tr.id (Stp.sub s)), .int .i64 (Tr.kind (Stp.sub s)), .string (Tr.text (Stp.sub s)), .slice A (Tr.kids (Stp.sub s)).length c], .agg #[.int .i8 (Stp.op s), .int .i64 (Stp.id s), .int .i64 (Stp.par s), .int .i64 (Stp.place s), .string (Stp.text s), .int .i64 (Tr.id (Stp.sub s)), .int .i64 (Tr.kind (Stp.sub s)), .string (Tr.text (Stp.sub s)), .slice B (Tr.kids (Stp.sub s)).length d]] w fun e w' => e = .returned (.bool true) ∧ Chg [] w w' := by
  obtain ⟨W, hW⟩ : ∃ W, W = (w.alloc (.cells #[.int .i8 (Stp.op s), .int .i64 (Stp.id s), .int .i64 (Stp.par s), .int .i64 (Stp.place s), .string (Stp.text s), .int .i64 (Tr.id (Stp.sub s)), .int .i64 (Tr.kind (Stp.sub s)), .string (Tr.text (Stp.sub s)), .slice A (Tr.kids (Stp.sub s)).length c] 148)).alloc (.cells #[.int .i8 (Stp.op s), .int .i64 (Stp.id s), .int .i64 (Stp.par s), .int .i64 (Stp.place s), .string (Stp.text s), .int .i64 (Tr.id (Stp.sub s)), .int .i64 (Tr.kind (Stp.sub s)), .string (Tr.text (Stp.sub s)), .slice B (Tr.kids (Stp.sub s)).length d] 148) := ⟨_, rfl⟩
  have hwW : Chg [] w W := by rw [hW]; exact (by with_reducible repeat (first | exact Chg.refl _ _ | apply Chg.alloc | apply Chg.drew | apply Chg.drewN | (refine Chg.setCell ?_ _ _ (by simp))))
  have b0 : W.heap[w.heap.size]? = some (.cells #[.int .i8 (Stp.op s), .int .i64 (Stp.id s), .int .i64 (Stp.par s), .int .i64 (Stp.place s), .string (Stp.text s), .int .i64 (Tr.id (Stp.sub s)), .int .i64 (Tr.kind (Stp.sub s)), .string (Tr.text (Stp.sub s)), .slice A (Tr.kids (Stp.sub s)).length c] 148 (0, 0)) := by rw [hW]; exact heap_old (heap_new _ _ rfl) _
  have b1 : W.heap[w.heap.size + 1]? = some (.cells #[.int .i8 (Stp.op s), .int .i64 (Stp.id s), .int .i64 (Stp.par s), .int .i64 (Stp.place s), .string (Stp.text s), .int .i64 (Tr.id (Stp.sub s)), .int .i64 (Tr.kind (Stp.sub s)), .string (Tr.text (Stp.sub s)), .slice B (Tr.kids (Stp.sub s)).length d] 148 (0, 0)) := by rw [hW]; exact heap_new _ _ (by simp)
  have hs := same_any s.sub s.sub A c B d W (h1.kept hwW (by simp)) (h2.kept hwW (by simp))
  have hr0 : W.rangeAt w.heap.size 5 (#[.int .i64 (Tr.id s.sub), .int .i64 (Tr.kind s.sub), .string (Tr.text s.sub), .slice A (Tr.kids s.sub).length c] : Array Value).toList := range_of_block (cs := (#[.int .i8 (Stp.op s), .int .i64 (Stp.id s), .int .i64 (Stp.par s), .int .i64 (Stp.place s), .string (Stp.text s), .int .i64 (Tr.id (Stp.sub s)), .int .i64 (Tr.kind (Stp.sub s)), .string (Tr.text (Stp.sub s)), .slice A (Tr.kids (Stp.sub s)).length c] : Array Value).toList) b0 5 4
  have hr1 : W.rangeAt (w.heap.size + 1) 5 (#[.int .i64 (Tr.id s.sub), .int .i64 (Tr.kind s.sub), .string (Tr.text s.sub), .slice B (Tr.kids s.sub).length d] : Array Value).toList := range_of_block (cs := (#[.int .i8 (Stp.op s), .int .i64 (Stp.id s), .int .i64 (Stp.par s), .int .i64 (Stp.place s), .string (Stp.text s), .int .i64 (Tr.id (Stp.sub s)), .int .i64 (Tr.kind (Stp.sub s)), .string (Tr.text (Stp.sub s)), .slice B (Tr.kids (Stp.sub s)).length d] : Array Value).toList) b1 5 4
  have HV := Lib.hid (And.intro (Eq.symm hW) (And.intro hwW (And.intro hs (And.intro hr0 hr1))))
  clear hW hwW hs hr0 hr1 h1 h2 b0 b1
  go_enter Try.func125, Try.ntmps125
  go_wp2_with (first
    | (refine wpList_guard rfl (exec_load_mid 37 (.tmp 39) rfl w.heap.size 5 rfl (#[.int .i64 (Tr.id s.sub), .int .i64 (Tr.kind s.sub), .string (Tr.text s.sub), .slice A (Tr.kids s.sub).length c] : Array Value).toList _ HV.out.2.2.2.1 Try.underlying37 rfl szNode) ?_)
    | fail)
  rw [HV.out.1]
  refine HV.out.2.2.1.mono ?_
  rintro e X ⟨r, rfl, hr, hX⟩
  obtain rfl : r = true := hr.2 rfl
  have HX := Lib.hid (HV.out.2.1.trans hX)
  clear hX hr
  go_wp2
  go_ret
  exact ⟨rfl, HX.out⟩
theorem StepsC.at {ok : Nat → Prop} {w : World} {B : Option Addr} {ss : List Stp} (h : StepsC ok w B ss) {k : Nat} (hk : k < ss.length) : ∃ g o A c, B = some ⟨g, o, none⟩ ∧ ok g ∧ w.rangeAt g (o + k * 9) (#[.int .i8 (Stp.op (ss[k])), .int .i64 (Stp.id (ss[k])), .int .i64 (Stp.par (ss[k])), .int .i64 (Stp.place (ss[k])), .string (Stp.text (ss[k])), .int .i64 (Tr.id (Stp.sub (ss[k]))), .int .i64 (Tr.kind (Stp.sub (ss[k]))), .string (Tr.text (Stp.sub (ss[k]))), .slice A (Tr.kids (Stp.sub (ss[k]))).length c] : Array Value).toList ∧ TrC ok w (ss[k]).sub (#[.int .i64 (Tr.id (ss[k]).sub), .int .i64 (Tr.kind (ss[k]).sub), .string (Tr.text (ss[k]).sub), .slice A (Tr.kids (ss[k]).sub).length c] : Array Value).toList := by
  rcases h with h | ⟨g, o, ds, hB, hg, h1, h2, h3⟩
  · rw [h] at hk; simp at hk
  · obtain ⟨A, c, hcs, hT, htx⟩ := h3 k _ _ (List.getElem?_eq_getElem hk) (List.getElem?_eq_getElem (by omega))
    have h9 : ∀ cs ∈ ds, cs.length = 9 := all4 h1 (fun i k cs a b => (h3 i k cs a b).nine)
    refine ⟨g, o, A, c, hB, hg, fun j u hu => ?_, hT⟩
    have hf := flatN_at ds k _ j u h9 (List.getElem?_eq_getElem (by omega)) (by rw [hcs]; exact hu)
    have := h2 (k * 9 + j) u hf
    rwa [Nat.add_assoc]
set_option maxHeartbeats 4000000 in
set_option maxRecDepth 100000 in
theorem sameSteps_any (ss : List Stp) (A : Option Addr) (c : Nat) (B : Option Addr) (d : Nat) (w : World) (hl : ss.length ≤ 9223372036854775807) (h1 : StepsC (fun _ => True) w A ss) (h2 : StepsC (fun _ => True) w B ss) :
    Calls Try.prog 109 #[.slice A ss.length c, .slice B ss.length d] w fun e w' => e = .returned (.bool true) ∧ Chg [] w w' := by
  have hsz : (Try.prog.info? 148).map (·.size) = some 9 := by kernel_rfl
  have HV := Lib.hid (And.intro h1 (And.intro h2 hsz))
  clear h1 h2 hsz
  go_enter Try.func109, Try.ntmps109
  go_wp2
  go_loopw [5] (fun i wr => ∃ k : Nat, k ≤ ss.length ∧ i = .int .i64 k ∧ Chg [] w wr) (fun i _ => ss.length - (intOf i).toNat)
  case atStart => exact ⟨0, Nat.zero_le _, rfl, Chg.refl _ _⟩
  case round =>
    obtain ⟨k, hk, rfl, hc⟩ := hrel
    by_cases hlt : k < ss.length
    · obtain ⟨ga, oa, Ak, ck, rfl, _, hra, hta⟩ := (HV.out.1.kept hc.drew (by simp)).at hlt
      obtain ⟨gb, ob, Bk, dk, rfl, _, hrb, htb⟩ := (HV.out.2.1.kept hc.drew (by simp)).at hlt
      have hcall := sameStep_any (ss[k]) Ak ck Bk dk wr.drew hta htb
      have HC := Lib.hid (And.intro hcall (And.intro hra (And.intro hrb hc)))
      clear hcall hra hrb hta htb hc
      generalize ss[k] = s at *
      go_wp2_with fail
      refine wp_region_M (fun _ => True) (fun k => [8].contains k) (fun k => [8].contains k) (by kernel_rfl) ?_
      ((try dsimp only); (try simp only [Act.put, List.setIfInBounds_toArray, List.set_cons_zero, List.set_cons_succ]))
      refine M_pure (i := 0) (v := ?_) rfl (by kernel_rfl) (by kernel_rfl) (by kernel_rfl) (fun _ _ _ h => h) (by rfl) ?hy ?_; (case hy => (intro w; go_simp; with_reducible rfl)); ((try dsimp only); (try simp only [Act.put, List.setIfInBounds_toArray, List.set_cons_zero, List.set_cons_succ]))
      refine M_pure (i := 1) (v := ?_) rfl (by kernel_rfl) (by kernel_rfl) (by kernel_rfl) (fun _ _ _ h => h) (by rfl) ?hy ?_; (case hy => (intro w; go_simp; with_reducible rfl)); ((try dsimp only); (try simp only [Act.put, List.setIfInBounds_toArray, List.set_cons_zero, List.set_cons_succ]))
      refine M_pure (i := 2) (v := ?_) rfl (by kernel_rfl) (by kernel_rfl) (by kernel_rfl) (fun _ _ _ h => h) (by rfl) ?hy ?_; (case hy => (intro w; go_simp; with_reducible rfl)); ((try dsimp only); (try simp only [Act.put, List.setIfInBounds_toArray, List.set_cons_zero, List.set_cons_succ]))
      refine M_take (i := 3) rfl (by kernel_rfl) (by kernel_rfl) (by kernel_rfl) (by kernel_rfl) (fun _ _ _ h => h) (by rfl) (exec_load_mid 148 (.tmp 19) rfl ga (oa + k * 9) rfl _ _ (w := wr.drew) HC.out.2.1 Try.underlying148 rfl HV.out.2.2) ?_; ((try dsimp only); (try simp only [Act.put, List.setIfInBounds_toArray, List.set_cons_zero, List.set_cons_succ]))
      refine M_pure (i := 4) (v := ?_) rfl (by kernel_rfl) (by kernel_rfl) (by kernel_rfl) (fun _ _ _ h => h) (by rfl) ?hy ?_; (case hy => (intro w; go_simp; with_reducible rfl)); ((try dsimp only); (try simp only [Act.put, List.setIfInBounds_toArray, List.set_cons_zero, List.set_cons_succ]))
      refine M_pure (i := 5) (v := ?_) rfl (by kernel_rfl) (by kernel_rfl) (by kernel_rfl) (fun _ _ _ h => h) (by rfl) ?hy ?_; (case hy => (intro w; go_simp; with_reducible rfl)); ((try dsimp only); (try simp only [Act.put, List.setIfInBounds_toArray, List.set_cons_zero, List.set_cons_succ]))
      refine M_pure (i := 6) (v := ?_) rfl (by kernel_rfl) (by kernel_rfl) (by kernel_rfl) (fun _ _ _ h => h) (by rfl) ?hy ?_; (case hy => (intro w; go_simp; with_reducible rfl)); ((try dsimp only); (try simp only [Act.put, List.setIfInBounds_toArray, List.set_cons_zero, List.set_cons_succ]))
      refine M_take (i := 7) rfl (by kernel_rfl) (by kernel_rfl) (by kernel_rfl) (by kernel_rfl) (fun _ _ _ h => h) (by rfl) (exec_load_mid 148 (.tmp 23) rfl gb (ob + k * 9) rfl _ _ (w := wr.drew) HC.out.2.2.1 Try.underlying148 rfl HV.out.2.2) ?_; ((try dsimp only); (try simp only [Act.put, List.setIfInBounds_toArray, List.set_cons_zero, List.set_cons_succ]))
      refine M_brk (i := 8) rfl (by kernel_rfl) (by rfl) (by rfl) ?_
      go_wp2_with (go_at_call 125; refine HC.out.1.mono ?_; rintro e X ⟨rfl, hX⟩; have HX := Lib.hid (HC.out.2.2.2.drew.trans hX); clear hX)
      ((try dsimp only [EffQ]); (try simp only [Act.put, List.setIfInBounds_toArray, List.set_cons_zero, List.set_cons_succ]))
      refine M_pure (i := 9) (v := ?_) rfl (by kernel_rfl) (by kernel_rfl) (by kernel_rfl) (fun _ _ _ h => h) (by rfl) ?hy ?_; (case hy => (intro w; go_simp; with_reducible rfl)); ((try dsimp only); (try simp only [Act.put, List.setIfInBounds_toArray, List.set_cons_zero, List.set_cons_succ]))
      refine M_done (by kernel_rfl) ?_ _
      go_wp2_with fail
      go_roundw
      case rel => exact ⟨k + 1, by omega, by go_num, HX.out⟩
      case measure => simp [intOf]; omega
    · have HC := Lib.hid hc
      clear hc
      go_wp2
      go_ret
      exact ⟨rfl, HC.out⟩
set_option maxHeartbeats 4000000 in
set_option maxRecDepth 100000 in
theorem sameMsg_any (m : Msg) (A : Option Addr) (c : Nat) (B : Option Addr) (d : Nat) (A' : Option Addr) (c' : Nat) (B' : Option Addr) (d' : Nat) (w : World) (h1 : MsgC (fun _ => True) w m A c B d) (h2 : MsgC (fun _ => True) w m A' c' B' d') :
    Calls Try.prog 88 #[.agg #[.int .i8 (Msg.kind m), .int .i64 (Msg.frm m), .int .i64 (Msg.to m), .int .i64 (Msg.boot m), .int .i64 (Msg.server m), .int .i64 (Msg.number m), .int .i64 (Msg.node m), .int .i64 (Msg.lease m), .int .i64 (Msg.epoch m), .int .i64 (Msg.version m), .int .i64 (Msg.e m), .slice B (Msg.steps m).length d, .int .i64 (Msg.tree m).id, .int .i64 (Msg.tree m).kind, .string (Msg.tree m).text, .slice A (Msg.tree m).kids.length c], .agg #[.int .i8 (Msg.kind m), .int .i64 (Msg.frm m), .int .i64 (Msg.to m), .int .i64 (Msg.boot m), .int .i64 (Msg.server m), .int .i64 (Msg.number m), .int .i64 (Msg.node m), .int .i64 (Msg.lease m), .int .i64 (Msg.epoch m), .int .i64 (Msg.version m), .int .i64 (Msg.e m), .slice B' (Msg.steps m).length d', .int .i64 (Msg.tree m).id, .int .i64 (Msg.tree m).kind, .string (Msg.tree m).text, .slice A' (Msg.tree m).kids.length c']] w fun e w' => e = .returned (.bool true) ∧ Chg [] w w' := by
  obtain ⟨W, hW⟩ : ∃ W, W = (w.alloc (.cells #[.int .i8 (Msg.kind m), .int .i64 (Msg.frm m), .int .i64 (Msg.to m), .int .i64 (Msg.boot m), .int .i64 (Msg.server m), .int .i64 (Msg.number m), .int .i64 (Msg.node m), .int .i64 (Msg.lease m), .int .i64 (Msg.epoch m), .int .i64 (Msg.version m), .int .i64 (Msg.e m), .slice B (Msg.steps m).length d, .int .i64 (Msg.tree m).id, .int .i64 (Msg.tree m).kind, .string (Msg.tree m).text, .slice A (Msg.tree m).kids.length c] 39)).alloc (.cells #[.int .i8 (Msg.kind m), .int .i64 (Msg.frm m), .int .i64 (Msg.to m), .int .i64 (Msg.boot m), .int .i64 (Msg.server m), .int .i64 (Msg.number m), .int .i64 (Msg.node m), .int .i64 (Msg.lease m), .int .i64 (Msg.epoch m), .int .i64 (Msg.version m), .int .i64 (Msg.e m), .slice B' (Msg.steps m).length d', .int .i64 (Msg.tree m).id, .int .i64 (Msg.tree m).kind, .string (Msg.tree m).text, .slice A' (Msg.tree m).kids.length c'] 39) := ⟨_, rfl⟩
  have hwW : Chg [] w W := by rw [hW]; exact (by with_reducible repeat (first | exact Chg.refl _ _ | apply Chg.alloc | apply Chg.drew | apply Chg.drewN | (refine Chg.setCell ?_ _ _ (by simp))))
  have b0 : W.heap[w.heap.size]? = some (.cells #[.int .i8 (Msg.kind m), .int .i64 (Msg.frm m), .int .i64 (Msg.to m), .int .i64 (Msg.boot m), .int .i64 (Msg.server m), .int .i64 (Msg.number m), .int .i64 (Msg.node m), .int .i64 (Msg.lease m), .int .i64 (Msg.epoch m), .int .i64 (Msg.version m), .int .i64 (Msg.e m), .slice B (Msg.steps m).length d, .int .i64 (Msg.tree m).id, .int .i64 (Msg.tree m).kind, .string (Msg.tree m).text, .slice A (Msg.tree m).kids.length c] 39 (0, 0)) := by rw [hW]; exact heap_old (heap_new _ _ rfl) _
  have b1 : W.heap[w.heap.size + 1]? = some (.cells #[.int .i8 (Msg.kind m), .int .i64 (Msg.frm m), .int .i64 (Msg.to m), .int .i64 (Msg.boot m), .int .i64 (Msg.server m), .int .i64 (Msg.number m), .int .i64 (Msg.node m), .int .i64 (Msg.lease m), .int .i64 (Msg.epoch m), .int .i64 (Msg.version m), .int .i64 (Msg.e m), .slice B' (Msg.steps m).length d', .int .i64 (Msg.tree m).id, .int .i64 (Msg.tree m).kind, .string (Msg.tree m).text, .slice A' (Msg.tree m).kids.length c'] 39 (0, 0)) := by rw [hW]; exact heap_new _ _ (by simp)
  have hss := sameSteps_any m.steps B d B' d' W (Nat.le_trans h1.cap h1.top) (h1.steps.kept hwW (by simp)) (h2.steps.kept hwW (by simp))
  have HV := Lib.hid (And.intro (Eq.symm hW) (And.intro hwW (And.intro hss (And.intro h1 (And.intro h2 (And.intro b0 b1))))))
  clear hW hwW hss h1 h2 b0 b1
  go_enter Try.func88, Try.ntmps88
  go_wp2_with (first
    | (rw [HV.out.1]; go_at_call 109; refine HV.out.2.2.1.mono ?_; rintro e X ⟨rfl, hX⟩
       have x0 := hX.at HV.out.2.2.2.2.2.1 (by simp)
       have x1 := hX.at HV.out.2.2.2.2.2.2 (by simp)
       have hwX := HV.out.2.1.trans hX
       have hsn := same_any m.tree m.tree A c A' c' X (HV.out.2.2.2.1.tree.kept hwX (by simp)) (HV.out.2.2.2.2.1.tree.kept hwX (by simp))
       have hr0 : X.rangeAt w.heap.size 12 (#[.int .i64 (Tr.id m.tree), .int .i64 (Tr.kind m.tree), .string (Tr.text m.tree), .slice A (Tr.kids m.tree).length c] : Array Value).toList := range_of_block (cs := (#[.int .i8 (Msg.kind m), .int .i64 (Msg.frm m), .int .i64 (Msg.to m), .int .i64 (Msg.boot m), .int .i64 (Msg.server m), .int .i64 (Msg.number m), .int .i64 (Msg.node m), .int .i64 (Msg.lease m), .int .i64 (Msg.epoch m), .int .i64 (Msg.version m), .int .i64 (Msg.e m), .slice B (Msg.steps m).length d, .int .i64 (Msg.tree m).id, .int .i64 (Msg.tree m).kind, .string (Msg.tree m).text, .slice A (Msg.tree m).kids.length c] : Array Value).toList) x0 12 4
       have hr1 : X.rangeAt (w.heap.size + 1) 12 (#[.int .i64 (Tr.id m.tree), .int .i64 (Tr.kind m.tree), .string (Tr.text m.tree), .slice A' (Tr.kids m.tree).length c'] : Array Value).toList := range_of_block (cs := (#[.int .i8 (Msg.kind m), .int .i64 (Msg.frm m), .int .i64 (Msg.to m), .int .i64 (Msg.boot m), .int .i64 (Msg.server m), .int .i64 (Msg.number m), .int .i64 (Msg.node m), .int .i64 (Msg.lease m), .int .i64 (Msg.epoch m), .int .i64 (Msg.version m), .int .i64 (Msg.e m), .slice B' (Msg.steps m).length d', .int .i64 (Msg.tree m).id, .int .i64 (Msg.tree m).kind, .string (Msg.tree m).text, .slice A' (Msg.tree m).kids.length c'] : Array Value).toList) x1 12 4
       have HX := Lib.hid (And.intro hwX (And.intro hsn (And.intro hr0 hr1)))
       clear hX x0 x1 hwX hsn hr0 hr1)
    | (refine wpList_guard rfl (exec_load_mid 37 (.tmp 88) rfl w.heap.size 12 rfl (#[.int .i64 (Tr.id m.tree), .int .i64 (Tr.kind m.tree), .string (Tr.text m.tree), .slice A (Tr.kids m.tree).length c] : Array Value).toList _ HX.out.2.2.1 Try.underlying37 rfl szNode) ?_)
    | (refine wpList_guard rfl (exec_load_mid 37 (.tmp 90) rfl (w.heap.size + 1) 12 rfl (#[.int .i64 (Tr.id m.tree), .int .i64 (Tr.kind m.tree), .string (Tr.text m.tree), .slice A' (Tr.kids m.tree).length c'] : Array Value).toList _ HX.out.2.2.2 Try.underlying37 rfl szNode) ?_)
    | fail)
  refine HX.out.2.1.mono ?_
  rintro e Y ⟨r, rfl, hr, hY⟩
  obtain rfl : r = true := hr.2 rfl
  have HY := Lib.hid (HX.out.1.trans hY)
  clear hY hr
  go_wp2
  go_ret
  exact ⟨rfl, HY.out⟩
end Go.Proofs.Ytipijkpjmpejlaa
