import Derived.Test.YtipijkpjmpejlaaNetT
/- The contract of allotmentref01.Copy. Condition: trees of at most 100,000 nodes. -/
set_option linter.unusedVariables false
set_option linter.unusedSimpArgs false
namespace Go.Proofs.Ytipijkpjmpejlaa
open Go.RowKit
/-- A copy under way: the argument, the result's place, the copy. -/
structure Cop2 (w wr : World) (t : Tr) (A : Option Addr) (c k : Nat) (v : Value) : Prop where
  arg : wr.heap[w.heap.size]? = some (.cells #[.int .i64 (Tr.id t), .int .i64 (Tr.kind t), .string (Tr.text t), .slice A (Tr.kids t).length c] 37 (0, 0))
  res : wr.heap[w.heap.size + 1]? = some (.cells #[.int .i64 0, .int .i64 0, .string ⟨#[]⟩, .slice none 0 0] 37 (0, 0))
  out : wr.heap[w.heap.size + 2]? = some (.cells #[.int .i64 t.id, .int .i64 t.kind, .string t.text, v] 37 (0, 0))
  chg : Chg [] w wr
  row : RowV wr (w.heap.size + 3) v (t.kids.take k) (fun g => w.heap.size + 3 ≤ g)
set_option maxHeartbeats 4000000 in
set_option maxRecDepth 100000 in
theorem copy_any : ∀ (t : Tr) (A : Option Addr) (c : Nat) (w : World), TrC (fun _ => True) w t [.int .i64 (Tr.id t), .int .i64 (Tr.kind t), .string (Tr.text t), .slice A (Tr.kids t).length c] → t.nodes ≤ 100000 → Calls Try.prog 124 #[.agg #[.int .i64 (Tr.id t), .int .i64 (Tr.kind t), .string (Tr.text t), .slice A (Tr.kids t).length c]] w (NewPost t w) := by
  intro t
  induction t using Tr.ind with
  | h t ih =>
  intro A c w hT hN
  obtain ⟨ip, hi, hz0, hz1, hz2⟩ := info_parts infoNode
  obtain ⟨A', c', hcs, hlc, hcm, htx, hK⟩ := hT.opens
  simp only [List.cons.injEq, Value.slice.injEq, true_and, and_true] at hcs
  obtain ⟨rfl, rfl⟩ := hcs
  have hlen : t.kids.length ≤ 100000 := by have := nodesL_len t.kids; rw [Tr.nodes_eq] at hN; omega
  have HI := Lib.hid (And.intro hi (And.intro hz0 (And.intro hz1 hz2)))
  have HH := Lib.hid (And.intro ih (And.intro hN (And.intro hcm (And.intro hlc (And.intro htx hK)))))
  clear hi hz0 hz1 hz2 hT hK ih hN hcm hlc htx
  go_enter Try.func124, Try.ntmps124
  go_wp2
  refine wp_world (fun W => Cop2 w W t A c 0 (.slice none 0 0)) ⟨heap_old (heap_old (heap_new _ _ rfl) _) _, heap_old (heap_new _ _ (by simp)) _, heap_new _ _ (by simp), (by with_reducible repeat (first | exact Chg.refl _ _ | apply Chg.alloc | apply Chg.drew | apply Chg.drewN | (refine Chg.setCell ?_ _ _ (by simp)))), RowV.nil _ _ _⟩ ?_
  intro W hCop
  have HX := Lib.hid hCop
  clear hCop
  go_loopw [4] (fun i wr => ∃ (k : Nat) (v : Value), k ≤ t.kids.length ∧ i = .int .i64 k ∧ Hid (Cop2 w wr t A c k v)) (fun i _ => t.kids.length - (intOf i).toNat)
  case atStart => exact ⟨0, _, Nat.zero_le _, rfl, HX.out⟩
  case round =>
    obtain ⟨k, v, hk, rfl, H⟩ := hrel
    clear HX
    obtain ⟨p0, p1, p2, p3⟩ := blk4 H.out.arg
    obtain ⟨Av, cv, rfl⟩ : ∃ Av cv, v = .slice Av k cv := by
      obtain ⟨css, fs, ho, _⟩ := H.out.row
      obtain ⟨Av, cv, e⟩ := own_slice ho
      rw [show (t.kids.take k).length = k from by simp; omega] at e
      exact ⟨Av, cv, e⟩
    by_cases hlt : k < t.kids.length
    · obtain ⟨gk, ok, cs, rfl, _, hr, hat⟩ := HH.out.2.2.2.2.2 k _ (List.getElem?_eq_getElem hlt)
      obtain ⟨Ak, ck, rfl, _⟩ := hat.opens
      have hr' := H.out.chg.range hr (by simp)
      have hkn : (t.kids[k]).nodes ≤ 100000 := by have := nodesL_mem (List.getElem_mem hlt); have h2 := HH.out.2.1; rw [Tr.nodes_eq] at h2; omega
      have hcall := HH.out.1 (t.kids[k]) (List.getElem_mem hlt) Ak ck wr (hat.kept H.out.chg (by simp)) hkn
      have HC := Lib.hid (And.intro hcall hr')
      clear hcall hat hkn hr hr'
      go_wp2_with (first
        | (refine wpList_load_mid rfl 37 (.tmp 23) rfl gk (ok + k * 4) rfl _ _ HC.out.2 Try.underlying37 rfl szNode ?_)
        | (go_at_call 124; refine HC.out.1.mono ?_; rintro e X ⟨A1, c1, rfl, hV, hX⟩; have HX := Lib.hid (And.intro hV hX); have hXa : Chg [] X (X.alloc (.cells #[.int .i64 (Tr.id (t.kids[k])), .int .i64 (Tr.kind (t.kids[k])), .string (Tr.text (t.kids[k])), .slice A1 (Tr.kids (t.kids[k])).length c1] 37)) := (by with_reducible repeat (first | exact Chg.refl _ _ | apply Chg.alloc | apply Chg.drew | apply Chg.drewN | (refine Chg.setCell ?_ _ _ (by simp)))); have hXX := H.out.chg.trans (hX.trans hXa); have hou := (hX.trans hXa).at H.out.out (by simp); obtain ⟨o0, o1, o2, o3⟩ := blk4 hou; have of3 := blkF hou 3; clear hV hX hXa hXX hou)
        | (have hwr := lt_of_block H.out.out
           have hXs := HX.out.2.size
           have hXa : Chg [] X ((X.alloc (.cells #[.int .i64 (Tr.id (t.kids[k])), .int .i64 (Tr.kind (t.kids[k])), .string (Tr.text (t.kids[k])), .slice A1 (Tr.kids (t.kids[k])).length c1] 37)).alloc (.cells #[.int .i64 (Tr.id (t.kids[k])), .int .i64 (Tr.kind (t.kids[k])), .string (Tr.text (t.kids[k])), .slice A1 (Tr.kids (t.kids[k])).length c1] 37)) := (by with_reducible repeat (first | exact Chg.refl _ _ | apply Chg.alloc | apply Chg.drew | apply Chg.drewN | (refine Chg.setCell ?_ _ _ (by simp))))
           obtain ⟨xs, hown, hgrow⟩ := H.out.row.grow (HX.out.2.trans hXa)
           rw [show (t.kids.take k).length = k from by simp; omega] at hown hgrow
           have HG := Lib.hid (And.intro hgrow hXa)
           clear hgrow hXa
           refine wpList_append_own_at _ rfl (.tmp 27) (.tmp 29) 35 rfl _ 37 ip _ 4 56 Try.underlying35 HI.out.1 HI.out.2.1 HI.out.2.2.1 HI.out.2.2.2 rfl (by omega) (.slice Av k cv) _ _ rfl hown ⟨X.heap.size + 1, 0, none⟩ 1 1 _ rfl rfl (fun j u hu => by rw [Addr.add_mid]; exact range_all (heap_new (X.alloc _) _ (by simp)) j u hu) (HX.out.1.one) (by unfold maxLen; omega) (by omega) (by simp; omega) ?_
           intro v' X3 hown' hgr _ hat
           have hrow3 := HG.out.1 _ _ _ X3 v' (HX.out.1.kept HG.out.2 (by simp)) (fun x hx => ⟨by omega, hx.1, Nat.lt_of_lt_of_le hx.2 HG.out.2.size⟩) hown' hgr hat
           rw [← take_snoc' _ _ hlt] at hrow3
           have hC3 : Chg (Value.slice Av k cv).ownBlock.toList wr X3 := ((HX.out.2.trans HG.out.2).mono (by simp)).grown hgr (by intro k hk; rw [hk]; simp)
           have hnb : ∀ b, b ∈ (Value.slice Av k cv).ownBlock.toList → w.heap.size + 3 ≤ b := fun b hb => by have := H.out.row.own b (by simpa using hb); omega
           have hout3 := hC3.at H.out.out (fun hm => by have := hnb _ hm; omega)
           have s3 := (blk4 hout3).2.2.2
           have f3 := blkF hout3 3
           obtain ⟨A', c', rfl⟩ := own_slice hown'
           have H3 := Lib.hid (And.intro hrow3 (And.intro hC3 (And.intro hnb hout3)))
           clear hrow3 hgr hat hown' hC3 hnb hout3 HG)
        | fail)
      go_roundw
      case rel =>
        have hnb := H3.out.2.2.1
        have hCs : Chg [w.heap.size + 2] X3 (X3.setCell ⟨w.heap.size + 2, 3, none⟩ (.slice A' (k + 1) c')) := (Chg.refl _ _).setCell _ _ (by simp)
        have hnb3 : ∀ b, (Value.slice A' (k + 1) c').ownBlock = some b → w.heap.size + 3 ≤ b := fun b hb => by have := H3.out.1.own b hb; omega
        refine ⟨k + 1, .slice A' (k + 1) c', by omega, by go_num, ?_, ?_, ?_, ?_, ?_⟩
        · exact hCs.at (H3.out.2.1.at H.out.arg (fun hm => by have := hnb _ hm; omega)) (by simp)
        · exact hCs.at (H3.out.2.1.at H.out.res (fun hm => by have := hnb _ hm; omega)) (by simp)
        · exact heap_setCell_same _ _ 3 _ _ _ H3.out.2.2.2
        · exact (H.out.chg.andThen H3.out.2.1 (fun i hi => .inr (by have := hnb i hi; omega))).andThen hCs (fun i hi => .inr (by simp at hi; omega))
        · exact H3.out.1.kept hCs (fun b hb => by have := hnb3 b hb; simp; omega) (fun g hg => by simp; omega)
      case measure => simp [intOf]; omega
    · obtain rfl : k = t.kids.length := by omega
      have hrow := H.out.row
      rw [List.take_of_length_le (Nat.le_refl _)] at hrow
      obtain ⟨A', c', he, hV⟩ := hrow.node t HH.out.2.2.2.2.1
      injection he with hA1 _ hc1
      subst hA1 hc1
      have HV := Lib.hid hV
      clear hrow hV
      obtain ⟨q0, q1, q2, q3⟩ := blk4 H.out.out
      obtain ⟨r0, r1, r2, r3⟩ := blk4 H.out.res
      have f0 := blkF H.out.res 0
      have f1 := blkF H.out.res 1
      have f2 := blkF H.out.res 2
      have f3 := blkF H.out.res 3
      go_wp2
      have hC0 := chg4 wr (w.heap.size + 1) (.int .i64 t.id) (.int .i64 t.kind) (.string t.text) (.slice Av t.kids.length cv)
      have hsz := H.out.chg.size
      have hlt1 := lt_of_block H.out.out
      have hF : ∀ g, w.heap.size + 3 ≤ g ∨ (Value.slice Av t.kids.length cv).ownBlock = some g → w.heap.size + 3 ≤ g := fun g hg => by
        rcases hg with hg | hg
        · omega
        · have := H.out.row.own g hg; omega
      refine bodyPost_ret (v := .agg #[.int .i64 (Tr.id t), .int .i64 (Tr.kind t), .string (Tr.text t), .slice Av (Tr.kids t).length cv]) (results_cell_row rfl _ _ (w.heap.size + 1) _ _ _ _ rfl (set4 H.out.res) Try.underlying37 rfl szNode) rfl ⟨Av, cv, rfl, ?_, H.out.chg.andThen hC0 (fun i hi => by simp at hi; omega)⟩
      exact ((HV.out.bound.weak (F' := fun g => w.heap.size + 3 ≤ g ∧ g < wr.heap.size) (fun g hg => ⟨hF g hg.1, hg.2⟩)).kept hC0 (fun g hg => by simp; omega)).weak (fun g hg => ⟨by omega, Nat.lt_of_lt_of_le hg.2 hC0.size⟩)
end Go.Proofs.Ytipijkpjmpejlaa
