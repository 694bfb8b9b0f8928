import Derived.Test.YtipijkpjmpejlaaTreeB
/- The contracts of copies of trees: the closure in net.copied, allotmentref01.Copy. Condition: trees of at most 100,000 nodes. -/
set_option linter.unusedVariables false
set_option linter.unusedSimpArgs false
namespace Go.Proofs.Ytipijkpjmpejlaa
open Go.RowKit
/-- A tree that the call made. -/
def NewPost (t : Tr) (w : World) (e : Ending) (w' : World) : Prop := ∃ A c, e = .returned (.agg #[.int .i64 (Tr.id t), .int .i64 (Tr.kind t), .string (Tr.text t), .slice A (Tr.kids t).length c]) ∧ TrV w' t [.int .i64 (Tr.id t), .int .i64 (Tr.kind t), .string (Tr.text t), .slice A (Tr.kids t).length c] (fun g => w.heap.size ≤ g ∧ g < w'.heap.size) ∧ Chg [] w w'
/-- A copy under way. -/
structure Cop (w wr : World) (t : Tr) (A : Option Addr) (c k : Nat) (v : Value) : Prop where
  arg : wr.heap[w.heap.size]? = some (.cells #[.int .i64 (Tr.id t), .int .i64 (Tr.kind t), .string (Tr.text t), .slice A (Tr.kids t).length c] 37 (0, 0))
  res : wr.heap[w.heap.size + 1]? = some (.cells #[.int .i64 0, .int .i64 0, .string ⟨#[]⟩, .slice none 0 0] 37 (0, 0))
  chg : Chg [] w wr
  row : RowV wr (w.heap.size + 2) v (t.kids.take k) (fun g => w.heap.size + 2 ≤ g)
set_option maxHeartbeats 4000000 in
set_option maxRecDepth 100000 in
theorem tree_any : ∀ (t : Tr) (A : Option Addr) (c tb : Nat) (w : World), TrC (fun _ => True) w t [.int .i64 (Tr.id t), .int .i64 (Tr.kind t), .string (Tr.text t), .slice A (Tr.kids t).length c] → t.nodes ≤ 100000 → w.cell? ⟨tb, 0, none⟩ = some (.func (.func 102) #[] #[.pointer (some ⟨tb, 0, none⟩)]) → Calls Try.prog 102 #[.agg #[.int .i64 (Tr.id t), .int .i64 (Tr.kind t), .string (Tr.text t), .slice A (Tr.kids t).length c], .pointer (some ⟨tb, 0, none⟩)] w (NewPost t w) := by
  intro t
  induction t using Tr.ind with
  | h t ih =>
  intro A c tb w hT hN htb
  obtain ⟨ip, hi, hz0, hz1, hz2⟩ := info_parts infoNode
  obtain ⟨A', c', hcs, hlc, hcm, htx, hK⟩ := hT.opens
  simp only [List.cons.injEq, Value.slice.injEq, true_and, and_true] at hcs
  obtain ⟨rfl, rfl⟩ := hcs
  have hlen : t.kids.length ≤ 100000 := by have := nodesL_len t.kids; rw [Tr.nodes_eq] at hN; omega
  have HI := Lib.hid (And.intro hi (And.intro hz0 (And.intro hz1 hz2)))
  have HH := Lib.hid (And.intro ih (And.intro hN (And.intro hcm (And.intro hlc (And.intro htx (And.intro hK htb))))))
  clear hi hz0 hz1 hz2 hT hK ih hN hcm hlc htx htb
  go_enter Try.func102, Try.ntmps102
  go_wp2
  refine wp_world (fun W => Cop w W t A c 0 (.slice none 0 0)) ⟨heap_old (heap_new _ _ rfl) _, heap_new _ _ (by simp), (by with_reducible repeat (first | exact Chg.refl _ _ | apply Chg.alloc | apply Chg.drew | apply Chg.drewN | (refine Chg.setCell ?_ _ _ (by simp)))), RowV.nil _ _ _⟩ ?_
  intro W hCop
  have HX := Lib.hid hCop
  clear hCop
  go_loopw [4, 10] (fun vs i wr => ∃ (k : Nat) (v : Value), k ≤ t.kids.length ∧ v = vs ∧ i = .int .i64 k ∧ Hid (Cop w wr t A c k v)) (fun _ i _ => t.kids.length - (intOf i).toNat)
  case atStart => exact ⟨0, _, Nat.zero_le _, rfl, rfl, HX.out⟩
  case round =>
    obtain ⟨k, v, hk, rfl, rfl, H⟩ := hrel
    clear HX
    obtain ⟨Av, cv, rfl⟩ : ∃ Av cv, v = .slice Av k cv := by
      obtain ⟨css, fs, ho, _⟩ := H.out.row
      obtain ⟨Av, cv, e⟩ := own_slice ho
      rw [show (t.kids.take k).length = k from by simp; omega] at e
      exact ⟨Av, cv, e⟩
    by_cases hlt : k < t.kids.length
    · obtain ⟨gk, ok, cs, rfl, _, hr, hat⟩ := HH.out.2.2.2.2.2.1 k _ (List.getElem?_eq_getElem hlt)
      obtain ⟨Ak, ck, rfl, _⟩ := hat.opens
      have hr' := H.out.chg.range hr (by simp)
      have hkn : (t.kids[k]).nodes ≤ 100000 := by have := nodesL_mem (List.getElem_mem hlt); have h2 := HH.out.2.1; rw [Tr.nodes_eq] at h2; omega
      have hAl : Chg [] wr (wr.alloc (.cells #[.int .i64 (Tr.id (t.kids[k])), .int .i64 (Tr.kind (t.kids[k])), .string (Tr.text (t.kids[k])), .slice Ak (Tr.kids (t.kids[k])).length ck] 37)) := (by with_reducible repeat (first | exact Chg.refl _ _ | apply Chg.alloc | apply Chg.drew | apply Chg.drewN | (refine Chg.setCell ?_ _ _ (by simp))))
      have htb' := (H.out.chg.trans hAl).cell HH.out.2.2.2.2.2.2 (by simp)
      have hcall := HH.out.1 (t.kids[k]) (List.getElem_mem hlt) Ak ck tb (wr.alloc (.cells #[.int .i64 (Tr.id (t.kids[k])), .int .i64 (Tr.kind (t.kids[k])), .string (Tr.text (t.kids[k])), .slice Ak (Tr.kids (t.kids[k])).length ck] 37)) (hat.kept (H.out.chg.trans hAl) (by simp)) hkn htb'
      have HC := Lib.hid (And.intro hcall (And.intro hr' hAl))
      clear hcall hat hkn hr hr' hAl
      go_wp2_with (first
        | (refine wpList_load_mid rfl 37 (.tmp 12) rfl gk (ok + k * 4) rfl _ _ HC.out.2.1 Try.underlying37 rfl szNode ?_)
        | (go_at_call 102; refine HC.out.1.mono ?_; rintro e X ⟨A1, c1, rfl, hV, hX⟩; have HX := Lib.hid (And.intro hV hX); clear hV hX)
        | (have hwr := lt_of_block H.out.res
           have hXs : wr.heap.size + 1 ≤ X.heap.size := by have := HX.out.2.size; simpa using this
           have hC2 : Chg [] wr X := HC.out.2.2.trans HX.out.2
           have hXa : Chg [] X (X.alloc (.cells #[.int .i64 (Tr.id (t.kids[k])), .int .i64 (Tr.kind (t.kids[k])), .string (Tr.text (t.kids[k])), .slice A1 (Tr.kids (t.kids[k])).length c1] 37)) := (by with_reducible repeat (first | exact Chg.refl _ _ | apply Chg.alloc | apply Chg.drew | apply Chg.drewN | (refine Chg.setCell ?_ _ _ (by simp))))
           obtain ⟨xs, hown, hgrow⟩ := H.out.row.growBox (F := fun g => w.heap.size + 2 ≤ g) hC2 (HX.out.1.weak (fun g hg => ⟨by have := hg.1; simp at this; omega, hg.2⟩)) (fun x hx => by have := H.out.chg.size; have := lt_of_block H.out.res; omega) #[.int .i64 (Tr.id (t.kids[k])), .int .i64 (Tr.kind (t.kids[k])), .string (Tr.text (t.kids[k])), .slice A1 (Tr.kids (t.kids[k])).length c1]
           rw [show (t.kids.take k).length = k from by simp; omega] at hown hgrow
           have HG := Lib.hid (And.intro hgrow (And.intro hC2 hXa))
           clear hgrow hC2 hXa
           refine wpList_append_own_at _ rfl (.tmp 14) (.tmp 18) 35 rfl _ 37 ip _ 4 56 Try.underlying35 HI.out.1 HI.out.2.1 HI.out.2.2.1 HI.out.2.2.2 rfl (by omega) (.slice Av k cv) _ _ rfl hown ⟨X.heap.size, 0, none⟩ 1 1 _ rfl rfl (fun j u hu => by rw [Addr.add_mid]; exact range_all (heap_new X _ rfl) j u hu) (HX.out.1.one) (by unfold maxLen; omega) (by omega) (by simp; omega) ?_
           intro v' X3 hown' hgr _ hat
           have hrow3 := HG.out.1 X3 v' hown' hgr hat
           rw [← take_snoc' _ _ hlt] at hrow3
           obtain ⟨A', c', rfl⟩ := own_slice hown'
           have H3 := Lib.hid (And.intro hrow3 hgr)
           clear hrow3 hgr hat hown')
        | fail)
      go_roundw
      case rel =>
        have hC3 : Chg (Value.slice Av k cv).ownBlock.toList wr X3 := ((HG.out.2.1.trans HG.out.2.2).mono (by simp)).grown H3.out.2 (by intro k hk; rw [hk]; simp)
        have hnb : ∀ b, b ∈ (Value.slice Av k cv).ownBlock.toList → w.heap.size + 2 ≤ b := fun b hb => by have := H.out.row.own b (by simpa using hb); omega
        refine ⟨k + 1, _, by omega, rfl, by go_num, ?_, ?_, ?_, H3.out.1⟩
        · exact hC3.at H.out.arg (fun hm => by have := hnb _ hm; omega)
        · exact hC3.at H.out.res (fun hm => by have := hnb _ hm; omega)
        · exact H.out.chg.andThen hC3 (fun i hi => .inr (by have := hnb i hi; omega))
      case measure => simp [intOf]; omega
    · obtain rfl : k = t.kids.length := by omega
      have hrow := H.out.row
      rw [List.take_of_length_le (Nat.le_refl _)] at hrow
      obtain ⟨A', c', he, hV⟩ := hrow.node t HH.out.2.2.2.2.1
      injection he with hA1 _ hc1
      subst hA1 hc1
      have HV := Lib.hid hV
      clear hrow hV
      obtain ⟨q0, q1, q2, q3⟩ := blk4 H.out.arg
      obtain ⟨r0, r1, r2, r3⟩ := blk4 H.out.res
      have f0 := blkF H.out.res 0
      have f1 := blkF H.out.res 1
      have f2 := blkF H.out.res 2
      have f3 := blkF H.out.res 3
      have g3 := blkF H.out.arg 3
      go_wp2
      have hCs : Chg [w.heap.size] wr (wr.setCell ⟨w.heap.size, 3, none⟩ (.slice Av t.kids.length cv)) := (Chg.refl _ _).setCell _ _ (by simp)
      have hC0 := chg4 (wr.setCell ⟨w.heap.size, 3, none⟩ (.slice Av t.kids.length cv)) (w.heap.size + 1) (.int .i64 t.id) (.int .i64 t.kind) (.string t.text) (.slice Av t.kids.length cv)
      have hsz := H.out.chg.size
      have hlt1 := lt_of_block H.out.res
      have hF : ∀ g, w.heap.size + 2 ≤ g ∨ (Value.slice Av t.kids.length cv).ownBlock = some g → w.heap.size + 2 ≤ g := fun g hg => by
        rcases hg with hg | hg
        · omega
        · have := H.out.row.own g hg; omega
      have hC2 : Chg [w.heap.size, w.heap.size + 1] wr _ := (hCs.mono (by simp)).trans (hC0.mono (by simp))
      refine bodyPost_ret (v := .agg #[.int .i64 (Tr.id t), .int .i64 (Tr.kind t), .string (Tr.text t), .slice Av (Tr.kids t).length cv]) (results_cell_row rfl _ _ (w.heap.size + 1) _ _ _ _ rfl (set4 (hCs.at H.out.res (by simp))) Try.underlying37 rfl szNode) rfl ⟨Av, cv, rfl, ?_, H.out.chg.andThen hC2 (fun i hi => by simp at hi; omega)⟩
      exact ((HV.out.bound.weak (F' := fun g => w.heap.size + 2 ≤ g ∧ g < wr.heap.size) (fun g hg => ⟨hF g hg.1, hg.2⟩)).kept hC2 (fun g hg => by simp; omega)).weak (fun g hg => ⟨by omega, Nat.lt_of_lt_of_le hg.2 hC2.size⟩)
end Go.Proofs.Ytipijkpjmpejlaa
