import Derived.Test.YtipijkpjmpejlaaTreeB
/- The contracts of the references' trees: the same nodes, the walk. -/
set_option linter.unusedVariables false
set_option linter.unusedSimpArgs false
namespace Go.Proofs.Ytipijkpjmpejlaa
open Go.RowKit
theorem text_inj {a b : ByteArray} (h : a.toList = b.toList) : a = b := Go.WideShapes.bytes_inj (by rw [← ByteArray.toList_eq, ← ByteArray.toList_eq]; exact h)
theorem Tr.ext_of {a b : Tr} (h1 : a.id = b.id) (h2 : a.kind = b.kind) (h3 : a.text = b.text) (h4 : a.kids = b.kids) : a = b := by cases a; cases b; simp_all
def SamePost (a b : Tr) (w : World) (e : Ending) (w' : World) : Prop := ∃ r : Bool, e = .returned (.bool r) ∧ (r = true ↔ a = b) ∧ Chg [] w w'
theorem SamePost.no {a b : Tr} {w w' : World} (h : a ≠ b) (hc : Chg [] w w') : SamePost a b w (.returned (.bool false)) w' := ⟨false, rfl, by simp [h], hc⟩
structure Both (w wr : World) (ca cb : Array Value) : Prop where
  a : wr.heap[w.heap.size]? = some (.cells ca 37 (0, 0))
  b : wr.heap[w.heap.size + 1]? = some (.cells cb 37 (0, 0))
  chg : Chg [] w wr
set_option maxHeartbeats 4000000 in
set_option maxRecDepth 100000 in
theorem same_any : ∀ (a b : Tr) (A : Option Addr) (c : Nat) (B : Option Addr) (d : Nat) (w : World), TrC (fun _ => True) w a [.int .i64 (Tr.id a), .int .i64 (Tr.kind a), .string (Tr.text a), .slice A (Tr.kids a).length c] → TrC (fun _ => True) w b [.int .i64 (Tr.id b), .int .i64 (Tr.kind b), .string (Tr.text b), .slice B (Tr.kids b).length d] → Calls Try.prog 110 #[.agg #[.int .i64 (Tr.id a), .int .i64 (Tr.kind a), .string (Tr.text a), .slice A (Tr.kids a).length c], .agg #[.int .i64 (Tr.id b), .int .i64 (Tr.kind b), .string (Tr.text b), .slice B (Tr.kids b).length d]] w (SamePost a b w) := by
  intro a
  induction a using Tr.ind with
  | h a ih =>
  intro b A c B d w hA hB
  obtain ⟨A', c', hcs, hlc, hcm, htx, hKA⟩ := hA.opens
  simp only [List.cons.injEq, Value.slice.injEq, true_and, and_true] at hcs
  obtain ⟨rfl, rfl⟩ := hcs
  obtain ⟨B', d', hcs, hld, hdm, hty, hKB⟩ := hB.opens
  simp only [List.cons.injEq, Value.slice.injEq, true_and, and_true] at hcs
  obtain ⟨rfl, rfl⟩ := hcs
  have HH := Lib.hid (And.intro ih (And.intro hKA hKB))
  clear ih hA hB hKA hKB
  by_cases h1 : a.id = b.id
  · have e1' : (a.id != b.id) = false := by simpa using h1
    by_cases h2 : a.kind = b.kind
    · have e2' : (a.kind != b.kind) = false := by simpa using h2
      by_cases h3 : a.text.toList = b.text.toList
      · have e3' : (a.text.toList != b.text.toList) = false := by simpa using h3
        by_cases h4 : a.kids.length = b.kids.length
        · have HE := Lib.hid (And.intro h1 (And.intro h2 (And.intro h3 h4)))
          have hAB := (And.intro hlc (And.intro hcm (And.intro hld hdm)))
          clear h1 h2
          have e4' : ((a.kids.length : Int) != (b.kids.length : Int)) = false := by simp; omega
          clear h4
          go_enter Try.func110, Try.ntmps110
          go_wp2_with fail
          clear e1' e2' e3' e4' h3 hAB
          go_loopw [5] (fun i wr => ∃ k : Nat, k ≤ a.kids.length ∧ i = .int .i64 k ∧ Hid (Both w wr #[.int .i64 a.id, .int .i64 a.kind, .string a.text, .slice A a.kids.length c] #[.int .i64 b.id, .int .i64 b.kind, .string b.text, .slice B b.kids.length d] ∧ ∀ j, j < k → a.kids[j]? = b.kids[j]?)) (fun i _ => a.kids.length - (intOf i).toNat)
          case atStart => exact ⟨0, Nat.zero_le _, rfl, ⟨heap_old (heap_new _ _ rfl) _, heap_new _ _ (by simp), (by with_reducible repeat (first | exact Chg.refl _ _ | apply Chg.alloc | apply Chg.drew | apply Chg.drewN | (refine Chg.setCell ?_ _ _ (by simp))))⟩, fun j hj => by omega⟩
          case round =>
            obtain ⟨k, hk, rfl, H⟩ := hrel
            obtain ⟨p0, p1, p2, p3⟩ := blk4 H.out.1.a
            obtain ⟨q0, q1, q2, q3⟩ := blk4 H.out.1.b
            by_cases hlt : k < a.kids.length
            · have hltb : k < b.kids.length := by have := HE.out.2.2.2; omega
              obtain ⟨ga, oa, csa, rfl, _, hra, hta⟩ := HH.out.2.1 k _ (List.getElem?_eq_getElem hlt)
              obtain ⟨gb, ob, csb, rfl, _, hrb, htb⟩ := HH.out.2.2 k _ (List.getElem?_eq_getElem hltb)
              obtain ⟨Ak, ck, rfl, _⟩ := hta.opens
              obtain ⟨Bk, dk, rfl, _⟩ := htb.opens
              have hra' := H.out.1.chg.range hra (by simp)
              have hrb' := H.out.1.chg.range hrb (by simp)
              have hcall := HH.out.1 _ (List.getElem_mem hlt) (b.kids[k]) Ak ck Bk dk wr.drew (hta.kept H.out.1.chg.drew (by simp)) (htb.kept H.out.1.chg.drew (by simp))
              have HC := Lib.hid hcall
              have HR := Lib.hid (And.intro hra' hrb')
              clear hcall hra hrb hta htb hra' hrb'
              go_wp2_with fail
              refine wp_region_M (fun _ => True) (fun k => [10].contains k) (fun k => [10].contains k) (by kernel_rfl) ?_
              ((try dsimp only); (try simp only [Act.put, List.setIfInBounds_toArray, List.set_cons_zero, List.set_cons_succ]))
              refine M_pure (i := 0) (v := ?_) rfl (by kernel_rfl) (by kernel_rfl) (by kernel_rfl) (fun _ _ _ h => h) (by rfl) ?hy ?_; (case hy => (intro w; go_simp; with_reducible rfl)); ((try dsimp only); (try simp only [Act.put, List.setIfInBounds_toArray, List.set_cons_zero, List.set_cons_succ]))
              refine M_take (i := 1) (v := ?_) rfl (by kernel_rfl) (by kernel_rfl) (by kernel_rfl) (by kernel_rfl) (fun _ _ _ h => h) (by rfl) ?hy ?_; (case hy => (go_simp; with_reducible rfl)); ((try dsimp only); (try simp only [Act.put, List.setIfInBounds_toArray, List.set_cons_zero, List.set_cons_succ]))
              refine M_pure (i := 2) (v := ?_) rfl (by kernel_rfl) (by kernel_rfl) (by kernel_rfl) (fun _ _ _ h => h) (by rfl) ?hy ?_; (case hy => (intro w; go_simp; with_reducible rfl)); ((try dsimp only); (try simp only [Act.put, List.setIfInBounds_toArray, List.set_cons_zero, List.set_cons_succ]))
              refine M_pure (i := 3) (v := ?_) rfl (by kernel_rfl) (by kernel_rfl) (by kernel_rfl) (fun _ _ _ h => h) (by rfl) ?hy ?_; (case hy => (intro w; go_simp; with_reducible rfl)); ((try dsimp only); (try simp only [Act.put, List.setIfInBounds_toArray, List.set_cons_zero, List.set_cons_succ]))
              refine M_take (i := 4) rfl (by kernel_rfl) (by kernel_rfl) (by kernel_rfl) (by kernel_rfl) (fun _ _ _ h => h) (by rfl) (exec_load_mid 37 (.tmp 44) rfl ga (oa + k * 4) rfl _ _ (w := wr.drew) HR.out.1 Try.underlying37 rfl szNode) ?_; ((try dsimp only); (try simp only [Act.put, List.setIfInBounds_toArray, List.set_cons_zero, List.set_cons_succ]))
              refine M_pure (i := 5) (v := ?_) rfl (by kernel_rfl) (by kernel_rfl) (by kernel_rfl) (fun _ _ _ h => h) (by rfl) ?hy ?_; (case hy => (intro w; go_simp; with_reducible rfl)); ((try dsimp only); (try simp only [Act.put, List.setIfInBounds_toArray, List.set_cons_zero, List.set_cons_succ]))
              refine M_take (i := 6) (v := ?_) rfl (by kernel_rfl) (by kernel_rfl) (by kernel_rfl) (by kernel_rfl) (fun _ _ _ h => h) (by rfl) ?hy ?_; (case hy => (go_simp; with_reducible rfl)); ((try dsimp only); (try simp only [Act.put, List.setIfInBounds_toArray, List.set_cons_zero, List.set_cons_succ]))
              refine M_pure (i := 7) (v := ?_) rfl (by kernel_rfl) (by kernel_rfl) (by kernel_rfl) (fun _ _ _ h => h) (by rfl) ?hy ?_; (case hy => (intro w; go_simp; with_reducible rfl)); ((try dsimp only); (try simp only [Act.put, List.setIfInBounds_toArray, List.set_cons_zero, List.set_cons_succ]))
              refine M_pure (i := 8) (v := ?_) rfl (by kernel_rfl) (by kernel_rfl) (by kernel_rfl) (fun _ _ _ h => h) (by rfl) ?hy ?_; (case hy => (intro w; go_simp; with_reducible rfl)); ((try dsimp only); (try simp only [Act.put, List.setIfInBounds_toArray, List.set_cons_zero, List.set_cons_succ]))
              refine M_take (i := 9) rfl (by kernel_rfl) (by kernel_rfl) (by kernel_rfl) (by kernel_rfl) (fun _ _ _ h => h) (by rfl) (exec_load_mid 37 (.tmp 49) rfl gb (ob + k * 4) rfl _ _ (w := wr.drew) HR.out.2 Try.underlying37 rfl szNode) ?_; ((try dsimp only); (try simp only [Act.put, List.setIfInBounds_toArray, List.set_cons_zero, List.set_cons_succ]))
              refine M_brk (i := 10) rfl (by kernel_rfl) (by rfl) (by rfl) ?_
              go_wp2_with (go_at_call 110; refine HC.out.mono ?_; rintro e X ⟨r, rfl, hr, hX⟩; have HX := Lib.hid (And.intro hr hX); clear hr hX)
              ((try dsimp only [EffQ]); (try simp only [Act.put, List.setIfInBounds_toArray, List.set_cons_zero, List.set_cons_succ]))
              refine M_pure (i := 11) (v := ?_) rfl (by kernel_rfl) (by kernel_rfl) (by kernel_rfl) (fun _ _ _ h => h) (by rfl) ?hy ?_; (case hy => (intro w; go_simp; with_reducible rfl)); ((try dsimp only); (try simp only [Act.put, List.setIfInBounds_toArray, List.set_cons_zero, List.set_cons_succ]))
              refine M_done (by kernel_rfl) ?_ _
              cases r with
              | false =>
                go_wp2
                go_ret
                refine SamePost.no (fun e => ?_) (H.out.1.chg.trans ((Chg.drew (Chg.refl _ _)).trans HX.out.2))
                have h0 := HX.out.1
                subst e
                simp at h0
              | true =>
                have hX := (Chg.drew (Chg.refl [] wr)).trans HX.out.2
                have he := HX.out.1.1 rfl
                have HY := Lib.hid (And.intro hX he)
                clear hX he
                go_wp2_with fail
                go_roundw
                case rel => exact ⟨k + 1, by omega, by go_num, ⟨HY.out.1.at H.out.1.a (by simp), HY.out.1.at H.out.1.b (by simp), H.out.1.chg.trans HY.out.1⟩, fun j hj => by
                  rcases Nat.lt_or_ge j k with h | h
                  · exact H.out.2 j h
                  · obtain rfl : j = k := by omega
                    rw [List.getElem?_eq_getElem hlt, List.getElem?_eq_getElem hltb, HY.out.2]⟩
                case measure => simp [intOf]; omega
            · go_wp2
              go_ret
              refine ⟨true, rfl, ⟨fun _ => Tr.ext_of HE.out.1 HE.out.2.1 (text_inj HE.out.2.2.1) (List.ext_getElem? fun j => ?_), fun _ => rfl⟩, H.out.1.chg⟩
              rcases Nat.lt_or_ge j k with h | h
              · exact H.out.2 j h
              · have := HE.out.2.2.2
                rw [List.getElem?_eq_none (by omega), List.getElem?_eq_none (by omega)]
        · have hne : a ≠ b := fun e => h4 (by rw [e])
          have e4' : ((a.kids.length : Int) != (b.kids.length : Int)) = true := by simp; omega
          clear h1 h2 h4
          have HN := Lib.hid hne
          clear hne
          go_enter Try.func110, Try.ntmps110
          go_wp2
          go_ret
          exact SamePost.no HN.out (by with_reducible repeat (first | exact Chg.refl _ _ | apply Chg.alloc | apply Chg.drew | apply Chg.drewN | (refine Chg.setCell ?_ _ _ (by simp))))
      · have hne : a ≠ b := fun e => h3 (by rw [e])
        have e3' : (a.text.toList != b.text.toList) = true := by simpa using h3
        clear h1 h2
        have HN := Lib.hid hne
        clear hne
        go_enter Try.func110, Try.ntmps110
        go_wp2
        go_ret
        exact SamePost.no HN.out (by with_reducible repeat (first | exact Chg.refl _ _ | apply Chg.alloc | apply Chg.drew | apply Chg.drewN | (refine Chg.setCell ?_ _ _ (by simp))))
    · have hne : a ≠ b := fun e => h2 (by rw [e])
      have e2' : (a.kind != b.kind) = true := by simpa using h2
      clear h1 h2
      have HN := Lib.hid hne
      clear hne
      go_enter Try.func110, Try.ntmps110
      go_wp2
      go_ret
      exact SamePost.no HN.out (by with_reducible repeat (first | exact Chg.refl _ _ | apply Chg.alloc | apply Chg.drew | apply Chg.drewN | (refine Chg.setCell ?_ _ _ (by simp))))
  · have hne : a ≠ b := fun e => h1 (by rw [e])
    have e1' : (a.id != b.id) = true := by simpa using h1
    clear h1
    have HN := Lib.hid hne
    clear hne
    go_enter Try.func110, Try.ntmps110
    go_wp2
    go_ret
    exact SamePost.no HN.out (by with_reducible repeat (first | exact Chg.refl _ _ | apply Chg.alloc | apply Chg.drew | apply Chg.drewN | (refine Chg.setCell ?_ _ _ (by simp))))
end Go.Proofs.Ytipijkpjmpejlaa
