import Derived.Test.YtofjocjljbkjgaaPlainA
/- The laws' wakes of steps. -/
set_option linter.unusedVariables false
set_option linter.unusedSimpArgs false
namespace Go.Proofs.Ytofjocjljbkjgaa
open Go.RowKit
theorem sz0 : (⟨#[]⟩ : ByteArray).size ≤ 9223372036854775807 := by decide
theorem TrC.kidsC {ok : Nat → Prop} {w : World} {t : Tr} {A : Option Addr} {c : Nat} (h : TrC ok w t [.int .i64 (Tr.id t), .int .i64 (Tr.kind t), .string (Tr.text t), .slice A (Tr.kids t).length c]) : KidsC ok w A t.kids := by
  obtain ⟨A', c', hcs, _, _, _, hK⟩ := h.opens
  simp only [List.cons.injEq, Value.slice.injEq, true_and, and_true] at hcs
  obtain ⟨rfl, rfl⟩ := hcs
  exact hK
def leafT (i : Int) : Tr := ⟨i, 0, ⟨#[]⟩, []⟩
def smallT : Tr := ⟨1, 0, ⟨#[]⟩, [leafT 2, ⟨3, 0, ⟨#[]⟩, [leafT 4]⟩]⟩
theorem small_wk (w : World) : Calls Try.prog 54 #[] w fun e w' => ∃ A c, e = .returned (.agg #[.int .i64 (Tr.id smallT), .int .i64 (Tr.kind smallT), .string (Tr.text smallT), .slice A (Tr.kids smallT).length c]) ∧ TrC (fun b => b < w'.heap.size) w' smallT [.int .i64 (Tr.id smallT), .int .i64 (Tr.kind smallT), .string (Tr.text smallT), .slice A (Tr.kids smallT).length c] ∧ Chg [] w w' := by
  go_enter Try.func54, Try.ntmps54
  go_wp2
  have k0 : (((w.alloc (.cells #[.int .i64 1, .int .i64 0, .string ⟨#[]⟩, .slice (some ⟨w.heap.size + 1 + 1, 0, none⟩) 2 2] 24)).alloc (.cells #[.int .i64 4, .int .i64 0, .string ⟨#[]⟩, .slice none 0 0] 24)).alloc (.cells #[.int .i64 2, .int .i64 0, .string ⟨#[]⟩, .slice none 0 0, .int .i64 3, .int .i64 0, .string ⟨#[]⟩, .slice (some ⟨w.heap.size + 1, 0, none⟩) 1 1] 24)).heap[w.heap.size]? = some (.cells #[.int .i64 1, .int .i64 0, .string ⟨#[]⟩, .slice (some ⟨w.heap.size + 1 + 1, 0, none⟩) 2 2] 24 (0, 0)) := heap_old (heap_old (heap_new _ _ rfl) _) _
  have k1 : (((w.alloc (.cells #[.int .i64 1, .int .i64 0, .string ⟨#[]⟩, .slice (some ⟨w.heap.size + 1 + 1, 0, none⟩) 2 2] 24)).alloc (.cells #[.int .i64 4, .int .i64 0, .string ⟨#[]⟩, .slice none 0 0] 24)).alloc (.cells #[.int .i64 2, .int .i64 0, .string ⟨#[]⟩, .slice none 0 0, .int .i64 3, .int .i64 0, .string ⟨#[]⟩, .slice (some ⟨w.heap.size + 1, 0, none⟩) 1 1] 24)).heap[w.heap.size + 1]? = some (.cells #[.int .i64 4, .int .i64 0, .string ⟨#[]⟩, .slice none 0 0] 24 (0, 0)) := heap_old (heap_new _ _ (by simp)) _
  have k2 : (((w.alloc (.cells #[.int .i64 1, .int .i64 0, .string ⟨#[]⟩, .slice (some ⟨w.heap.size + 1 + 1, 0, none⟩) 2 2] 24)).alloc (.cells #[.int .i64 4, .int .i64 0, .string ⟨#[]⟩, .slice none 0 0] 24)).alloc (.cells #[.int .i64 2, .int .i64 0, .string ⟨#[]⟩, .slice none 0 0, .int .i64 3, .int .i64 0, .string ⟨#[]⟩, .slice (some ⟨w.heap.size + 1, 0, none⟩) 1 1] 24)).heap[w.heap.size + 1 + 1]? = some (.cells #[.int .i64 2, .int .i64 0, .string ⟨#[]⟩, .slice none 0 0, .int .i64 3, .int .i64 0, .string ⟨#[]⟩, .slice (some ⟨w.heap.size + 1, 0, none⟩) 1 1] 24 (0, 0)) := heap_new _ _ (by simp)
  refine bodyPost_ret (v := .agg #[.int .i64 1, .int .i64 0, .string ⟨#[]⟩, .slice (some ⟨w.heap.size + 1 + 1, 0, none⟩) 2 2]) (results_cell_row rfl _ _ w.heap.size _ _ _ _ rfl k0 Try.underlying24 rfl szNode) rfl ⟨some ⟨w.heap.size + 1 + 1, 0, none⟩, 2, rfl, ?_, (by with_reducible repeat (first | exact Chg.refl _ _ | apply Chg.alloc | apply Chg.drew | apply Chg.drewN | (refine Chg.setCell ?_ _ _ (by simp))))⟩
  have h1 := lt_of_block k1
  have h2 := lt_of_block k2
  refine TrC.mk smallT (A := some ⟨w.heap.size + 1 + 1, 0, none⟩) (c := 2) (by simp [smallT]) (by omega) sz0 (fun i k hk => ?_)
  match i, hk with
  | 0, hk =>
    simp [smallT] at hk; subst hk
    exact ⟨_, 0, _, rfl, h2, range_of_block (cs := [.int .i64 2, .int .i64 0, .string ⟨#[]⟩, .slice none 0 0, .int .i64 3, .int .i64 0, .string ⟨#[]⟩, .slice (some ⟨w.heap.size + 1, 0, none⟩) 1 1]) k2 0 4, TrC.none (leafT 2) none 0 rfl (by omega) sz0⟩
  | 1, hk =>
    simp [smallT] at hk; subst hk
    refine ⟨_, 0, _, rfl, h2, range_of_block (cs := [.int .i64 2, .int .i64 0, .string ⟨#[]⟩, .slice none 0 0, .int .i64 3, .int .i64 0, .string ⟨#[]⟩, .slice (some ⟨w.heap.size + 1, 0, none⟩) 1 1]) k2 4 4, TrC.mk ⟨3, 0, ⟨#[]⟩, [leafT 4]⟩ (A := some ⟨w.heap.size + 1, 0, none⟩) (c := 1) (by simp) (by omega) sz0 (fun i k hk => ?_)⟩
    match i, hk with
    | 0, hk =>
      simp at hk; subst hk
      exact ⟨_, 0, _, rfl, h1, range_of_block (cs := [.int .i64 4, .int .i64 0, .string ⟨#[]⟩, .slice none 0 0]) k1 0 4, TrC.none (leafT 4) none 0 rfl (by omega) sz0⟩
    | i + 1, hk => simp at hk
  | i + 2, hk => simp [smallT] at hk
theorem w1 : applyMove smallT 2 3 1 (leafT 0) = .ok ⟨1, 0, ⟨#[]⟩, [⟨3, 0, ⟨#[]⟩, [leafT 4, leafT 2]⟩]⟩ := by rfl
theorem w2 : applyMove smallT 3 4 0 (leafT 0) = .error 91 := by rfl
theorem w3 : applyMove smallT 2 1 1 (leafT 0) = .ok ⟨1, 0, ⟨#[]⟩, [⟨3, 0, ⟨#[]⟩, [leafT 4]⟩, leafT 2]⟩ := by rfl
/-- An Apply of a move, the step's subtree none. -/
theorem apply_zero (t : Tr) (id par pl : Int) (A : Option Addr) (c : Nat) (w : World) (hT : TrC (fun b => b < w.heap.size) w t [.int .i64 (Tr.id t), .int .i64 (Tr.kind t), .string (Tr.text t), .slice A (Tr.kids t).length c]) :
    Calls Try.prog 19 #[.agg #[.int .i64 (Tr.id t), .int .i64 (Tr.kind t), .string (Tr.text t), .slice A (Tr.kids t).length c], .agg #[.int .i8 3, .int .i64 id, .int .i64 par, .int .i64 pl, .string ⟨#[]⟩, .int .i64 0, .int .i64 0, .string ⟨#[]⟩, .slice none 0 0]] w (ApplyPost (applyMove t id par pl (leafT 0)) w) :=
  apply_move t id par pl ⟨#[]⟩ (leafT 0) A c none 0 w hT (TrC.none (leafT 0) none 0 rfl (by omega) sz0)
set_option maxHeartbeats 4000000 in
set_option maxRecDepth 100000 in
theorem swakes_any (w : World) : Calls Try.prog 17 #[] w fun e w' => e = .returned (.bool true) ∧ Chg [] w w' := by
  go_enter Try.func17, Try.ntmps17
  go_wp2_with fail
  refine (small_wk _).mono ?_
  rintro e X ⟨A, c, rfl, hT, hX⟩
  have hc := apply_zero smallT 2 3 1 A c X hT
  rw [w1] at hc
  have HC := Lib.hid (And.intro hc hX)
  clear hc hX hT
  go_wp2_with fail
  refine HC.out.1.mono ?_
  rintro e Y ⟨A1, c1, rfl, hV1, hY⟩
  obtain ⟨g1, o1, cs1, rfl, _, hr1, hT1⟩ := hV1.toC.kidsC 0 _ rfl
  obtain ⟨A2, c2, rfl, _, _, _, hK2⟩ := hT1.opens
  obtain ⟨g2, o2, cs2, rfl, _, hr2, hT2⟩ := hK2 1 _ rfl
  obtain ⟨A3, c3, rfl, _⟩ := hT2.opens
  have a1 : Y.cell? ⟨g1, o1 + 3, none⟩ = some (.slice (some ⟨g2, o2, none⟩) 2 c2) := hr1 3 _ rfl
  have a2 : Y.cell? ⟨g2, o2 + 4, none⟩ = some (.int .i64 2) := hr2 0 _ rfl
  have HY := Lib.hid (And.intro a1 (And.intro a2 (HC.out.2.trans hY)))
  clear hV1 hY HC hr1 hT1 hK2 hr2 hT2 a1 a2
  go_wp2_with fail
  obtain ⟨Y2, hY2e⟩ : ∃ Y2, Y2 = Y.alloc (.cells #[.int .i64 1, .int .i64 0, .string ⟨#[]⟩, .slice (some ⟨g1, o1, none⟩) 1 c1] 24) := ⟨_, rfl⟩
  have hY2 : Chg [] Y Y2 := by rw [hY2e]; exact (by with_reducible repeat (first | exact Chg.refl _ _ | apply Chg.alloc | apply Chg.drew | apply Chg.drewN | (refine Chg.setCell ?_ _ _ (by simp))))
  have hb1 : Y2.heap[Y.heap.size]? = some (.cells #[.int .i64 1, .int .i64 0, .string ⟨#[]⟩, .slice (some ⟨g1, o1, none⟩) 1 c1] 24 (0, 0)) := by rw [hY2e]; exact heap_new _ _ rfl
  rw [← hY2e]
  have HY2 := Lib.hid (And.intro hY2 hb1)
  clear hY2e hY2 hb1
  refine (small_wk _).mono ?_
  rintro e X2 ⟨A4, c4, rfl, hT, hX2⟩
  have hc := apply_zero smallT 3 4 0 A4 c4 X2 hT
  rw [w2] at hc
  have HC := Lib.hid (And.intro hc hX2)
  clear hc hX2 hT
  go_wp2_with fail
  refine HC.out.1.mono ?_
  rintro e Z ⟨rfl, hZ⟩
  have HZ := Lib.hid (HC.out.2.trans hZ)
  clear hZ HC
  go_wp2_with fail
  obtain ⟨Z2, hZ2e⟩ : ∃ Z2, Z2 = Z.alloc (.cells #[.int .i64 0, .int .i64 0, .string ⟨#[]⟩, .slice none 0 0] 24) := ⟨_, rfl⟩
  have hZ2 : Chg [] Z Z2 := by rw [hZ2e]; exact (by with_reducible repeat (first | exact Chg.refl _ _ | apply Chg.alloc | apply Chg.drew | apply Chg.drewN | (refine Chg.setCell ?_ _ _ (by simp))))
  rw [← hZ2e]
  have HZ2 := Lib.hid hZ2
  clear hZ2e hZ2
  refine (small_wk _).mono ?_
  rintro e X3 ⟨A5, c5, rfl, hT, hX3⟩
  have hc := apply_zero smallT 2 1 1 A5 c5 X3 hT
  rw [w3] at hc
  have HC := Lib.hid (And.intro hc hX3)
  clear hc hX3 hT
  go_wp2_with fail
  refine HC.out.1.mono ?_
  rintro e V ⟨A6, c6, rfl, hV6, hV⟩
  obtain ⟨g6, o6, cs6, rfl, _, hr6, hT6⟩ := hV6.toC.kidsC 1 _ rfl
  obtain ⟨A7, c7, rfl, _⟩ := hT6.opens
  have hall : Chg [] Y V := HY2.out.1.trans (HZ.out.trans (HZ2.out.trans (HC.out.2.trans hV)))
  have hall2 : Chg [] Y2 V := HZ.out.trans (HZ2.out.trans (HC.out.2.trans hV))
  have hV2 : Chg [] V (V.alloc (.cells #[.int .i64 1, .int .i64 0, .string ⟨#[]⟩, .slice (some ⟨g6, o6, none⟩) 2 c6] 24)) := (by with_reducible repeat (first | exact Chg.refl _ _ | apply Chg.alloc | apply Chg.drew | apply Chg.drewN | (refine Chg.setCell ?_ _ _ (by simp))))
  have e1 := (hall.trans hV2).cell HY.out.1 (by simp)
  have e2 := (hall.trans hV2).cell HY.out.2.1 (by simp)
  have e3 : (V.alloc (.cells #[.int .i64 1, .int .i64 0, .string ⟨#[]⟩, .slice (some ⟨g6, o6, none⟩) 2 c6] 24)).cell? ⟨g6, o6 + 4, none⟩ = some (.int .i64 2) := hV2.cell (hr6 0 _ rfl) (by simp)
  have e4 := (blk4 ((hall2.trans hV2).at HY2.out.2 (by simp))).2.2.2
  have HF := Lib.hid (HY.out.2.2.trans (hall.trans hV2))
  clear hV6 hr6 hT6 hall hall2 hV2 hV HC HZ HZ2 HY HY2
  go_wp2
  go_ret
  exact ⟨rfl, HF.out⟩
end Go.Proofs.Ytofjocjljbkjgaa
