import Derived.Test.YtipijkpjmpejlaaDisk5
/- What the statements' own example of a disk comes to: wakes returns true. No condition. -/
set_option linter.unusedVariables false
set_option linter.unusedSimpArgs false
namespace Go.Proofs.Ytipijkpjmpejlaa
open Go.RowKit
theorem bytes_one (w : World) (x : Int) (n : Nat) (h : n = w.heap.size) : BytesAt (w.alloc (.cells #[.int .u8 x] 5 (1, 2))) (some ⟨n, 0, none⟩) [x] := by
  subst h
  refine fun _ => ⟨_, rfl, by simp, fun j v hv => ?_⟩
  rw [Addr.add_mid]
  exact range_all (cs := [.int .u8 x]) (heap_new w _ rfl) j v hv
theorem bytes_nil (w : World) : BytesAt w none [] := fun h => absurd h (Nat.lt_irrefl 0)
theorem push_modify {α : Type} (h : Array α) (o : α) (f : α → α) : (h.push o).modify h.size f = h.push (f o) := by
  apply Array.ext_getElem?
  intro i
  rw [Array.getElem?_modify]
  by_cases e : h.size = i
  · subst e; simp
  · rw [if_neg e, Array.getElem?_push, Array.getElem?_push, if_neg (Ne.symm e), if_neg (Ne.symm e)]
/-- A slice of one byte that a call has just laid, converted to its own type: marked, not changed. -/
theorem conv_one (x : Value) (w : World) : (convert 49 49 (.slice (some ⟨w.heap.size, 0, none⟩) 1 1)).run Try.prog (w.alloc (.cells #[x] 5)) = .ok (.slice (some ⟨w.heap.size, 0, none⟩) 1 1) (w.alloc (.cells #[x] 5 (1, 2))) := by
  have hs : (w.alloc (.cells #[x] 5)).shape? w.heap.size = some (5, 1) := by simp only [World.shape?, heap_new w _ rfl]; rfl
  have hf : (w.alloc (.cells #[x] 5)).freeze { block := w.heap.size, off := 1 } 1 = w.alloc (.cells #[x] 5 (1, 2)) := by
    have hh : ((w.alloc (.cells #[x] 5)).freeze { block := w.heap.size, off := 1 } 1).heap = (w.alloc (.cells #[x] 5 (1, 2))).heap := by
      unfold World.freeze
      rw [if_neg (by decide)]
      dsimp only
      exact (push_modify w.heap (Obj.cells #[x] 5) _).trans rfl
    show ({ (w.alloc (.cells #[x] 5)) with heap := ((w.alloc (.cells #[x] 5)).freeze { block := w.heap.size, off := 1 } 1).heap } : World) = _
    rw [hh]; rfl
  simp [convert, run_underlying Try.underlying49, run_underlying Try.underlying5, markStringish, shape, freeze, Sem.run, hs, hf, Result.andThen]
set_option maxHeartbeats 2000000 in
set_option maxRecDepth 100000 in
theorem dwakes_any (w : World) : Calls Try.prog 27 #[] w fun e w' => e = .returned (.bool true) ∧ Chg [] w w' := by
  have hcv := conv_one
  go_enter Try.func27, Try.ntmps27
  go_wp2_with fail
  refine (new_any _).mono ?_
  rintro e W1 ⟨rfl, hD1, hC1, hZ1⟩
  have H1 := Lib.hid (And.intro hD1 (And.intro hC1 hZ1))
  clear hD1 hC1 hZ1
  go_wp2_with fail
  refine (write_ok (w.heap.size + 1) w.heap.size _ [] false 0 3 _ [97] 1 _ (H1.out.1.kept (l := []) (by with_reducible repeat (first | exact Chg.refl _ _ | apply Chg.alloc | apply Chg.drew | apply Chg.drewN | (refine Chg.setCell ?_ _ _ (by simp)))) (by simp) (by simp) (by simp)) (by omega) (by omega) (by simp) (.inl rfl) (by omega) (by omega) (bytes_one _ _ _ rfl) (fun _ ad h => by cases h; have := H1.out.2.2; simp; omega) (by simp)).mono ?_
  rintro e W2 ⟨rfl, v2, hD2, hC2, hO2⟩
  have h2 : Chg [] w W2 := (H1.out.2.1.trans (by with_reducible repeat (first | exact Chg.refl _ _ | apply Chg.alloc | apply Chg.drew | apply Chg.drewN | (refine Chg.setCell ?_ _ _ (by simp))))).andThen hC2 (by intro i hi; simp [Value.ownBlock] at hi; omega)
  have o2 : ∀ k, v2.ownBlock = some k → w.heap.size ≤ k := by
    intro k hk
    rcases hO2 with h | ⟨b, h, hb⟩
    · rw [h] at hk; cases hk
    · rw [h] at hk; cases hk; have := H1.out.2.2; simp at hb; omega
  have hs2 : w.heap.size + 2 < W2.heap.size := by have := hC2.size; simp at this; have := H1.out.2.2; omega
  have H2 := Lib.hid (And.intro hD2 (And.intro h2 o2))
  clear hD2 hC2 hO2 h2 o2
  go_wp2_with fail
  refine (write_ok (w.heap.size + 1) w.heap.size _ [(3, padB [97])] false _ 3 _ [98] 1 _ (H2.out.1.kept (l := []) (by with_reducible repeat (first | exact Chg.refl _ _ | apply Chg.alloc | apply Chg.drew | apply Chg.drewN | (refine Chg.setCell ?_ _ _ (by simp)))) (by simp) (by simp) (by simp)) (by omega) (by omega) (by simp) (.inl rfl) (by omega) (by omega) (bytes_one _ _ _ rfl) (fun _ ad h => by cases h; simp; omega) (by simp)).mono ?_
  rintro e W3 ⟨rfl, v3, hD3, hC3, hO3⟩
  have h3 : Chg [] w W3 := (H2.out.2.1.trans (by with_reducible repeat (first | exact Chg.refl _ _ | apply Chg.alloc | apply Chg.drew | apply Chg.drewN | (refine Chg.setCell ?_ _ _ (by simp))))).andThen hC3 (by intro i hi; simp at hi; exact .inr (by rcases hi with h | h | h <;> first | omega | exact H2.out.2.2 i h))
  have o3 : ∀ k, v3.ownBlock = some k → w.heap.size ≤ k := by
    intro k hk
    rcases hO3 with h | ⟨b, h, hb⟩
    · rw [h] at hk; exact H2.out.2.2 k hk
    · rw [h] at hk; cases hk; simp at hb; omega
  have hs3 : w.heap.size + 2 < W3.heap.size := by have := hC3.size; simp at this; omega
  have H3 := Lib.hid (And.intro hD3 (And.intro h3 o3))
  clear hD3 hC3 hO3 h3 o3 hcv
  go_wp2_with fail
  refine (cut_any _ _ _ _ _ _ _ 1 _ H3.out.1 (by simp)).mono ?_
  rintro e W4 ⟨rfl, ⟨v4, hD4, o4⟩, hC4⟩
  have H4 := Lib.hid (And.intro hD4 (And.intro o4 hC4))
  have hs4 : W3.heap.size ≤ W4.heap.size := hC4.size
  clear hD4 o4 hC4
  go_wp2_with fail
  refine (read_ok _ _ _ _ _ _ 3 _ H4.out.1 (by omega) (by omega)).mono ?_
  rintro e W5 ⟨A5, c5, rfl, hO5, hC5⟩
  have hs5 : W4.heap.size ≤ W5.heap.size := hC5.size
  have hD5 : DiskA W5 (w.heap.size + 1) w.heap.size v3 [(3, padB [97]), (3, padB [98])] false false (0 - 1 - 1) := (H3.out.1.kept H4.out.2.2 (by simp) (by simp) (by simp)).kept hC5 (by simp) (by simp) (by simp)
  have H5 := Lib.hid (And.intro hD5 (And.intro hO5 hC5))
  clear hD5 hO5 hC5
  go_wp2_with fail
  refine (read_ok _ _ _ _ _ _ 3 _ H5.out.1 (by omega) (by omega)).mono ?_
  rintro e W6 ⟨A6, c6, rfl, hO6, hC6⟩
  have hs6 : W5.heap.size ≤ W6.heap.size := hC6.size
  obtain ⟨g6, rfl, hg6, _, hc6, r6⟩ := own_row hO6 (by omega)
  obtain ⟨g5, rfl, hg5, _, hc5, r5⟩ := own_row (own_kept H5.out.2.1 hC6 (by simp)) (by omega)
  have e51 : W6.cell? ⟨g5, 0, none⟩ = some (.int .u8 97) := r5 0 _ rfl
  have e52 : W6.cell? ⟨g5, 63, none⟩ = some (.int .u8 0) := r5 63 _ rfl
  have e61 : W6.cell? ⟨g6, 0, none⟩ = some (.int .u8 98) := r6 0 _ rfl
  have H6 := Lib.hid (And.intro (H5.out.1.kept hC6 (by simp) (by simp) (by simp)) hC6)
  clear hO6 hC6 r5 r6
  go_wp2_with fail
  refine (arm_ok _ _ _ _ _ _ 1 _ H6.out.1 (by omega) (by omega)).mono ?_
  rintro e W7 ⟨rfl, hD7, hC7⟩
  have hs7 : W6.heap.size ≤ W7.heap.size := hC7.size
  have H7 := Lib.hid (And.intro hD7 hC7)
  clear hD7 hC7
  go_wp2_with fail
  refine (write_ok _ _ _ _ _ _ 4 none [] 0 _ H7.out.1 (by omega) (by omega) (by simp) (.inr (by omega)) (by omega) (by omega) (bytes_nil _) (fun _ ad h => by cases h) (by simp)).mono ?_
  rintro e W8 ⟨rfl, v8, hD8, hC8, hO8⟩
  have hs8 : W7.heap.size ≤ W8.heap.size := hC8.size
  have H8 := Lib.hid (And.intro hD8 (And.intro hC8 hO8))
  clear hD8 hC8 hO8
  go_wp2_with fail
  refine (write_last _ _ _ _ 4 none 0 0 _ H8.out.1 (by omega) (by omega) (by omega)).mono ?_
  rintro e W9 ⟨rfl, hD9, hC9⟩
  have H9 := Lib.hid (And.intro hD9 hC9)
  clear hD9 hC9
  go_wp2_with fail
  refine (down_any _ _ _ _ _ _ _ _ H9.out.1).mono ?_
  rintro e W10 ⟨rfl, rfl⟩
  go_wp2_with fail
  refine (writes_any _ _ _ _ _ _ _ _ H9.out.1).mono ?_
  rintro e W10 ⟨rfl, rfl⟩
  go_wp2
  go_ret
  refine ⟨rfl, ?_⟩
  have h6 : Chg [] w W6 := ((H3.out.2.1.trans H4.out.2.2).trans H5.out.2.2).trans H6.out.2
  have h7 : Chg [] w W7 := h6.andThen H7.out.2 (by intro i hi; simp at hi; exact .inr (by omega))
  have h8 : Chg [] w W8 := h7.andThen H8.out.2.1 (by intro i hi; simp at hi; exact .inr (by rcases hi with h | h | h <;> first | omega | exact H3.out.2.2 i h))
  exact h8.andThen H9.out.2 (by intro i hi; simp at hi; exact .inr (by omega))
end Go.Proofs.Ytipijkpjmpejlaa
