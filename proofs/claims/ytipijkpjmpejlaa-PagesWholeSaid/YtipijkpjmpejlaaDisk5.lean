import Derived.Test.YtipijkpjmpejlaaDisk4
/- The contract of the program's disk, on: cut. -/
set_option linter.unusedVariables false
set_option linter.unusedSimpArgs false
namespace Go.Proofs.Ytipijkpjmpejlaa
open Go.RowKit
theorem cut_nil (n : Int) (w : World) : Calls Try.prog 31 #[.pointer none, .int .i64 n] w fun e w' => e = .returned (.pointer (some ⟨w.heap.size + 1, 0, none⟩)) ∧ DiskA w' (w.heap.size + 1) w.heap.size (.slice none 0 0) [] false false 0 ∧ Chg [] w w' := by
  go_enter Try.func31, Try.ntmps31
  go_wp2_with (go_at_call 28; refine (new_any w).mono ?_; rintro e W ⟨rfl, hD, hC, hZ⟩; have H := Lib.hid (And.intro hD (And.intro hC hZ)); clear hD hC hZ)
  go_ret
  exact ⟨rfl, H.out.1.kept (l := []) (by with_reducible repeat (first | exact Chg.refl _ _ | apply Chg.alloc | apply Chg.drew | apply Chg.drewN | (refine Chg.setCell ?_ _ _ (by simp)))) (by simp) (by simp) (by simp), H.out.2.1.trans (by with_reducible repeat (first | exact Chg.refl _ _ | apply Chg.alloc | apply Chg.drew | apply Chg.drewN | (refine Chg.setCell ?_ _ _ (by simp))))⟩
/-- How many writes a cut keeps. -/
def cutN (n : Int) (len : Nat) : Nat := min n.toNat len
theorem cutN_eq (n : Int) (len : Nat) : (if (len : Int) < (if n < 0 then 0 else n) then (len : Int) else (if n < 0 then 0 else n)) = (cutN n len : Int) := by unfold cutN; split <;> (try split) <;> (try split at *) <;> omega
theorem src_of_log {w : World} {e : TypeId} {A : Option Addr} {c : Nat} {L : List (Int × List Int)} (h : w.ownsRow 0 e 65 (.slice A L.length c) L.length (logCells L)) (hl : ∀ x ∈ L, x.2.length = 64) : SrcAt w A L := by
  intro i x hx
  have hlt : i < L.length := (List.getElem?_eq_some_iff.1 hx).1
  rcases h.2 with ⟨h0, h1⟩ | ⟨g, cap, cur, hv, _, hh, hcap, _, hsz, htk⟩
  · omega
  · injection hv with hA _ hc
    subst hA
    refine ⟨g, rfl, lt_of_block hh, fun j u hu => ?_⟩
    have hj : j < 65 := by
      have := (List.getElem?_eq_some_iff.1 hu).1
      simpa [u8s, hl x (List.mem_of_getElem? hx)] using this
    have hat : (logCells L)[i * 65 + j]? = some u := by
      clear h htk hsz hcap hh
      induction L generalizing i with
      | nil => simp at hx
      | cons y L ih =>
        have hy : (Value.int .i64 y.1 :: u8s y.2).length = 65 := by simp [u8s, hl y (by simp)]
        rw [logCells, List.flatMap_cons, ← logCells]
        cases i with
        | zero =>
          simp at hx; subst hx
          rw [Nat.zero_mul, Nat.zero_add, List.getElem?_append_left (by rw [hy]; exact hj)]
          exact hu
        | succ i =>
          rw [List.getElem?_append_right (by rw [hy]; omega), hy, show (i + 1) * 65 + j - 65 = i * 65 + j from by omega]
          exact ih (fun z hz => hl z (by simp [hz])) i (by simpa using hx) (by simpa using hlt) rfl
    rw [← htk] at hat
    simp only [World.cell?, hh]
    have : i * 65 + j < L.length * 65 := by omega
    rw [List.getElem?_take_of_lt this] at hat
    simpa using hat
theorem SrcAt.take {w : World} {A : Option Addr} {L : List (Int × List Int)} (h : SrcAt w A L) (k : Nat) : SrcAt w A (L.take k) := fun i x hx => h i x (by
  rw [List.getElem?_take] at hx; split at hx
  · exact hx
  · cases hx)
theorem SrcAt.kept {w w' : World} {A : Option Addr} {L : List (Int × List Int)} (h : SrcAt w A L) {l : List Nat} (hc : Chg l w w') (hl : ∀ a, A = some a → a.block ∉ l) : SrcAt w' A L := fun i x hx => by
  obtain ⟨g, hA, hg, hr⟩ := h i x hx
  exact ⟨g, hA, Nat.lt_of_lt_of_le hg hc.size, hc.range hr (hl _ hA)⟩
set_option maxHeartbeats 2000000 in
set_option maxRecDepth 100000 in
theorem cut_any (p bm : Nat) (v : Value) (L : List (Int × List Int)) (down armed : Bool) (left n : Int) (w : World) (hD : DiskA w p bm v L down armed left) (hL : L.length < 1048576) :
    Calls Try.prog 31 #[.pointer (some ⟨p, 0, none⟩), .int .i64 n] w fun e w' => e = .returned (.pointer (some ⟨w.heap.size + 1, 0, none⟩)) ∧ (∃ v', DiskA w' (w.heap.size + 1) w.heap.size v' (L.take (cutN n L.length)) false false 0 ∧ ∀ k, v'.ownBlock = some k → w.heap.size ≤ k) ∧ Chg [] w w' := by
  obtain ⟨A, c, rfl⟩ := own_slice hD.log
  have hp := lt_of_block hD.blk
  have hap := hD.apart
  have hLc : (L.length : Int) ≤ c := by
    rcases hD.log.2 with ⟨h0, h1⟩ | ⟨g, cap, cur, hv, _, _, hcap, _⟩
    · rw [h1]; omega
    · injection hv with _ _ hc; omega
  have hcn : cutN n L.length ≤ L.length := by unfold cutN; omega
  have hKc : cutN n L.length ≤ c := by omega
  have hK := cutN_eq n L.length
  generalize cutN n L.length = K at hK hcn hKc ⊢
  obtain ⟨mx, hmx⟩ : ∃ mx : Int, mx = (if n < 0 then 0 else n) := ⟨_, rfl⟩
  rw [← hmx] at hK
  have HMX := Lib.hid hmx
  clear hmx
  have HK := Lib.hid hK
  have HD := Lib.hid hD
  have HAP := Lib.hid hap
  have c1 := hD.c1
  clear hK hD hap
  go_enter Try.func31, Try.ntmps31
  go_wp2_with (go_at_call 28; refine (new_any w).mono ?_; rintro e W ⟨rfl, hD1, hC1, hZ1⟩; have H := Lib.hid (And.intro hD1 (And.intro hC1 hZ1)); have c2 := hC1.cell c1 (by simp); have hz := hZ1; clear hD1 hC1 hZ1 c1)
  refine wp_world (fun X => X.cell? ⟨w.heap.size + 2, 0, none⟩ = some (.pointer (some ⟨w.heap.size + 1, 0, none⟩)) ∧ Chg [] W X) ⟨by go_simp, (by with_reducible repeat (first | exact Chg.refl _ _ | apply Chg.alloc | apply Chg.drew | apply Chg.drewN | (refine Chg.setCell ?_ _ _ (by simp))))⟩ ?_
  rintro X ⟨c3, hX⟩
  have c4 := hX.cell c2 (by simp)
  clear c2
  refine wp_region_M (fun _ => True) (fun k => k == 14) (fun k => k == 14) (by kernel_rfl) ?_
  ((try dsimp only); (try simp only [Act.put, List.setIfInBounds_toArray, List.set_cons_zero, List.set_cons_succ]))
  refine M_pure (i := 0) (v := ?_) rfl (by kernel_rfl) (by kernel_rfl) (by kernel_rfl) (fun _ _ _ h => h) (by rfl) ?hy ?_; case hy => (intro w; go_simp; with_reducible rfl); ((try dsimp only); (try simp only [Act.put, List.setIfInBounds_toArray, List.set_cons_zero, List.set_cons_succ]))
  refine M_pure (i := 1) (v := ?_) rfl (by kernel_rfl) (by kernel_rfl) (by kernel_rfl) (fun _ _ _ h => h) (by rfl) ?hy ?_; case hy => (intro w; go_simp; with_reducible rfl); ((try dsimp only); (try simp only [Act.put, List.setIfInBounds_toArray, List.set_cons_zero, List.set_cons_succ]))
  refine M_pure (i := 2) (v := ?_) rfl (by kernel_rfl) (by kernel_rfl) (by kernel_rfl) (fun _ _ _ h => h) (by rfl) ?hy ?_; case hy => (intro w; go_simp; with_reducible rfl); ((try dsimp only); (try simp only [Act.put, List.setIfInBounds_toArray, List.set_cons_zero, List.set_cons_succ]))
  refine M_pure (i := 3) (v := ?_) rfl (by kernel_rfl) (by kernel_rfl) (by kernel_rfl) (fun _ _ _ h => h) (by rfl) ?hy ?_; case hy => (intro w; go_simp; with_reducible rfl); ((try dsimp only); (try simp only [Act.put, List.setIfInBounds_toArray, List.set_cons_zero, List.set_cons_succ]))
  refine M_take (i := 4) (v := ?_) rfl (by kernel_rfl) (by kernel_rfl) (by kernel_rfl) (by kernel_rfl) (fun _ _ _ h => h) (by rfl) ?hy ?_; case hy => (go_simp; with_reducible rfl); ((try dsimp only); (try simp only [Act.put, List.setIfInBounds_toArray, List.set_cons_zero, List.set_cons_succ]))
  refine M_pure (i := 5) (v := ?_) rfl (by kernel_rfl) (by kernel_rfl) (by kernel_rfl) (fun _ _ _ h => h) (by rfl) ?hy ?_; case hy => (intro w; go_simp; with_reducible rfl); ((try dsimp only); (try simp only [Act.put, List.setIfInBounds_toArray, List.set_cons_zero, List.set_cons_succ]))
  refine M_pure (i := 6) (v := ?_) rfl (by kernel_rfl) (by kernel_rfl) (by kernel_rfl) (fun _ _ _ h => h) (by rfl) ?hy ?_; case hy => (intro w; go_simp; with_reducible rfl); ((try dsimp only); (try simp only [Act.put, List.setIfInBounds_toArray, List.set_cons_zero, List.set_cons_succ]))
  rw [← HMX.out]
  refine M_pure (i := 7) (v := ?_) rfl (by kernel_rfl) (by kernel_rfl) (by kernel_rfl) (fun _ _ _ h => h) (by rfl) ?hy ?_; case hy => (intro w; go_simp; with_reducible rfl); ((try dsimp only); (try simp only [Act.put, List.setIfInBounds_toArray, List.set_cons_zero, List.set_cons_succ]))
  refine M_pure (i := 8) (v := ?_) rfl (by kernel_rfl) (by kernel_rfl) (by kernel_rfl) (fun _ _ _ h => h) (by rfl) ?hy ?_; case hy => (intro w; go_simp; with_reducible rfl); ((try dsimp only); (try simp only [Act.put, List.setIfInBounds_toArray, List.set_cons_zero, List.set_cons_succ]))
  refine M_pure (i := 9) (v := ?_) rfl (by kernel_rfl) (by kernel_rfl) (by kernel_rfl) (fun _ _ _ h => h) (by rfl) ?hy ?_; case hy => (intro w; go_simp; with_reducible rfl); ((try dsimp only); (try simp only [Act.put, List.setIfInBounds_toArray, List.set_cons_zero, List.set_cons_succ]))
  refine M_take (i := 10) (v := ?_) rfl (by kernel_rfl) (by kernel_rfl) (by kernel_rfl) (by kernel_rfl) (fun _ _ _ h => h) (by rfl) ?hy ?_; case hy => (go_simp; with_reducible rfl); ((try dsimp only); (try simp only [Act.put, List.setIfInBounds_toArray, List.set_cons_zero, List.set_cons_succ]))
  refine M_pure (i := 11) (v := ?_) rfl (by kernel_rfl) (by kernel_rfl) (by kernel_rfl) (fun _ _ _ h => h) (by rfl) ?hy ?_; case hy => (intro w; go_simp; with_reducible rfl); ((try dsimp only); (try simp only [Act.put, List.setIfInBounds_toArray, List.set_cons_zero, List.set_cons_succ]))
  refine M_pure (i := 12) (v := ?_) rfl (by kernel_rfl) (by kernel_rfl) (by kernel_rfl) (fun _ _ _ h => h) (by rfl) ?hy ?_; case hy => (intro w; go_simp; with_reducible rfl); ((try dsimp only); (try simp only [Act.put, List.setIfInBounds_toArray, List.set_cons_zero, List.set_cons_succ]))
  rw [HK.out]
  refine M_pure (i := 13) (v := ?_) rfl (by kernel_rfl) (by kernel_rfl) (by kernel_rfl) (fun _ _ _ h => h) (by rfl) ?hy ?_; case hy => (intro w; go_simp; with_reducible rfl); ((try dsimp only); (try simp only [Act.put, List.setIfInBounds_toArray, List.set_cons_zero, List.set_cons_succ]))
  refine M_brk (i := 14) rfl (by kernel_rfl) (by rfl) (by rfl) ?_
  have hlen : (L.take K).length = K := by simp; omega
  have hX2 : Chg [] W X.drew := hX.drew
  have hDX : DiskA X.drew (w.heap.size + 1) w.heap.size (.slice none 0 0) [] false false 0 := H.out.1.kept (l := []) hX2 (by simp) (by simp) (by simp)
  have hsrc : SrcAt X.drew A (L.take K) := (((src_of_log HD.out.log HD.out.len).kept H.out.2.1 (by simp)).kept hX2 (by simp)).take K
  have hA : ∀ a, A = some a → a.block ≠ w.heap.size + 1 ∧ a.block ≠ w.heap.size := by
    intro a e
    have := (HAP.out.2 a.block (by rw [e]; rfl)).2.2
    omega
  have hc := again_any A c (L.take K) (w.heap.size + 2) (w.heap.size + 1) w.heap.size X.drew hsrc hA (fun x hx => HD.out.len x (List.mem_of_mem_take hx)) (by omega) hDX c3 (by omega)
  rw [hlen] at hc
  have HC := Lib.hid hc
  have HX2 := Lib.hid (And.intro hX2 c3)
  have hsz : W.heap.size ≤ X.drew.heap.size := hX2.size
  clear hc hX2 hDX hsrc hA hX c3 c4 hlen
  go_wp2_with (go_at_call 77; refine HC.out.mono ?_; rintro e Y ⟨rfl, v', hY1, hY2, hY3⟩; have HY := Lib.hid (And.intro hY1 (And.intro hY2 hY3)); clear hY1 hY2 hY3)
  refine M_done (by kernel_rfl) ?_ _
  have c5 : Y.cell? ⟨w.heap.size + 2, 0, none⟩ = some (.pointer (some ⟨w.heap.size + 1, 0, none⟩)) := HY.out.2.1.cell HX2.out.2 (by simp)
  go_wp2_with fail
  go_ret
  refine ⟨rfl, ⟨v', HY.out.1, fun k hk => ?_⟩, ?_⟩
  · have := HY.out.2.2 k hk; omega
  · exact (H.out.2.1.trans HX2.out.1).andThen HY.out.2.1 (by intro i hi; simp at hi; omega)
end Go.Proofs.Ytipijkpjmpejlaa
