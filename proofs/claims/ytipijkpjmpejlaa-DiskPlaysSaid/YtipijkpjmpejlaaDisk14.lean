import Derived.Test.YtipijkpjmpejlaaDisk10
/- The contracts of the reference's disk: write, arm, up. -/
import Derived.Test.YtipijkpjmpejlaaDisk13
import Derived.Laws.AppendOwnNone
/- The contracts of the reference's disk, on: cut. -/
set_option linter.unusedVariables false
set_option linter.unusedSimpArgs false
namespace Go.Proofs.Ytipijkpjmpejlaa
open Go.RowKit
theorem rcells_take : ∀ (L : List (Int × List Int)) (bv : List Value) (K : Nat), bv.length = L.length → rcells (L.take K) (bv.take K) = (rcells L bv).take (K * 2)
  | [], _, K, _ => by simp [rcells]
  | y :: L, [], K, h => by simp at h
  | y :: L, z :: bv, 0, h => by simp [rcells]
  | y :: L, z :: bv, K + 1, h => by
    have := rcells_take L bv K (by simpa using h)
    have e : ∀ L bv, rcells (y :: L) (z :: bv) = .int .i64 y.1 :: z :: rcells L bv := fun L bv => by simp [rcells]
    rw [List.take_succ_cons, List.take_succ_cons, e, e, this, show (K + 1) * 2 = K * 2 + 1 + 1 from by omega, List.take_succ_cons, List.take_succ_cons]
theorem rcells_mem {L : List (Int × List Int)} {bv : List Value} {u : Value} (h : u ∈ rcells L bv) : (∃ n, u = .int .i64 n) ∨ u ∈ bv := by
  unfold rcells at h
  obtain ⟨x, hx, hu⟩ := List.mem_flatMap.1 h
  simp at hu
  rcases hu with rfl | rfl
  · exact .inl ⟨_, rfl⟩
  · exact .inr (List.of_mem_zip hx).2
theorem RDiskA.one {w : World} {r : Nat} {v : Value} {L : List (Int × List Int)} {bv : List Value} {dead armed : Bool} {left : Int} (h : RDiskA w r v L bv dead armed left) : ∀ u ∈ rcells L bv, u.oneCell' = true := by
  intro u hu
  rcases rcells_mem hu with ⟨n, rfl⟩ | hb
  · rfl
  · obtain ⟨i, hi, he⟩ := List.getElem_of_mem hb
    obtain ⟨x, hx⟩ : ∃ x, L[i]? = some x := ⟨L[i]'(by rw [← h.bvl]; exact hi), List.getElem?_eq_getElem _⟩
    obtain ⟨g, c, e, _⟩ := h.byt i x u hx (by rw [List.getElem?_eq_getElem hi, he])
    rw [e]; rfl
theorem RDiskA.take {w w' : World} {r r' : Nat} {v v' : Value} {L : List (Int × List Int)} {bv : List Value} {dead armed : Bool} {left : Int} (h : RDiskA w r v L bv dead armed left) (K : Nat) (hK : K ≤ L.length) (hc : Chg [] w w')
    (hb : w'.heap[r']? = some (.cells #[v', .bool false, .bool false, .int .i64 0] 62 (0, 0))) (ho : w'.ownsRow 0 134 2 v' K (rcells (L.take K) (bv.take K))) : RDiskA w' r' v' (L.take K) (bv.take K) false false 0 := by
  refine ⟨hb, by rw [List.length_take, Nat.min_eq_left hK]; exact ho, fun x hx => h.len x (List.mem_of_mem_take hx), by simp [h.bvl], fun i x u hx hu => ?_⟩
  rw [List.getElem?_take] at hx hu
  split at hx
  · rename_i hi
    rw [if_pos hi] at hu
    obtain ⟨g, c, e, hg⟩ := h.byt i x u hx hu
    exact ⟨g, c, e, hc.at hg (by simp)⟩
  · cases hx
set_option maxHeartbeats 4000000 in
set_option maxRecDepth 100000 in
theorem rcut_any (r : Nat) (v : Value) (L : List (Int × List Int)) (bv : List Value) (dead armed : Bool) (left n : Int) (w : World) (hD : RDiskA w r v L bv dead armed left) (hL : L.length < 1048576) :
    Calls Try.prog 35 #[.pointer (some ⟨r, 0, none⟩), .int .i64 n] w fun e w' => e = .returned (.pointer (some ⟨w.heap.size, 0, none⟩)) ∧ (∃ v' bv', RDiskA w' w.heap.size v' (L.take (cutN n L.length)) bv' false false 0 ∧ ∀ k, v'.ownBlock = some k → w.heap.size ≤ k) ∧ Chg [] w w' := by
  obtain ⟨ir, ji, jz0, jz1, jz2⟩ := info_parts infoPutR
  obtain ⟨A, c, rfl⟩ := own_slice hD.log
  have hr := lt_of_block hD.blk
  have hcn : cutN n L.length ≤ L.length := by unfold cutN; omega
  have hLc : (L.length : Int) ≤ c := by
    rcases hD.log.2 with ⟨h0, h1⟩ | ⟨g, cap, cur, hv, _, _, hcap, _⟩
    · rw [h1]; omega
    · injection hv with _ _ hc; omega
  have hKc : cutN n L.length ≤ c := by omega
  have hK : ∀ mx mk : Int, mx = max n 0 → mk = min mx L.length → mk = (cutN n L.length : Int) := by intro mx mk h1 h2; subst h1 h2; unfold cutN; omega
  generalize cutN n L.length = K at hK hcn hKc ⊢
  have HK := Lib.hid hK
  have c0 := hD.c0
  have HD := Lib.hid hD
  have HJ := Lib.hid (And.intro ji (And.intro jz0 (And.intro jz1 jz2)))
  clear hD hK ji jz0 jz1 jz2
  go_enter Try.func35, Try.ntmps35
  go_wp2_with (first
    | (refine wpList_max2 rfl (.tmp 6) (.const (.int .i64 0)) 3 3 rfl n 0 rfl rfl ?_; intro mx hmx)
    | (refine wpList_min2 rfl (.tmp 7) (.tmp 12) 3 3 rfl mx L.length rfl rfl ?_; intro mk hmk; rw [HK.out mx mk hmx.out hmk.out])
    | fail)
  refine wp_world (fun X => X.heap[w.heap.size]? = some (.cells #[.slice none 0 0, .bool false, .bool false, .int .i64 0] 62 (0, 0)) ∧ Chg [] w X ∧ X.heap.size = w.heap.size + 1) ⟨heap_new _ _ rfl, (by with_reducible repeat (first | exact Chg.refl _ _ | apply Chg.alloc | apply Chg.drew | apply Chg.drewN | (refine Chg.setCell ?_ _ _ (by simp)))), by simp⟩ ?_
  rintro X ⟨hb, hX, hZ⟩
  have b0 : X.cell? ⟨w.heap.size, 0, none⟩ = some (.slice none 0 0) := by simp [World.cell?, hb]
  have b1 := hX.cell c0 (by simp)
  have HB := Lib.hid (And.intro hb (And.intro hX hZ))
  clear c0 hb hX hZ
  refine wp_region_M (fun _ => True) (fun k => [11, 14].contains k) (fun k => k == 14) (by kernel_rfl) ?_
  ((try dsimp only); (try simp only [Act.put, List.setIfInBounds_toArray, List.set_cons_zero, List.set_cons_succ]))
  refine M_pure (i := 0) (v := ?_) rfl (by kernel_rfl) (by kernel_rfl) (by kernel_rfl) (fun _ _ _ h => h) (by rfl) ?hy ?_; case hy => (intro w; go_simp; with_reducible rfl); ((try dsimp only); (try simp only [Act.put, List.setIfInBounds_toArray, List.set_cons_zero, List.set_cons_succ]))
  refine M_pure (i := 1) (v := ?_) rfl (by kernel_rfl) (by kernel_rfl) (by kernel_rfl) (fun _ _ _ h => h) (by rfl) ?hy ?_; case hy => (intro w; go_simp; with_reducible rfl); ((try dsimp only); (try simp only [Act.put, List.setIfInBounds_toArray, List.set_cons_zero, List.set_cons_succ]))
  refine M_pure (i := 2) (v := ?_) rfl (by kernel_rfl) (by kernel_rfl) (by kernel_rfl) (fun _ _ _ h => h) (by rfl) ?hy ?_; case hy => (intro w; go_simp; with_reducible rfl); ((try dsimp only); (try simp only [Act.put, List.setIfInBounds_toArray, List.set_cons_zero, List.set_cons_succ]))
  refine M_pure (i := 3) (v := ?_) rfl (by kernel_rfl) (by kernel_rfl) (by kernel_rfl) (fun _ _ _ h => h) (by rfl) ?hy ?_; case hy => (intro w; go_simp; with_reducible rfl); ((try dsimp only); (try simp only [Act.put, List.setIfInBounds_toArray, List.set_cons_zero, List.set_cons_succ]))
  refine M_take (i := 4) (v := ?_) rfl (by kernel_rfl) (by kernel_rfl) (by kernel_rfl) (by kernel_rfl) (fun _ _ _ h => h) (by rfl) ?hy ?_; case hy => (go_simp; with_reducible rfl); ((try dsimp only); (try simp only [Act.put, List.setIfInBounds_toArray, List.set_cons_zero, List.set_cons_succ]))
  refine M_pure (i := 5) (v := ?_) rfl (by kernel_rfl) (by kernel_rfl) (by kernel_rfl) (fun _ _ _ h => h) (by rfl) ?hy ?_; case hy => (intro w; go_simp; with_reducible rfl); ((try dsimp only); (try simp only [Act.put, List.setIfInBounds_toArray, List.set_cons_zero, List.set_cons_succ]))
  refine M_pure (i := 6) (v := ?_) rfl (by kernel_rfl) (by kernel_rfl) (by kernel_rfl) (fun _ _ _ h => h) (by rfl) ?hy ?_; case hy => (intro w; go_simp; with_reducible rfl); ((try dsimp only); (try simp only [Act.put, List.setIfInBounds_toArray, List.set_cons_zero, List.set_cons_succ]))
  refine M_pure (i := 7) (v := ?_) rfl (by kernel_rfl) (by kernel_rfl) (by kernel_rfl) (fun _ _ _ h => h) (by rfl) ?hy ?_; case hy => (intro w; go_simp; with_reducible rfl); ((try dsimp only); (try simp only [Act.put, List.setIfInBounds_toArray, List.set_cons_zero, List.set_cons_succ]))
  refine M_take (i := 8) (v := ?_) rfl (by kernel_rfl) (by kernel_rfl) (by kernel_rfl) (by kernel_rfl) (fun _ _ _ h => h) (by rfl) ?hy ?_; case hy => (go_simp; with_reducible rfl); ((try dsimp only); (try simp only [Act.put, List.setIfInBounds_toArray, List.set_cons_zero, List.set_cons_succ]))
  refine M_pure (i := 9) (v := ?_) rfl (by kernel_rfl) (by kernel_rfl) (by kernel_rfl) (fun _ _ _ h => h) (by rfl) ?hy ?_; case hy => (intro w; go_simp; with_reducible rfl); ((try dsimp only); (try simp only [Act.put, List.setIfInBounds_toArray, List.set_cons_zero, List.set_cons_succ]))
  refine M_pure (i := 10) (v := ?_) rfl (by kernel_rfl) (by kernel_rfl) (by kernel_rfl) (fun _ _ _ h => h) (by rfl) ?hy ?_; case hy => (intro w; go_simp; with_reducible rfl); ((try dsimp only); (try simp only [Act.put, List.setIfInBounds_toArray, List.set_cons_zero, List.set_cons_succ]))
  ((try dsimp only); (try simp only [Act.put, List.setIfInBounds_toArray, List.set_cons_zero, List.set_cons_succ]))
  have hfin : ∀ v' W1, W1.ownsRow 0 134 2 v' K (rcells (L.take K) (bv.take K)) → Chg [] X.drew W1 → (∀ k, v'.ownBlock = some k → k = X.heap.size) → ∀ Z, Chg [w.heap.size] W1 Z → Z.heap[w.heap.size]? = some (.cells #[v', .bool false, .bool false, .int .i64 0] 62 (0, 0)) →
      (∃ v' bv', RDiskA Z w.heap.size v' (L.take K) bv' false false 0 ∧ ∀ k, v'.ownBlock = some k → w.heap.size ≤ k) ∧ Chg [] w Z := by
    intro v' W1 ho hC hat Z hCZ hb
    have hwZ : Chg [] w Z := (HB.out.2.1.trans (Chg.trans (Chg.drew (Chg.refl _ _)) hC)).andThen hCZ (by intro i hi; simp at hi; omega)
    refine ⟨⟨v', bv.take K, HD.out.take K hcn hwZ hb (own_kept ho hCZ (fun k hk => ?_)), fun k hk => ?_⟩, hwZ⟩
    · have := hat k hk; have := HB.out.2.2; simp; omega
    · have := hat k hk; have := HB.out.2.2; omega
  have HF := Lib.hid hfin
  clear hfin
  cases A with
  | none =>
    obtain ⟨hl0, hc0⟩ : L.length = 0 ∧ c = 0 := by
      rcases HD.out.log.2 with ⟨h0, h1⟩ | ⟨g, cap, cur, hv, _⟩
      · injection h0 with _ _ h2; exact ⟨h1, h2⟩
      · cases hv
    have hK0 : K = 0 := by omega
    subst hK0 hc0
    refine M_eff (i := 11) rfl (by kernel_rfl) (by rfl) ?_
    refine wpList_append_own_none rfl (.tmp 20) (.tmp 26) 60 rfl 0 134 ir 2 Try.underlying60 HJ.out.1 (.slice none 0 0) 0 [] rfl ⟨rfl, .inl ⟨rfl, rfl⟩⟩ rfl ?_
    refine wpList_nil ⟨trivial, ?_⟩
    ((try dsimp only); (try simp only [Act.put, List.setIfInBounds_toArray, List.set_cons_zero, List.set_cons_succ]))
    refine M_pure (i := 12) (v := ?_) rfl (by kernel_rfl) (by kernel_rfl) (by kernel_rfl) (fun _ _ _ h => h) (by rfl) ?hy ?_; case hy => (intro w; go_simp; with_reducible rfl); ((try dsimp only); (try simp only [Act.put, List.setIfInBounds_toArray, List.set_cons_zero, List.set_cons_succ]))
    refine M_pure (i := 13) (v := ?_) rfl (by kernel_rfl) (by kernel_rfl) (by kernel_rfl) (fun _ _ _ h => h) (by rfl) ?hy ?_; case hy => (intro w; go_simp; with_reducible rfl); ((try dsimp only); (try simp only [Act.put, List.setIfInBounds_toArray, List.set_cons_zero, List.set_cons_succ]))
    have f0 : X.frozen? ⟨w.heap.size, 0, none⟩ = false := by simp [World.frozen?, HB.out.1]
    refine M_brk (i := 14) rfl (by kernel_rfl) (by rfl) (by rfl) ?_
    go_wp2
    refine M_done (by kernel_rfl) ?_ _
    go_wp2_with fail
    go_ret
    exact ⟨rfl, HF.out _ X.drew ⟨rfl, .inl ⟨rfl, rfl⟩⟩ (Chg.refl _ _) (fun k hk => by cases hk) _ ((Chg.refl _ _).setCell _ _ (by simp)) (heap_setCell_same _ _ 0 _ _ _ HB.out.1)⟩
  | some ad =>
    have hsrc : ∃ g, ad = ⟨g, 0, none⟩ ∧ ∀ j u, (rcells (L.take K) (bv.take K))[j]? = some u → X.drew.cell? ⟨g, j, none⟩ = some u := by
      rcases HD.out.log.2 with ⟨h0, _⟩ | ⟨g, cap, cur, hv, _, hh, hcap, _, hsz, htk⟩
      · cases h0
      · injection hv with hA _ hc
        injection hA with hA
        refine ⟨g, hA, fun j u hu => ?_⟩
        rw [rcells_take _ _ _ HD.out.bvl, ← htk, List.take_take, List.getElem?_take] at hu
        split at hu
        · have : w.cell? ⟨g, j, none⟩ = some u := by simpa [World.cell?, hh] using hu
          exact (HB.out.2.1.drew).cell this (by simp)
        · cases hu
    obtain ⟨g, rfl, hg⟩ := hsrc
    have hl : (rcells (L.take K) (bv.take K)).length = K * 2 := by
      rw [rcells_length _ _ (by simp [HD.out.bvl])]; simp; omega
    have h1c : ∀ u ∈ rcells (L.take K) (bv.take K), u.oneCell' = true := by
      intro u hu
      rw [rcells_take _ _ _ HD.out.bvl] at hu
      exact HD.out.one u (List.mem_of_mem_take hu)
    refine M_eff (i := 11) rfl (by kernel_rfl) (by rfl) ?_
    refine wpList_append_own_at _ rfl (.tmp 20) (.tmp 26) 60 rfl 0 134 ir _ 2 32 Try.underlying60 HJ.out.1 HJ.out.2.1 HJ.out.2.2.1 HJ.out.2.2.2 rfl (by omega) (.slice none 0 0) 0 [] rfl ⟨rfl, .inl ⟨rfl, rfl⟩⟩ ⟨g, 0, none⟩ K c (rcells (L.take K) (bv.take K)) rfl hl (fun j u hu => by rw [Addr.add_mid, Nat.zero_add]; exact hg j u hu) h1c (by unfold maxLen; omega) (by omega) (Nat.zero_le _) ?_
    intro v' W1 hown' hgr _ hat
    rw [Nat.zero_add, List.nil_append] at hown'
    have hC : Chg [] X.drew W1 := Chg.grown (Chg.refl _ _) hgr (by intro k hk; cases hk)
    have hat' : ∀ k, v'.ownBlock = some k → k = X.heap.size := by
      intro k hk
      rcases hat with h | h
      · rw [h] at hk; cases hk
      · rw [h] at hk; injection hk with hk; exact hk.symm
    have hb1 := hC.at (show X.drew.heap[w.heap.size]? = _ from HB.out.1) (by simp)
    have HW := Lib.hid (And.intro hown' (And.intro hC (And.intro hat' hb1)))
    have e0 : W1.cell? ⟨w.heap.size, 0, none⟩ = some (.slice none 0 0) := by simp [World.cell?, hb1]
    have f0 : W1.frozen? ⟨w.heap.size, 0, none⟩ = false := by simp [World.frozen?, hb1]
    obtain ⟨A', c', rfl⟩ := own_slice hown'
    clear hown' hgr hat hC hat' hb1 hg h1c
    refine wpList_nil ⟨trivial, ?_⟩
    ((try dsimp only); (try simp only [Act.put, List.setIfInBounds_toArray, List.set_cons_zero, List.set_cons_succ]))
    refine M_pure (i := 12) (v := ?_) rfl (by kernel_rfl) (by kernel_rfl) (by kernel_rfl) (fun _ _ _ h => h) (by rfl) ?hy ?_; case hy => (intro w; go_simp; with_reducible rfl); ((try dsimp only); (try simp only [Act.put, List.setIfInBounds_toArray, List.set_cons_zero, List.set_cons_succ]))
    refine M_pure (i := 13) (v := ?_) rfl (by kernel_rfl) (by kernel_rfl) (by kernel_rfl) (fun _ _ _ h => h) (by rfl) ?hy ?_; case hy => (intro w; go_simp; with_reducible rfl); ((try dsimp only); (try simp only [Act.put, List.setIfInBounds_toArray, List.set_cons_zero, List.set_cons_succ]))
    refine M_brk (i := 14) rfl (by kernel_rfl) (by rfl) (by rfl) ?_
    go_wp2
    refine M_done (by kernel_rfl) ?_ _
    go_wp2_with fail
    go_ret
    exact ⟨rfl, HF.out _ W1 HW.out.1 HW.out.2.1 HW.out.2.2.1 _ ((Chg.refl _ _).setCell _ _ (by simp)) (heap_setCell_same _ _ 0 _ _ _ HW.out.2.2.2)⟩
end Go.Proofs.Ytipijkpjmpejlaa
