import Derived.Test.YtofjocjljbkjgaaStepA
/- The contracts of the program's steps: how many nodes, the first node of an id. Condition: none but that the tree can be read. -/
set_option linter.unusedVariables false
set_option linter.unusedSimpArgs false
namespace Go.Proofs.Ytofjocjljbkjgaa
open Go.RowKit
theorem nodesL_take (ks : List Tr) (k : Nat) (h : k < ks.length) : nodesL (ks.take (k + 1)) = nodesL (ks.take k) + (ks[k]).nodes := by
  rw [take_snoc' ks k h, nodesL_append]; simp [nodesL]
theorem nodesL_take_le (ks : List Tr) (k : Nat) : nodesL (ks.take k) ≤ nodesL ks := by
  have := nodesL_append (ks.take k) (ks.drop k)
  rw [List.take_append_drop] at this; omega
/-- What a count leaves: whether there are at most 2000, and how many. -/
def CountPost (t : Tr) (m : Nat) (n : Int) (w : World) (e : Ending) (w' : World) : Prop := ∃ n' : Int, e = .returned (.bool (decide (n + t.nodes ≤ 2000))) ∧ w'.heap[m]? = some (.cells #[.int .i64 n'] 3 (0, 0)) ∧ (n + t.nodes ≤ 2000 → n' = n + t.nodes) ∧ Chg [m] w w'
set_option maxHeartbeats 4000000 in
set_option maxRecDepth 100000 in
theorem count_any (m : Nat) : ∀ (t : Tr) (g o : Nat) (n : Int) (w : World), TrAt (fun b => b ≠ m) w g o t → g ≠ m → 0 ≤ n → n ≤ 2000 → w.heap[m]? = some (.cells #[.int .i64 n] 3 (0, 0)) → Calls Try.prog 106 #[.pointer (some ⟨g, o, none⟩), .pointer (some ⟨m, 0, none⟩)] w (CountPost t m n w) := by
  intro t
  induction t using Tr.ind with
  | h t ih =>
  intro g o n w hT hgm hn0 hn1 hm
  obtain ⟨A, c, c0, c1, c2, c3, hlc, hcm, htx, hK⟩ := hT.cells
  have m0 : w.cell? ⟨m, 0, none⟩ = some (.int .i64 n) := by simp [World.cell?, hm]
  have mf := blkF hm 0
  have htn := t.nodes_eq
  have hpos : 0 ≤ nodesL t.kids := Nat.zero_le _
  have hC1 : Chg [m] w (w.setCell ⟨m, 0, none⟩ (.int .i64 (n + 1))) := (Chg.refl _ _).setCell _ _ (by simp)
  have hm1 : (w.setCell ⟨m, 0, none⟩ (.int .i64 (n + 1))).heap[m]? = some (.cells #[.int .i64 (n + 1)] 3 (0, 0)) := heap_setCell_same _ _ 0 _ _ _ hm
  have d3 := hC1.cell c3 (by simpa using hgm)
  have HH := Lib.hid (And.intro ih (And.intro hK (And.intro hcm (And.intro hlc (And.intro hC1 (And.intro hm1 htn))))))
  clear ih hT hK htx c0 c1 c2 hC1 hm1 htn hm hpos
  by_cases hbig : 2000 < n + 1
  · go_enter Try.func106, Try.ntmps106
    go_wp2
    go_ret
    have htn := HH.out.2.2.2.2.2.2
    exact ⟨n + 1, by rw [decide_eq_false (by omega)]; rfl, HH.out.2.2.2.2.2.1, fun h => by omega, HH.out.2.2.2.2.1⟩
  · have hb : decide (2000 < n + 1) = false := by simpa using hbig
    go_enter Try.func106, Try.ntmps106
    go_wp2_with fail
    go_loopw [20] (fun i wr => ∃ k : Nat, k ≤ t.kids.length ∧ i = .int .i64 k ∧ Hid (wr.heap[m]? = some (.cells #[.int .i64 (n + 1 + nodesL (t.kids.take k))] 3 (0, 0)) ∧ n + 1 + nodesL (t.kids.take k) ≤ 2000 ∧ Chg [m] w wr)) (fun i _ => t.kids.length - (intOf i).toNat)
    case atStart => exact ⟨0, Nat.zero_le _, rfl, by simpa [nodesL] using HH.out.2.2.2.2.2.1, by simp [nodesL]; omega, HH.out.2.2.2.2.1⟩
    case round =>
      obtain ⟨k, hk, rfl, H⟩ := hrel
      have htn := HH.out.2.2.2.2.2.2
      by_cases hlt : k < t.kids.length
      · have e3 := H.out.2.2.cell c3 (by simpa using hgm)
        obtain ⟨gk, ok, hA, hok, hat⟩ := HH.out.2.1.at hlt
        subst hA
        have hcall := HH.out.1 (t.kids[k]) (List.getElem_mem hlt) gk (ok + k * 4) (n + 1 + nodesL (t.kids.take k)) wr (hat.kept H.out.2.2 (by simpa using hok) (by simp)) hok (by omega) H.out.2.1 H.out.1
        have hnk := nodesL_take t.kids k hlt
        have hnl := nodesL_take_le t.kids (k + 1)
        have HC := Lib.hid (And.intro hcall (And.intro hnk (And.intro htn hnl)))
        clear hcall hat htn hnk hnl
        by_cases hfit : n + 1 + nodesL (t.kids.take k) + (t.kids[k]).nodes ≤ 2000
        · have hfb : decide (n + 1 + nodesL (t.kids.take k) + (t.kids[k]).nodes ≤ 2000) = true := by simpa using hfit
          go_wp2_with (go_at_call 106; refine HC.out.1.mono ?_; rintro e X ⟨n', rfl, h1, h2, h3⟩; have h2 := h2 hfit; have HX := Lib.hid (And.intro h1 (And.intro h2 h3)); clear h1 h2 h3)
          go_roundw
          case rel => exact ⟨k + 1, by omega, by go_num, by rw [HX.out.1, HX.out.2.1, HC.out.2.1, Int.natCast_add, ← Int.add_assoc], by rw [HC.out.2.1]; omega, H.out.2.2.trans HX.out.2.2⟩
          case measure => simp [intOf]; omega
        · have hfb : decide (n + 1 + nodesL (t.kids.take k) + (t.kids[k]).nodes ≤ 2000) = false := by simpa using hfit
          go_wp2_with (go_at_call 106; refine HC.out.1.mono ?_; rintro e X ⟨n', rfl, h1, h2, h3⟩; have HX := Lib.hid (And.intro h1 h3); clear h1 h2 h3)
          go_ret
          have h1 := HC.out.2.1
          have h2 := HC.out.2.2.1
          have h3 := HC.out.2.2.2
          exact ⟨n', by rw [decide_eq_false (by omega)]; rfl, HX.out.1, fun h => by omega, H.out.2.2.trans HX.out.2⟩
      · obtain rfl : k = t.kids.length := by omega
        go_wp2
        go_ret
        have h1 := H.out.1
        have h2 := H.out.2.1
        rw [List.take_of_length_le (Nat.le_refl _)] at h1 h2
        exact ⟨_, by rw [decide_eq_true (by omega)]; rfl, h1, fun h => by omega, H.out.2.2⟩
theorem small_any (t : Tr) (g o : Nat) (w : World) (hT : TrAt (fun b => b < w.heap.size) w g o t) (hg : g < w.heap.size) : Calls Try.prog 56 #[.pointer (some ⟨g, o, none⟩)] w fun e w' => e = .returned (.bool (decide (t.nodes ≤ 2000))) ∧ Chg [] w w' := by
  have hA : Chg [] w (w.alloc (.cells #[.int .i64 0] 3)) := (by with_reducible repeat (first | exact Chg.refl _ _ | apply Chg.alloc | apply Chg.drew | apply Chg.drewN | (refine Chg.setCell ?_ _ _ (by simp))))
  have hc := count_any w.heap.size t g o 0 (w.alloc (.cells #[.int .i64 0] 3)) ((hT.kept hA (by simp) (by simp)).weak (fun b hb => by omega)) (by omega) (by omega) (by omega) (heap_new _ _ rfl)
  have HC := Lib.hid (And.intro hc hA)
  clear hc hA hT
  go_enter Try.func56, Try.ntmps56
  go_wp2_with (go_at_call 106; refine HC.out.1.mono ?_; rintro e X ⟨n', rfl, h1, h2, h3⟩; have HX := Lib.hid h3; clear h1 h2 h3)
  go_ret
  exact ⟨by simp; omega, HC.out.2.andThen HX.out (by simp)⟩
/-! ### The first node of an id -/
mutual
/-- Where the first node of an id stands. -/
def Tr.path (id : Int) : Tr → Option (List Nat)
  | ⟨i, _, _, ks⟩ => if i = id then some [] else pathL id ks 0
def pathL (id : Int) : List Tr → Nat → Option (List Nat)
  | [], _ => none
  | k :: ks, n => match k.path id with
    | some p => some (n :: p)
    | none => pathL id ks (n + 1)
end
theorem Tr.path_eq (id : Int) (t : Tr) : t.path id = if t.id = id then some [] else pathL id t.kids 0 := by cases t; rfl
/-- Kid by kid: none ahead of the i-th has it. -/
theorem pathL_step (id : Int) : ∀ (ks : List Tr) (i n : Nat) (h : i < ks.length), (∀ j (hj : j < i), (ks[j]'(by omega)).path id = none) → pathL id ks n = match (ks[i]).path id with
    | some p => some ((n + i) :: p)
    | none => pathL id (ks.drop (i + 1)) (n + i + 1)
  | [], i, n, h, _ => by simp at h
  | k :: ks, 0, n, h, _ => by simp [pathL]
  | k :: ks, i + 1, n, h, hb => by
    have h0 := hb 0 (by omega)
    simp at h0
    have ih := pathL_step id ks i (n + 1) (by simpa using h) (fun j hj => by have := hb (j + 1) (by omega); simpa using this)
    rw [pathL, h0]
    simp only [List.getElem_cons_succ, List.drop_succ_cons]
    rw [ih]
    rw [show n + 1 + i = n + (i + 1) from by omega]
theorem pathL_none (id : Int) : ∀ (ks : List Tr) (n : Nat), (∀ j (hj : j < ks.length), (ks[j]).path id = none) → pathL id ks n = none
  | [], _, _ => rfl
  | k :: ks, n, h => by
    have h0 := h 0 (by simp)
    simp at h0
    rw [pathL, h0]
    exact pathL_none id ks (n + 1) (fun j hj => by have := h (j + 1) (by simpa using hj); simpa using this)
/-- The node at a path from a node: where it lies. -/
inductive NodeAt (w : World) : Nat → Nat → List Nat → Nat → Nat → Prop
  | here (g o : Nat) : NodeAt w g o [] g o
  | kid (g o b ob n c i : Nat) (p : List Nat) (g' o' : Nat) (h : w.cell? ⟨g, o + 3, none⟩ = some (.slice (some ⟨b, ob, none⟩) n c)) (hi : i < n) (hr : NodeAt w b (ob + i * 4) p g' o') : NodeAt w g o (i :: p) g' o'
def FindPost (t : Tr) (id : Int) (g o : Nat) (w : World) (e : Ending) (w' : World) : Prop :=
  w = w' ∧ ((t.path id = none ∧ e = .returned (.pointer none)) ∨ ∃ p g' o', t.path id = some p ∧ NodeAt w g o p g' o' ∧ e = .returned (.pointer (some ⟨g', o', none⟩)))
set_option maxHeartbeats 4000000 in
set_option maxRecDepth 100000 in
theorem find_any (id : Int) : ∀ (t : Tr) (g o : Nat) (w : World), TrAt (fun _ => True) w g o t → Calls Try.prog 102 #[.pointer (some ⟨g, o, none⟩), .int .i64 id] w (FindPost t id g o w) := by
  intro t
  induction t using Tr.ind with
  | h t ih =>
  intro g o w hT
  obtain ⟨A, c, c0, c1, c2, c3, hlc, hcm, htx, hK⟩ := hT.cells
  have HH := Lib.hid (And.intro ih (And.intro hK (And.intro hcm (And.intro hlc (Tr.path_eq id t)))))
  clear ih hT hK htx c1 c2
  by_cases hid : t.id = id
  · have hb : (t.id == id) = true := by simpa using hid
    have hp := HH.out.2.2.2.2
    rw [if_pos hid] at hp
    have HP := Lib.hid hp
    clear hid hp
    go_enter Try.func102, Try.ntmps102
    go_wp2
    go_ret
    exact ⟨rfl, .inr ⟨[], g, o, HP.out, .here g o, rfl⟩⟩
  · have hb : (t.id == id) = false := by simpa using hid
    have hp := HH.out.2.2.2.2
    rw [if_neg hid] at hp
    have HP := Lib.hid hp
    clear hid hp
    go_enter Try.func102, Try.ntmps102
    go_wp2_with fail
    go_loop [19] (fun i => ∃ k : Nat, k ≤ t.kids.length ∧ i = .int .i64 k ∧ Hid (∀ j (hj : j < k) (hl : j < t.kids.length), (t.kids[j]).path id = none)) (fun i => t.kids.length - (intOf i).toNat)
    case atStart => exact ⟨0, Nat.zero_le _, rfl, fun j hj => by omega⟩
    case round =>
      obtain ⟨k, hk, rfl, H⟩ := hrel
      by_cases hlt : k < t.kids.length
      · obtain ⟨gk, ok, hA, _, hat⟩ := HH.out.2.1.at hlt
        subst hA
        have hcall := HH.out.1 (t.kids[k]) (List.getElem_mem hlt) gk (ok + k * 4) w hat
        have HC := Lib.hid hcall
        clear hcall hat
        go_wp2_with fail
        refine HC.out.mono ?_
        rintro e X ⟨rfl, hres⟩
        rcases hres with ⟨hn, rfl⟩ | ⟨p, g', o', hp, hnode, rfl⟩
        · have HN := Lib.hid hn
          clear hn
          go_wp2
          go_round
          case rel => exact ⟨k + 1, by omega, by go_num, fun j hj hl => by
            rcases Nat.lt_or_ge j k with h | h
            · exact H.out j h hl
            · obtain rfl : j = k := by omega
              exact HN.out⟩
          case measure => simp [intOf]; omega
        · have HN := Lib.hid (And.intro hp hnode)
          clear hp hnode
          go_wp2
          go_ret
          refine ⟨rfl, .inr ⟨k :: p, g', o', ?_, .kid g o gk ok _ _ k p g' o' c3 hlt HN.out.2, rfl⟩⟩
          rw [HP.out, pathL_step id t.kids k 0 hlt (fun j hj => H.out j hj (by omega)), HN.out.1]
          simp
      · go_wp2
        go_ret
        exact ⟨rfl, .inl ⟨by rw [HP.out]; exact pathL_none id _ _ (fun j hj => H.out j (by omega) hj), rfl⟩⟩
end Go.Proofs.Ytofjocjljbkjgaa
